/- ShiftUrgent: the law returns true at every input that its statement lets in; there is no condition of this session's. (Joined by a program of this session, pack2.py: printed walks, the plain law, the row.) -/
import Derived.Test.YtbnjdlafnejanaaBa
import Derived.Test.YtbnjdlafnejanaaBb
import Derived.Test.YtbnjdlafnejanaaBc
import Derived.Test.YtbnjdlafnejanaaBd
import Derived.Test.YtbnjdlafnejanaaBe
import Derived.Test.YtbnjdlafnejanaaBf
import Derived.Test.YtbnjdlafnejanaaBg
import Derived.Test.YtbnjdlafnejanaaBh
set_option linter.unusedVariables false
set_option linter.unusedSimpArgs false
namespace Go.Proofs.Ytbnjdlafnejanaa.Pr
open Go.RowKit Go.Proofs.YtbnjdlafnejanaaW.PrintWords Go.Proofs.YtbnjdlafnejanaaW.PrintLast Go.Proofs.YtbnjdlafnejanaaW.PrintMore
attribute [local go_sem] max2_int min2_int max_two min_two max_three min_three max_four min_four   -- for this text's walks alone
set_option linter.unusedVariables false
set_option linter.unusedSimpArgs false
mutual
def letterbaglaw30_ShiftProves.j0 : Nat → List (S45) → List (S47) → Int → Int → Bool → Bool → Option (Bool)
 | 0, _, _, _, _, _, _ => none
 | k + 1, x5, x6, x9, x10, x11, x49 => if x49 = true then (some false) else (if x11 = true then (letterbaglaw30_ShiftProves.l0 k x6 x9 x10 0 x5 (x5.length : Int) 0) else (if x9 = 0 then (if x10 = 0 then ((letterbaglaw30_awake.f k).bind fun t294 => (some t294)) else (some false)) else (some false)))
def letterbaglaw30_ShiftProves.l0 : Nat → List (S47) → Int → Int → Int → List (S45) → Int → Int → Option (Bool)
 | 0, _, _, _, _, _, _, _ => none
 | k + 1, x6, x9, x10, x13, x61, x62, x63 => if x63 < x62 then (if 0 ≤ x63 then (if x63 < (x61.length : Int) then (if ((rd_T45 x61 x63).f1) ≥ x9 then (if ((rd_T45 x61 x63).f2) ≤ x10 then (letterbaglaw30_ShiftProves.l0 k x6 x9 x10 (wrap64 (x13 + ((rd_T45 x61 x63).f3))) x61 x62 (wrap64 (x63 + 1))) else (letterbaglaw30_ShiftProves.l0 k x6 x9 x10 x13 x61 x62 (wrap64 (x63 + 1)))) else (letterbaglaw30_ShiftProves.l0 k x6 x9 x10 x13 x61 x62 (wrap64 (x63 + 1)))) else (none)) else (none)) else (letterbaglaw30_ShiftProves.l1 k x9 x10 x13 x6 (x6.length : Int) 0)
def letterbaglaw30_ShiftProves.l1 : Nat → Int → Int → Int → List (S47) → Int → Int → Option (Bool)
 | 0, _, _, _, _, _, _ => none
 | k + 1, x9, x10, x13, x82, x83, x84 => if x84 < x83 then (if 0 ≤ x84 then (if x84 < (x82.length : Int) then (letterbaglaw30_ShiftProves.l2 k x9 x10 x13 ((rd_T47 x82 x84).f0) x82 x83 x84 ((rd_T47 x82 x84).f0) ((rd_T47 x82 x84).f1)) else (none)) else (none)) else (if x13 > 0 then ((letterbaglaw30_awake.f k).bind fun t297 => (some t297)) else (some false))
def letterbaglaw30_ShiftProves.l2 : Nat → Int → Int → Int → Int → List (S47) → Int → Int → Int → Int → Option (Bool)
 | 0, _, _, _, _, _, _, _, _, _ => none
 | k + 1, x9, x10, x13, x18, x82, x83, x84, x300000, x300001 => if x18 < x300001 then (if x18 ≥ x9 then (if x18 < x10 then (letterbaglaw30_ShiftProves.l2 k x9 x10 (wrap64 (x13 - 1)) (wrap64 (x18 + 1)) x82 x83 x84 x300000 x300001) else (letterbaglaw30_ShiftProves.l2 k x9 x10 x13 (wrap64 (x18 + 1)) x82 x83 x84 x300000 x300001)) else (letterbaglaw30_ShiftProves.l2 k x9 x10 x13 (wrap64 (x18 + 1)) x82 x83 x84 x300000 x300001)) else (letterbaglaw30_ShiftProves.l1 k x9 x10 x13 x82 x83 (wrap64 (x84 + 1)))
end
def letterbaglaw30_ShiftProves.f (k : Nat) (l0 : List (S61)) (l1 : List (S55)) : Option (Bool) := (letterbaglaw30_work.f k l0).bind fun t277 => ((letterbaglaw30_hours.f k l1).bind fun t280 => ((shift_Make.f t277 t280).bind fun bt283 => ((shift_Excess.f k t277 t280).bind fun bt287 => (if (wrap64 (bt283.2 + bt287.2.2.2)) = 0 then ((shift_Late.f k t277 bt283.1).bind fun t291 => (letterbaglaw30_ShiftProves.j0 k t277 t280 bt287.1 bt287.2.1 bt287.2.2.1 (bt287.2.2.1 != (decide ((t291.length : Int) > 0))))) else (letterbaglaw30_ShiftProves.j0 k t277 t280 bt287.1 bt287.2.1 bt287.2.2.1 true)))))
set_option maxHeartbeats 8000000 in
set_option maxRecDepth 100000 in
theorem letterbaglaw30_ShiftProves.calls (k : Nat) (A0 : Option Addr) (c0 : Nat) (l0 : List (S61)) (A1 : Option Addr) (c1 : Nat) (l1 : List (S55)) (w : World) (hr0 : Kd.C k61 w A0 l0.length l0) (hc0 : l0.length ≤ c0) (hr1 : Kd.C k55 w A1 l1.length l1) (hc1 : l1.length ≤ c1) (h : letterbaglaw30_ShiftProves.f k l0 l1 = some true) :
  Calls Try.prog 4 #[.slice A0 l0.length c0, .slice A1 l1.length c1] w fun e w' => e = .returned (.bool true) ∧ Below w.heap.size w w' := by
 have hu45 := Try.underlying45
 have hu47 := Try.underlying47
 have HR0 := Aside0.mk hr0
 have HC0 := Aside0.mk hc0
 clear hr0 hc0
 have HR1 := Aside0.mk hr1
 have HC1 := Aside0.mk hc1
 clear hr1 hc1
 have HB := Aside0.mk (Below.refl w.heap.size w)
 have H : ((letterbaglaw30_work.f k l0).bind fun t277 => ((letterbaglaw30_hours.f k l1).bind fun t280 => ((shift_Make.f t277 t280).bind fun bt283 => ((shift_Excess.f k t277 t280).bind fun bt287 => (if (wrap64 (bt283.2 + bt287.2.2.2)) = 0 then ((shift_Late.f k t277 bt283.1).bind fun t291 => (letterbaglaw30_ShiftProves.j0 k t277 t280 bt287.1 bt287.2.1 bt287.2.2.1 (bt287.2.2.1 != (decide ((t291.length : Int) > 0))))) else (letterbaglaw30_ShiftProves.j0 k t277 t280 bt287.1 bt287.2.1 bt287.2.2.1 true)))))) = some true := h
 clear h
 replace H := Option.bind_eq_some_iff.mp H
 obtain ⟨t277, A30, H⟩ := H
 replace H : ((letterbaglaw30_hours.f k l1).bind fun t280 => ((shift_Make.f t277 t280).bind fun bt283 => ((shift_Excess.f k t277 t280).bind fun bt287 => (if (wrap64 (bt283.2 + bt287.2.2.2)) = 0 then ((shift_Late.f k t277 bt283.1).bind fun t291 => (letterbaglaw30_ShiftProves.j0 k t277 t280 bt287.1 bt287.2.1 bt287.2.2.1 (bt287.2.2.1 != (decide ((t291.length : Int) > 0))))) else (letterbaglaw30_ShiftProves.j0 k t277 t280 bt287.1 bt287.2.1 bt287.2.2.1 true))))) = some true := H
 have A3 := Aside0.mk A30
 clear A30
 replace H := Option.bind_eq_some_iff.mp H
 obtain ⟨t280, A40, H⟩ := H
 replace H : ((shift_Make.f t277 t280).bind fun bt283 => ((shift_Excess.f k t277 t280).bind fun bt287 => (if (wrap64 (bt283.2 + bt287.2.2.2)) = 0 then ((shift_Late.f k t277 bt283.1).bind fun t291 => (letterbaglaw30_ShiftProves.j0 k t277 t280 bt287.1 bt287.2.1 bt287.2.2.1 (bt287.2.2.1 != (decide ((t291.length : Int) > 0))))) else (letterbaglaw30_ShiftProves.j0 k t277 t280 bt287.1 bt287.2.1 bt287.2.2.1 true)))) = some true := H
 have A4 := Aside0.mk A40
 clear A40
 replace H := Option.bind_eq_some_iff.mp H
 obtain ⟨⟨t283, t284⟩, A50, H⟩ := H
 replace H : ((shift_Excess.f k t277 t280).bind fun bt287 => (if (wrap64 (t284 + bt287.2.2.2)) = 0 then ((shift_Late.f k t277 t283).bind fun t291 => (letterbaglaw30_ShiftProves.j0 k t277 t280 bt287.1 bt287.2.1 bt287.2.2.1 (bt287.2.2.1 != (decide ((t291.length : Int) > 0))))) else (letterbaglaw30_ShiftProves.j0 k t277 t280 bt287.1 bt287.2.1 bt287.2.2.1 true))) = some true := H
 have A5 := Aside0.mk A50
 clear A50
 replace H := Option.bind_eq_some_iff.mp H
 obtain ⟨⟨t287, t288, t289, t290⟩, A60, H⟩ := H
 replace H : (if (wrap64 (t284 + t290)) = 0 then ((shift_Late.f k t277 t283).bind fun t291 => (letterbaglaw30_ShiftProves.j0 k t277 t280 t287 t288 t289 (t289 != (decide ((t291.length : Int) > 0))))) else (letterbaglaw30_ShiftProves.j0 k t277 t280 t287 t288 t289 true)) = some true := H
 have A6 := Aside0.mk A60
 clear A60
 have HC7 := Aside0.mk H
 clear H
 go_enter Try.func4, Try.ntmps4
 go_upto_region 4 with (first | ((with_reducible refine gate_callee (f := 10) rfl ?_); refine goesL_ (some 20) rfl rfl Try.func10 (by kernel_rfl) rfl #[.slice A0 l0.length c0] rfl (by (try simp only [List.map_toArray, List.map_cons, List.map_nil]); rfl) ?_; (with_reducible refine (letterbaglaw30_work.calls k _ _ l0 t277 _ ?side1 ?side2 A3.out).mono ?_); (case side1 => repeat (exact HR0.out)); (case side2 => exact HC0.out); rintro e w8 ⟨v278, rfl, ho0, hb⟩; refine ⟨_, rfl, ?_⟩; have n0_ := Aside0.mk (Kd.R_lower ho0 (below_size (by repeat ((with_reducible exact HB.out))))); have n1_ := Aside0.mk (below_step (by repeat ((with_reducible exact HB.out))) hb); clear HB; have HO279 := n0_; have HB := n1_; clear n0_ n1_; (try clear hb); (try clear hb2); (try clear hk); (try clear hi); (try clear ho0)) | ((with_reducible refine gate_callee (f := 11) rfl ?_); refine goesL_ (some 22) rfl rfl Try.func11 (by kernel_rfl) rfl #[.slice A1 l1.length c1] rfl (by (try simp only [List.map_toArray, List.map_cons, List.map_nil]); rfl) ?_; (with_reducible refine (letterbaglaw30_hours.calls k _ _ l1 t280 _ ?side1 ?side2 A4.out).mono ?_); (case side1 => repeat (exact (Kd.C_below HR1.out HB.out))); (case side2 => exact HC1.out); rintro e w9 ⟨v281, rfl, ho0, hb⟩; refine ⟨_, rfl, ?_⟩; have n0_ := Aside0.mk (Kd.R_below (by (with_reducible repeat (fail)); exact HO279.out) hb); have n1_ := Aside0.mk (Kd.R_lower ho0 (below_size (by repeat ((with_reducible exact HB.out))))); have n2_ := Aside0.mk (below_step (by repeat ((with_reducible exact HB.out))) hb); clear HO279; clear HB; have HO279 := n0_; have HO282 := n1_; have HB := n2_; clear n0_ n1_ n2_; (try clear hb); (try clear hb2); (try clear hk); (try clear hi); (try clear ho0); obtain ⟨Ao10, co10, eo10⟩ := Kd.R_slice HO279.out; subst eo10; obtain ⟨Ao11, co11, eo11⟩ := Kd.R_slice HO282.out; subst eo11) | ((with_reducible refine gate_callee (f := 12) rfl ?_); refine goesL_ (some 26) rfl rfl Try.func12 (by kernel_rfl) rfl #[.slice Ao10 t277.length co10, .slice Ao11 t280.length co11] rfl (by (try simp only [List.map_toArray, List.map_cons, List.map_nil]); rfl) ?_; (with_reducible refine (shift_Make.calls _ _ t277 _ _ t280 t283 t284 _ ?side1 ?side2 ?side3 ?side4 A5.out).mono ?_); (case side1 => repeat (exact (Kd.R_reads' HO279.out).2.2)); (case side2 => exact (Kd.R_reads' HO279.out).2.1); (case side3 => repeat (exact (Kd.R_reads' HO282.out).2.2)); (case side4 => exact (Kd.R_reads' HO282.out).2.1); rintro e w12 ⟨v285, rfl, ho0, hb⟩; refine ⟨_, rfl, ?_⟩; have n0_ := Aside0.mk (Kd.R_below (by (with_reducible repeat (fail)); exact HO279.out) hb); have n1_ := Aside0.mk (Kd.R_below (by (with_reducible repeat (fail)); exact HO282.out) hb); have n2_ := Aside0.mk (Kd.R_lower ho0 (below_size (by repeat ((with_reducible exact HB.out))))); have n3_ := Aside0.mk (below_step (by repeat ((with_reducible exact HB.out))) hb); clear HO279; clear HO282; clear HB; have HO279 := n0_; have HO282 := n1_; have HO286 := n2_; have HB := n3_; clear n0_ n1_ n2_ n3_; (try clear hb); (try clear hb2); (try clear hk); (try clear hi); (try clear ho0)) | ((with_reducible refine gate_callee (f := 18) rfl ?_); refine goesL_ (some 32) rfl rfl Try.func18 (by kernel_rfl) rfl #[.slice Ao10 t277.length co10, .slice Ao11 t280.length co11] rfl (by (try simp only [List.map_toArray, List.map_cons, List.map_nil]); rfl) ?_; (with_reducible refine (shift_Excess.calls k _ _ t277 _ _ t280 t287 t288 t289 t290 _ ?side1 ?side2 ?side3 ?side4 A6.out).mono ?_); (case side1 => repeat (exact (Kd.R_reads' HO279.out).2.2)); (case side2 => exact (Kd.R_reads' HO279.out).2.1); (case side3 => repeat (exact (Kd.R_reads' HO282.out).2.2)); (case side4 => exact (Kd.R_reads' HO282.out).2.1); rintro e w13 ⟨rfl, hb⟩; refine ⟨_, rfl, ?_⟩; have n0_ := Aside0.mk (Kd.R_below (by (with_reducible repeat (fail)); exact HO279.out) hb); have n1_ := Aside0.mk (Kd.R_below (by (with_reducible repeat (fail)); exact HO282.out) hb); have n2_ := Aside0.mk (Kd.R_below (by (with_reducible repeat (fail)); exact HO286.out) hb); have n3_ := Aside0.mk (below_step (by repeat ((with_reducible exact HB.out))) hb); clear HO279; clear HO282; clear HO286; clear HB; have HO279 := n0_; have HO282 := n1_; have HO286 := n2_; have HB := n3_; clear n0_ n1_ n2_ n3_; (try clear hb); (try clear hb2); (try clear hk); (try clear hi)))
 (try simp only [Act.put, List.setIfInBounds_toArray, List.set_cons_zero, List.set_cons_succ])
 go_cut [49] (fun v49 wc => ∃ (kq : Nat) (x49_6 : Bool), v49 = .bool x49_6 ∧ Aside0 (letterbaglaw30_ShiftProves.j0 kq t277 t280 t287 t288 t289 x49_6 = some true) ∧ Aside0 (kq ≤ k) ∧ Aside0 (Kd.R k45 45 wc w.heap.size (fun _ => True) (.slice Ao10 t277.length co10) t277) ∧ Aside0 (Kd.R k47 47 wc w.heap.size (fun _ => True) (.slice Ao11 t280.length co11) t280) ∧ Aside0 (Below w.heap.size w wc))
 case first =>
  have H := HC7.out
  clear HC7
  by_cases c14 : (wrap64 (t284 + t290)) = 0
  ·rw [if_pos c14] at H
   have c14b0 : ((wrap64 (t284 + t290)) == 0) = true := beq_iff_eq.mpr c14
   have c14b1 : ((wrap64 (t284 + t290)) != 0) = false := bne_eq_false_iff_eq.mpr c14
   clear c14
   (skip)
   replace H := Option.bind_eq_some_iff.mp H
   obtain ⟨t291, A150, H⟩ := H
   replace H : (letterbaglaw30_ShiftProves.j0 k t277 t280 t287 t288 t289 (t289 != (decide ((t291.length : Int) > 0)))) = some true := H
   have A15 := Aside0.mk A150
   clear A150
   have H' := Aside0.mk H
   clear H
   obtain ⟨Ao16, co16, eo16⟩ := Kd.R_slice HO286.out
   subst eo16
   go_wp2_with ((go_at_call 15; (with_reducible refine (shift_Late.calls k _ _ t277 _ _ t283 t291 _ ?side1 ?side2 ?side3 ?side4 A15.out).mono ?_); (case side1 => repeat (exact (Kd.R_reads' HO279.out).2.2)); (case side2 => exact (Kd.R_reads' HO279.out).2.1); (case side3 => repeat (exact (Kd.R_reads' HO286.out).2.2)); (case side4 => exact (Kd.R_reads' HO286.out).2.1); rintro e w17 ⟨v292, rfl, ho0, hb⟩; have n0_ := Aside0.mk (Kd.R_below (by (with_reducible repeat (fail)); exact HO279.out) hb); have n1_ := Aside0.mk (Kd.R_below (by (with_reducible repeat (fail)); exact HO282.out) hb); have n2_ := Aside0.mk (Kd.R_below (by (with_reducible repeat (fail)); exact HO286.out) hb); have n3_ := Aside0.mk (Kd.R_lower ho0 (below_size (by repeat ((with_reducible exact HB.out))))); have n4_ := Aside0.mk (below_step (by repeat ((with_reducible exact HB.out))) hb); clear HO279; clear HO282; clear HO286; clear HB; have HO279 := n0_; have HO282 := n1_; have HO286 := n2_; have HO293 := n3_; have HB := n4_; clear n0_ n1_ n2_ n3_ n4_; (try clear hb); (try clear hb2); (try clear hk); (try clear hi); (try clear ho0); obtain ⟨Ao18, co18, eo18⟩ := Kd.R_slice HO293.out; subst eo18))
   go_meet
   case rel => exact ⟨_, ((t289 != (decide ((t291.length : Int) > 0)))), (by (simp; exact (show ∀ a_ b_ : Bool, (a_ == b_) = (!(a_ != b_)) from by decide) _ _)), H', ⟨by omega⟩, ⟨by (with_reducible repeat (fail)); exact HO279.out⟩, ⟨by (with_reducible repeat (fail)); exact HO282.out⟩, ⟨by repeat ((with_reducible exact HB.out))⟩⟩
  ·rw [if_neg c14] at H
   have c14b0 : ((wrap64 (t284 + t290)) == 0) = false := beq_eq_false_iff_ne.mpr c14
   have c14b1 : ((wrap64 (t284 + t290)) != 0) = true := bne_iff_ne.mpr c14
   (skip)
   have H' := Aside0.mk H
   clear H
   go_wp2
   go_meet
   case rel => exact ⟨_, (true), (by rfl), H', ⟨by omega⟩, ⟨by (with_reducible repeat (fail)); exact HO279.out⟩, ⟨by (with_reducible repeat (fail)); exact HO282.out⟩, ⟨by repeat ((with_reducible exact HB.out))⟩⟩
 case rest =>
  clear HC7
  try clear c1
  try clear p2
  try clear c4
  try clear p6
  try clear c10
  try clear c11
  try clear c12
  try clear c14
  try clear c14b0
  try clear c14b1
  try clear c18
  obtain ⟨kq, x49_6, rfl, HA, HJ6, HO_5, HO_6, HB⟩ := hcut
  cases kq with
  | zero => exact absurd HA.out (by simp [letterbaglaw30_ShiftProves.j0])
  | succ kj6 =>
   have H := HA.out
   clear HA
   simp only [letterbaglaw30_ShiftProves.j0] at H
   by_cases c19 : x49_6 = true
   ·subst c19
    have H1 : (some false) = some true := by rw [if_pos rfl] at H; exact H
    clear H
    have H := H1
    clear H1
    exact absurd H (by simp)
   ·replace c19 := Bool.eq_false_iff.mpr c19
    subst c19
    have H1 : (if t289 = true then (letterbaglaw30_ShiftProves.l0 kj6 t280 t287 t288 0 t277 (t277.length : Int) 0) else (if t287 = 0 then (if t288 = 0 then ((letterbaglaw30_awake.f kj6).bind fun t294 => (some t294)) else (some false)) else (some false))) = some true := by rw [if_neg (show ¬ (false = true) by decide)] at H; exact H
    clear H
    have H := H1
    clear H1
    by_cases c20 : t289 = true
    ·subst c20
     have H1 : (letterbaglaw30_ShiftProves.l0 kj6 t280 t287 t288 0 t277 (t277.length : Int) 0) = some true := by rw [if_pos rfl] at H; exact H
     clear H
     have H := H1
     clear H1
     have H' := Aside0.mk H
     clear H
     go_wp2
     go_loopg [13, 63] kj6 (fun kq v13 v63 w' => ∃ (x13_2 : Int) (x63_2 : Int), v13 = .int .i64 x13_2 ∧ v63 = .int .i64 x63_2 ∧ Aside0 (letterbaglaw30_ShiftProves.l0 kq t280 t287 t288 x13_2 t277 (t277.length : Int) x63_2 = some true) ∧ Aside0 (kq ≤ kj6) ∧ Aside0 (Kd.R k47 47 w' w.heap.size (fun _ => True) (.slice Ao11 t280.length co11) t280) ∧ Aside0 (Kd.R k45 45 w' w.heap.size (fun _ => True) (.slice Ao10 t277.length co10) t277) ∧ Aside0 (Below w.heap.size w w'))
     case atStart => exact ⟨(0), (0), (by rfl), (by rfl), H', ⟨Nat.le_refl _⟩, ⟨by (with_reducible repeat (fail)); exact HO_6.out⟩, ⟨by (with_reducible repeat (fail)); exact HO_5.out⟩, ⟨by repeat ((with_reducible exact HB.out))⟩⟩
     case round =>
      clear H'
      try clear c1
      try clear c2
      try clear p2
      try clear c4
      try clear p6
      try clear c10
      try clear c11
      try clear c12
      try clear c14
      try clear c14b0
      try clear c14b1
      try clear c18
      try clear c19
      try clear c20
      try clear p2
      try clear p6
      obtain ⟨x13_2, x63_2, rfl, rfl, HA, HK2, HO_6, HO_61, HB⟩ := hrel
      cases gk with
      | zero => exact absurd HA.out (by simp [letterbaglaw30_ShiftProves.l0])
      | succ k2 =>
       have H := HA.out
       clear HA
       simp only [letterbaglaw30_ShiftProves.l0] at H
       by_cases c21 : x63_2 < (t277.length : Int)
       ·rw [if_pos c21] at H
        have c21b0 : decide (x63_2 < (t277.length : Int)) = true := decide_eq_true c21
        clear c21
        by_cases c22 : 0 ≤ x63_2
        ·rw [if_pos c22] at H
         have c22b0 : decide (0 ≤ x63_2) = true := decide_eq_true c22
         clear c22
         by_cases c23 : x63_2 < (t277.length : Int)
         ·rw [if_pos c23] at H
          have c23b0 : decide (x63_2 < (t277.length : Int)) = true := decide_eq_true c23
          clear c23
          by_cases c24 : ((rd_T45 t277 x63_2).f1) ≥ t287
          ·rw [if_pos c24] at H
           have c24b0 : decide (t287 ≤ ((rd_T45 t277 x63_2).f1)) = true := decide_eq_true c24
           clear c24
           by_cases c25 : ((rd_T45 t277 x63_2).f2) ≤ t288
           ·rw [if_pos c25] at H
            have c25b0 : decide (((rd_T45 t277 x63_2).f2) ≤ t288) = true := decide_eq_true c25
            clear c25
            have H' := Aside0.mk H
            clear H
            have p295 : 0 ≤ (x63_2 : Int) := of_decide_eq_true (by (with_reducible assumption))
            have q295 : x63_2 < (t277.length : Int) := of_decide_eq_true (by (with_reducible assumption))
            obtain ⟨ad295, e295, hx295_0, hx295_1, hx295_2, hx295_3⟩ := at_T45 (Kd.R_reads' HO_61.out).2.2 x63_2 p295 q295
            cases e295
            replace p295 := eq_true p295
            replace q295 := eq_true q295
            go_wp2_with (((with_reducible refine gate_dst (N := 15) rfl ?_); (try (refine gate_guard (by rfl) ?_; dsimp only)); refine box_event ?hg (N := 15) ?hd (cs := #[.int .i64 0, .int .i64 0, .int .i64 0, .int .i64 0]) (t := 45) ?hr ?_; (case hd => rfl); (case hg => rfl); (case hr => (go_simp; done)); intro gb296 hg w26 hbox hb; have n0_ := Aside0.mk (Kd.R_below (by (with_reducible repeat (fail)); exact HO_6.out) hb); have n1_ := Aside0.mk (Kd.R_below (Kd.R_elderB (by (with_reducible repeat (fail)); exact HO_61.out) gb296 (Nat.le_of_eq hg.symm)) hb); have n2_ := Aside0.mk (below_step (by repeat ((with_reducible exact HB.out))) hb); have n3_ := Aside0.mk (hbox); have n4_ := Aside0.mk ((by rw [hg]; exact (below_size (by repeat ((with_reducible exact HB.out)))) : w.heap.size ≤ gb296)); have n5_ := Aside0.mk ((by rw [hg]; exact (below_size (by repeat ((with_reducible exact HB.out)))) : w.heap.size ≤ gb296)); clear HO_6; clear HO_61; clear HB; have HO_6 := n0_; have HO_61 := n1_; have HB := n2_; have BK296 := n3_; have GW296 := n4_; have GE296 := n5_; clear n0_ n1_ n2_ n3_ n4_ n5_; clear hb hbox hg; have hcz27_0 : w26.cell? ⟨gb296, 0, none⟩ = some (.int .i64 0) := (blk_cell BK296.out 0).trans rfl; have hcz27_1 : w26.cell? ⟨gb296, 1, none⟩ = some (.int .i64 0) := (blk_cell BK296.out 1).trans rfl; have hcz27_2 : w26.cell? ⟨gb296, 2, none⟩ = some (.int .i64 0) := (blk_cell BK296.out 2).trans rfl; have hcz27_3 : w26.cell? ⟨gb296, 3, none⟩ = some (.int .i64 0) := (blk_cell BK296.out 3).trans rfl; have hfz27_0 := blk_frozen BK296.out 0; have hfz27_1 := blk_frozen BK296.out 1; have hfz27_2 := blk_frozen BK296.out 2; have hfz27_3 := blk_frozen BK296.out 3))
            go_roundg k2
            case measure => have := HJ6.out; have := HK2.out; omega
            case rel => exact ⟨(wrap64 (x13_2 + ((rd_T45 t277 x63_2).f3))), (wrap64 (x63_2 + 1)), (by rfl), (by rfl), H', ⟨by have := HJ6.out; have := HK2.out; omega⟩, ⟨by (with_reducible repeat (fail)); exact Kd.R_mono (Kd.R_far (p := ⟨gb296, 3, none⟩) (Kd.R_far (p := ⟨gb296, 2, none⟩) (Kd.R_far (p := ⟨gb296, 1, none⟩) (Kd.R_far (p := ⟨gb296, 0, none⟩) (Kd.R_types HO_6.out BK296.out (by decide)) (fun _ hk => hk.2) (.int .i64 ((rd_T45 t277 x63_2).f0))) (fun _ hk => hk.2) (.int .i64 ((rd_T45 t277 x63_2).f1))) (fun _ hk => hk.2) (.int .i64 ((rd_T45 t277 x63_2).f2))) (fun _ hk => hk.2) (.int .i64 ((rd_T45 t277 x63_2).f3))) (fun _ hk => trivial)⟩, ⟨by (with_reducible repeat (fail)); exact Kd.R_mono (Kd.R_far (p := ⟨gb296, 3, none⟩) (Kd.R_far (p := ⟨gb296, 2, none⟩) (Kd.R_far (p := ⟨gb296, 1, none⟩) (Kd.R_far (p := ⟨gb296, 0, none⟩) (Kd.R_mono HO_61.out (fun k_ hk => (⟨hk, hk.2⟩ : _ ∧ k_ ≠ gb296))) (fun _ hk => hk.2) (.int .i64 ((rd_T45 t277 x63_2).f0))) (fun _ hk => hk.2) (.int .i64 ((rd_T45 t277 x63_2).f1))) (fun _ hk => hk.2) (.int .i64 ((rd_T45 t277 x63_2).f2))) (fun _ hk => hk.2) (.int .i64 ((rd_T45 t277 x63_2).f3))) (fun _ hk => trivial)⟩, ⟨by repeat ((with_reducible first | exact HB.out | refine below_set ?_ GE296.out))⟩⟩
           ·rw [if_neg c25] at H
            have c25b0 : decide (((rd_T45 t277 x63_2).f2) ≤ t288) = false := decide_eq_false c25
            clear c25
            have H' := Aside0.mk H
            clear H
            have p295 : 0 ≤ (x63_2 : Int) := of_decide_eq_true (by (with_reducible assumption))
            have q295 : x63_2 < (t277.length : Int) := of_decide_eq_true (by (with_reducible assumption))
            obtain ⟨ad295, e295, hx295_0, hx295_1, hx295_2, hx295_3⟩ := at_T45 (Kd.R_reads' HO_61.out).2.2 x63_2 p295 q295
            cases e295
            replace p295 := eq_true p295
            replace q295 := eq_true q295
            go_wp2_with (((with_reducible refine gate_dst (N := 15) rfl ?_); (try (refine gate_guard (by rfl) ?_; dsimp only)); refine box_event ?hg (N := 15) ?hd (cs := #[.int .i64 0, .int .i64 0, .int .i64 0, .int .i64 0]) (t := 45) ?hr ?_; (case hd => rfl); (case hg => rfl); (case hr => (go_simp; done)); intro gb296 hg w28 hbox hb; have n0_ := Aside0.mk (Kd.R_below (by (with_reducible repeat (fail)); exact HO_6.out) hb); have n1_ := Aside0.mk (Kd.R_below (Kd.R_elderB (by (with_reducible repeat (fail)); exact HO_61.out) gb296 (Nat.le_of_eq hg.symm)) hb); have n2_ := Aside0.mk (below_step (by repeat ((with_reducible exact HB.out))) hb); have n3_ := Aside0.mk (hbox); have n4_ := Aside0.mk ((by rw [hg]; exact (below_size (by repeat ((with_reducible exact HB.out)))) : w.heap.size ≤ gb296)); have n5_ := Aside0.mk ((by rw [hg]; exact (below_size (by repeat ((with_reducible exact HB.out)))) : w.heap.size ≤ gb296)); clear HO_6; clear HO_61; clear HB; have HO_6 := n0_; have HO_61 := n1_; have HB := n2_; have BK296 := n3_; have GW296 := n4_; have GE296 := n5_; clear n0_ n1_ n2_ n3_ n4_ n5_; clear hb hbox hg; have hcz29_0 : w28.cell? ⟨gb296, 0, none⟩ = some (.int .i64 0) := (blk_cell BK296.out 0).trans rfl; have hcz29_1 : w28.cell? ⟨gb296, 1, none⟩ = some (.int .i64 0) := (blk_cell BK296.out 1).trans rfl; have hcz29_2 : w28.cell? ⟨gb296, 2, none⟩ = some (.int .i64 0) := (blk_cell BK296.out 2).trans rfl; have hcz29_3 : w28.cell? ⟨gb296, 3, none⟩ = some (.int .i64 0) := (blk_cell BK296.out 3).trans rfl; have hfz29_0 := blk_frozen BK296.out 0; have hfz29_1 := blk_frozen BK296.out 1; have hfz29_2 := blk_frozen BK296.out 2; have hfz29_3 := blk_frozen BK296.out 3))
            go_roundg k2
            case measure => have := HJ6.out; have := HK2.out; omega
            case rel => exact ⟨(x13_2), (wrap64 (x63_2 + 1)), (by rfl), (by rfl), H', ⟨by have := HJ6.out; have := HK2.out; omega⟩, ⟨by (with_reducible repeat (fail)); exact Kd.R_mono (Kd.R_far (p := ⟨gb296, 3, none⟩) (Kd.R_far (p := ⟨gb296, 2, none⟩) (Kd.R_far (p := ⟨gb296, 1, none⟩) (Kd.R_far (p := ⟨gb296, 0, none⟩) (Kd.R_types HO_6.out BK296.out (by decide)) (fun _ hk => hk.2) (.int .i64 ((rd_T45 t277 x63_2).f0))) (fun _ hk => hk.2) (.int .i64 ((rd_T45 t277 x63_2).f1))) (fun _ hk => hk.2) (.int .i64 ((rd_T45 t277 x63_2).f2))) (fun _ hk => hk.2) (.int .i64 ((rd_T45 t277 x63_2).f3))) (fun _ hk => trivial)⟩, ⟨by (with_reducible repeat (fail)); exact Kd.R_mono (Kd.R_far (p := ⟨gb296, 3, none⟩) (Kd.R_far (p := ⟨gb296, 2, none⟩) (Kd.R_far (p := ⟨gb296, 1, none⟩) (Kd.R_far (p := ⟨gb296, 0, none⟩) (Kd.R_mono HO_61.out (fun k_ hk => (⟨hk, hk.2⟩ : _ ∧ k_ ≠ gb296))) (fun _ hk => hk.2) (.int .i64 ((rd_T45 t277 x63_2).f0))) (fun _ hk => hk.2) (.int .i64 ((rd_T45 t277 x63_2).f1))) (fun _ hk => hk.2) (.int .i64 ((rd_T45 t277 x63_2).f2))) (fun _ hk => hk.2) (.int .i64 ((rd_T45 t277 x63_2).f3))) (fun _ hk => trivial)⟩, ⟨by repeat ((with_reducible first | exact HB.out | refine below_set ?_ GE296.out))⟩⟩
          ·rw [if_neg c24] at H
           have c24b0 : decide (t287 ≤ ((rd_T45 t277 x63_2).f1)) = false := decide_eq_false c24
           clear c24
           have H' := Aside0.mk H
           clear H
           have p295 : 0 ≤ (x63_2 : Int) := of_decide_eq_true (by (with_reducible assumption))
           have q295 : x63_2 < (t277.length : Int) := of_decide_eq_true (by (with_reducible assumption))
           obtain ⟨ad295, e295, hx295_0, hx295_1, hx295_2, hx295_3⟩ := at_T45 (Kd.R_reads' HO_61.out).2.2 x63_2 p295 q295
           cases e295
           replace p295 := eq_true p295
           replace q295 := eq_true q295
           go_wp2_with (((with_reducible refine gate_dst (N := 15) rfl ?_); (try (refine gate_guard (by rfl) ?_; dsimp only)); refine box_event ?hg (N := 15) ?hd (cs := #[.int .i64 0, .int .i64 0, .int .i64 0, .int .i64 0]) (t := 45) ?hr ?_; (case hd => rfl); (case hg => rfl); (case hr => (go_simp; done)); intro gb296 hg w30 hbox hb; have n0_ := Aside0.mk (Kd.R_below (by (with_reducible repeat (fail)); exact HO_6.out) hb); have n1_ := Aside0.mk (Kd.R_below (Kd.R_elderB (by (with_reducible repeat (fail)); exact HO_61.out) gb296 (Nat.le_of_eq hg.symm)) hb); have n2_ := Aside0.mk (below_step (by repeat ((with_reducible exact HB.out))) hb); have n3_ := Aside0.mk (hbox); have n4_ := Aside0.mk ((by rw [hg]; exact (below_size (by repeat ((with_reducible exact HB.out)))) : w.heap.size ≤ gb296)); have n5_ := Aside0.mk ((by rw [hg]; exact (below_size (by repeat ((with_reducible exact HB.out)))) : w.heap.size ≤ gb296)); clear HO_6; clear HO_61; clear HB; have HO_6 := n0_; have HO_61 := n1_; have HB := n2_; have BK296 := n3_; have GW296 := n4_; have GE296 := n5_; clear n0_ n1_ n2_ n3_ n4_ n5_; clear hb hbox hg; have hcz31_0 : w30.cell? ⟨gb296, 0, none⟩ = some (.int .i64 0) := (blk_cell BK296.out 0).trans rfl; have hcz31_1 : w30.cell? ⟨gb296, 1, none⟩ = some (.int .i64 0) := (blk_cell BK296.out 1).trans rfl; have hcz31_2 : w30.cell? ⟨gb296, 2, none⟩ = some (.int .i64 0) := (blk_cell BK296.out 2).trans rfl; have hcz31_3 : w30.cell? ⟨gb296, 3, none⟩ = some (.int .i64 0) := (blk_cell BK296.out 3).trans rfl; have hfz31_0 := blk_frozen BK296.out 0; have hfz31_1 := blk_frozen BK296.out 1; have hfz31_2 := blk_frozen BK296.out 2; have hfz31_3 := blk_frozen BK296.out 3))
           go_roundg k2
           case measure => have := HJ6.out; have := HK2.out; omega
           case rel => exact ⟨(x13_2), (wrap64 (x63_2 + 1)), (by rfl), (by rfl), H', ⟨by have := HJ6.out; have := HK2.out; omega⟩, ⟨by (with_reducible repeat (fail)); exact Kd.R_mono (Kd.R_far (p := ⟨gb296, 3, none⟩) (Kd.R_far (p := ⟨gb296, 2, none⟩) (Kd.R_far (p := ⟨gb296, 1, none⟩) (Kd.R_far (p := ⟨gb296, 0, none⟩) (Kd.R_types HO_6.out BK296.out (by decide)) (fun _ hk => hk.2) (.int .i64 ((rd_T45 t277 x63_2).f0))) (fun _ hk => hk.2) (.int .i64 ((rd_T45 t277 x63_2).f1))) (fun _ hk => hk.2) (.int .i64 ((rd_T45 t277 x63_2).f2))) (fun _ hk => hk.2) (.int .i64 ((rd_T45 t277 x63_2).f3))) (fun _ hk => trivial)⟩, ⟨by (with_reducible repeat (fail)); exact Kd.R_mono (Kd.R_far (p := ⟨gb296, 3, none⟩) (Kd.R_far (p := ⟨gb296, 2, none⟩) (Kd.R_far (p := ⟨gb296, 1, none⟩) (Kd.R_far (p := ⟨gb296, 0, none⟩) (Kd.R_mono HO_61.out (fun k_ hk => (⟨hk, hk.2⟩ : _ ∧ k_ ≠ gb296))) (fun _ hk => hk.2) (.int .i64 ((rd_T45 t277 x63_2).f0))) (fun _ hk => hk.2) (.int .i64 ((rd_T45 t277 x63_2).f1))) (fun _ hk => hk.2) (.int .i64 ((rd_T45 t277 x63_2).f2))) (fun _ hk => hk.2) (.int .i64 ((rd_T45 t277 x63_2).f3))) (fun _ hk => trivial)⟩, ⟨by repeat ((with_reducible first | exact HB.out | refine below_set ?_ GE296.out))⟩⟩
         ·rw [if_neg c23] at H
          exact absurd H (by simp)
        ·rw [if_neg c22] at H
         exact absurd H (by simp)
       ·rw [if_neg c21] at H
        have c21b0 : decide (x63_2 < (t277.length : Int)) = false := decide_eq_false c21
        clear c21
        have H' := Aside0.mk H
        clear H
        go_wp2
        go_loopg [13, 84] k2 (fun kq v13 v84 w' => ∃ (x13_3 : Int) (x84_3 : Int), v13 = .int .i64 x13_3 ∧ v84 = .int .i64 x84_3 ∧ Aside0 (letterbaglaw30_ShiftProves.l1 kq t287 t288 x13_3 t280 (t280.length : Int) x84_3 = some true) ∧ Aside0 (kq ≤ k2) ∧ Aside0 (Kd.R k47 47 w' w.heap.size (fun _ => True) (.slice Ao11 t280.length co11) t280) ∧ Aside0 (Below w.heap.size w w'))
        case atStart => exact ⟨(x13_2), (0), (by rfl), (by rfl), H', ⟨Nat.le_refl _⟩, ⟨by (with_reducible repeat (fail)); exact HO_6.out⟩, ⟨by repeat ((with_reducible exact HB.out))⟩⟩
        case round =>
         clear H'
         try clear c1
         try clear c2
         try clear p2
         try clear q2
         try clear hx2
         try clear c4
         try clear p6
         try clear c10
         try clear c11
         try clear c12
         try clear c14
         try clear c14b0
         try clear c14b1
         try clear c18
         try clear c19
         try clear c20
         try clear c21
         try clear c21b0
         try clear c22
         try clear c22b0
         try clear c23
         try clear c23b0
         try clear c24
         try clear c24b0
         try clear c25
         try clear c25b0
         try clear p29
         try clear q29
         try clear hx29
         try clear hcz27_0
         try clear hcz27_1
         try clear hcz27_2
         try clear hcz27_3
         try clear hcz29_0
         try clear hcz29_1
         try clear hcz29_2
         try clear hcz29_3
         try clear hcz31_0
         try clear hcz31_1
         try clear hcz31_2
         try clear hcz31_3
         try clear hfz27_0
         try clear hfz27_1
         try clear hfz27_2
         try clear hfz27_3
         try clear hfz29_0
         try clear hfz29_1
         try clear hfz29_2
         try clear hfz29_3
         try clear hfz31_0
         try clear hfz31_1
         try clear hfz31_2
         try clear hfz31_3
         try clear hx295_0
         try clear hx295_1
         try clear hx295_2
         try clear hx295_3
         try clear p2
         try clear p295
         try clear p6
         try clear q295
         obtain ⟨x13_3, x84_3, rfl, rfl, HA, HK3, HO_82, HB⟩ := hrel
         cases gk with
         | zero => exact absurd HA.out (by simp [letterbaglaw30_ShiftProves.l1])
         | succ k3 =>
          have H := HA.out
          clear HA
          simp only [letterbaglaw30_ShiftProves.l1] at H
          by_cases c32 : x84_3 < (t280.length : Int)
          ·rw [if_pos c32] at H
           have c32b0 : decide (x84_3 < (t280.length : Int)) = true := decide_eq_true c32
           clear c32
           by_cases c33 : 0 ≤ x84_3
           ·rw [if_pos c33] at H
            have c33b0 : decide (0 ≤ x84_3) = true := decide_eq_true c33
            clear c33
            by_cases c34 : x84_3 < (t280.length : Int)
            ·rw [if_pos c34] at H
             have c34b0 : decide (x84_3 < (t280.length : Int)) = true := decide_eq_true c34
             clear c34
             have H' := Aside0.mk H
             clear H
             have p298 : 0 ≤ (x84_3 : Int) := of_decide_eq_true (by (with_reducible assumption))
             have q298 : x84_3 < (t280.length : Int) := of_decide_eq_true (by (with_reducible assumption))
             obtain ⟨ad298, e298, hx298_0, hx298_1⟩ := at_T47 (Kd.R_reads' HO_82.out).2.2 x84_3 p298 q298
             cases e298
             replace p298 := eq_true p298
             replace q298 := eq_true q298
             go_wp2_with (((with_reducible refine gate_dst (N := 17) rfl ?_); (try (refine gate_guard (by rfl) ?_; dsimp only)); refine box_event ?hg (N := 17) ?hd (cs := #[.int .i64 0, .int .i64 0]) (t := 47) ?hr ?_; (case hd => rfl); (case hg => rfl); (case hr => (go_simp; done)); intro gb299 hg w35 hbox hb; have n0_ := Aside0.mk (Kd.R_below (Kd.R_elderB (by (with_reducible repeat (fail)); exact HO_82.out) gb299 (Nat.le_of_eq hg.symm)) hb); have n1_ := Aside0.mk (below_step (by repeat ((with_reducible exact HB.out))) hb); have n2_ := Aside0.mk (hbox); have n3_ := Aside0.mk ((by rw [hg]; exact (below_size (by repeat ((with_reducible exact HB.out)))) : w.heap.size ≤ gb299)); have n4_ := Aside0.mk ((by rw [hg]; exact (below_size (by repeat ((with_reducible exact HB.out)))) : w.heap.size ≤ gb299)); clear HO_82; clear HB; have HO_82 := n0_; have HB := n1_; have BK299 := n2_; have GW299 := n3_; have GE299 := n4_; clear n0_ n1_ n2_ n3_ n4_; clear hb hbox hg; have hcz36_0 : w35.cell? ⟨gb299, 0, none⟩ = some (.int .i64 0) := (blk_cell BK299.out 0).trans rfl; have hcz36_1 : w35.cell? ⟨gb299, 1, none⟩ = some (.int .i64 0) := (blk_cell BK299.out 1).trans rfl; have hfz36_0 := blk_frozen BK299.out 0; have hfz36_1 := blk_frozen BK299.out 1))
             go_loopg [13, 18] k3 (fun kq v13 v18 w' => ∃ (x13_4 : Int) (x18_4 : Int), v13 = .int .i64 x13_4 ∧ v18 = .int .i64 x18_4 ∧ Aside0 (letterbaglaw30_ShiftProves.l2 kq t287 t288 x13_4 x18_4 t280 (t280.length : Int) x84_3 ((rd_T47 t280 x84_3).f0) ((rd_T47 t280 x84_3).f1) = some true) ∧ Aside0 (kq ≤ k3) ∧ Aside0 (Kd.R k47 47 w' w.heap.size (fun k_ => k_ ≠ gb299) (.slice (some ad298) t280.length co11) t280) ∧ Aside0 (w'.heap[gb299]? = some (.cells #[.int .i64 ((rd_T47 t280 x84_3).f0), .int .i64 ((rd_T47 t280 x84_3).f1)] 47 (0, 0))) ∧ Aside0 (Below w.heap.size w w'))
             case atStart => exact ⟨(x13_3), ((rd_T47 t280 x84_3).f0), (by rfl), (by rfl), H', ⟨Nat.le_refl _⟩, ⟨by (with_reducible repeat (fail)); exact Kd.R_mono (Kd.R_far (p := ⟨gb299, 1, none⟩) (Kd.R_far (p := ⟨gb299, 0, none⟩) (Kd.R_mono HO_82.out (fun k_ hk => (⟨hk, hk.2⟩ : _ ∧ k_ ≠ gb299))) (fun _ hk => hk.2) (.int .i64 ((rd_T47 t280 x84_3).f0))) (fun _ hk => hk.2) (.int .i64 ((rd_T47 t280 x84_3).f1))) (fun _ hk => hk.1.2)⟩, ⟨by (with_reducible repeat (fail)); refine blk_put (cs := #[.int .i64 ((rd_T47 t280 x84_3).f0), .int .i64 0]) ?_ 1 _ rfl; (with_reducible repeat (fail)); refine blk_put (cs := #[.int .i64 0, .int .i64 0]) ?_ 0 _ rfl; (with_reducible repeat (fail)); exact BK299.out⟩, ⟨by repeat ((with_reducible first | exact HB.out | refine below_set ?_ GE299.out))⟩⟩
             case round =>
              clear H'
              try clear c1
              try clear c2
              try clear p2
              try clear q2
              try clear hx2
              try clear c3
              try clear c4
              try clear p6
              try clear c10
              try clear c11
              try clear c12
              try clear c14
              try clear c14b0
              try clear c14b1
              try clear c18
              try clear c19
              try clear c20
              try clear c21
              try clear c21b0
              try clear c22
              try clear c22b0
              try clear c23
              try clear c23b0
              try clear c24
              try clear c24b0
              try clear c25
              try clear c25b0
              try clear p29
              try clear q29
              try clear hx29
              try clear c32
              try clear c32b0
              try clear c33
              try clear c33b0
              try clear c34
              try clear c34b0
              try clear hcz27_0
              try clear hcz27_1
              try clear hcz27_2
              try clear hcz27_3
              try clear hcz29_0
              try clear hcz29_1
              try clear hcz29_2
              try clear hcz29_3
              try clear hcz31_0
              try clear hcz31_1
              try clear hcz31_2
              try clear hcz31_3
              try clear hcz36_0
              try clear hcz36_1
              try clear hfz27_0
              try clear hfz27_1
              try clear hfz27_2
              try clear hfz27_3
              try clear hfz29_0
              try clear hfz29_1
              try clear hfz29_2
              try clear hfz29_3
              try clear hfz31_0
              try clear hfz31_1
              try clear hfz31_2
              try clear hfz31_3
              try clear hfz36_0
              try clear hfz36_1
              try clear hx295_0
              try clear hx295_1
              try clear hx295_2
              try clear hx295_3
              try clear hx298_0
              try clear hx298_1
              try clear p2
              try clear p29
              try clear p295
              try clear p298
              try clear p6
              try clear q2
              try clear q29
              try clear q295
              try clear q298
              obtain ⟨x13_4, x18_4, rfl, rfl, HA, HK4, HO_82, BK299, HB⟩ := hrel
              cases gk with
              | zero => exact absurd HA.out (by simp [letterbaglaw30_ShiftProves.l2])
              | succ k4 =>
               have H := HA.out
               clear HA
               simp only [letterbaglaw30_ShiftProves.l2] at H
               by_cases c37 : x18_4 < ((rd_T47 t280 x84_3).f1)
               ·rw [if_pos c37] at H
                have c37b0 : decide (x18_4 < ((rd_T47 t280 x84_3).f1)) = true := decide_eq_true c37
                clear c37
                by_cases c38 : x18_4 ≥ t287
                ·rw [if_pos c38] at H
                 have c38b0 : decide (t287 ≤ x18_4) = true := decide_eq_true c38
                 clear c38
                 by_cases c39 : x18_4 < t288
                 ·rw [if_pos c39] at H
                  have c39b0 : decide (x18_4 < t288) = true := decide_eq_true c39
                  clear c39
                  have H' := Aside0.mk H
                  clear H
                  have hcz40_0 : wr.cell? ⟨gb299, 0, none⟩ = some (.int .i64 ((rd_T47 t280 x84_3).f0)) := (blk_cell BK299.out 0).trans rfl
                  have hcz40_1 : wr.cell? ⟨gb299, 1, none⟩ = some (.int .i64 ((rd_T47 t280 x84_3).f1)) := (blk_cell BK299.out 1).trans rfl
                  have hfz40_0 := blk_frozen BK299.out 0
                  have hfz40_1 := blk_frozen BK299.out 1
                  go_wp2
                  go_roundg k4
                  case measure => have := HJ6.out; have := HK2.out; have := HK3.out; have := HK4.out; omega
                  case rel => exact ⟨(wrap64 (x13_4 - 1)), (wrap64 (x18_4 + 1)), (by rfl), (by rfl), H', ⟨by have := HJ6.out; have := HK2.out; have := HK3.out; have := HK4.out; omega⟩, ⟨by (with_reducible repeat (fail)); exact HO_82.out⟩, ⟨by (with_reducible repeat (fail)); exact BK299.out⟩, ⟨by repeat ((with_reducible exact HB.out))⟩⟩
                 ·rw [if_neg c39] at H
                  have c39b0 : decide (x18_4 < t288) = false := decide_eq_false c39
                  clear c39
                  have H' := Aside0.mk H
                  clear H
                  have hcz41_0 : wr.cell? ⟨gb299, 0, none⟩ = some (.int .i64 ((rd_T47 t280 x84_3).f0)) := (blk_cell BK299.out 0).trans rfl
                  have hcz41_1 : wr.cell? ⟨gb299, 1, none⟩ = some (.int .i64 ((rd_T47 t280 x84_3).f1)) := (blk_cell BK299.out 1).trans rfl
                  have hfz41_0 := blk_frozen BK299.out 0
                  have hfz41_1 := blk_frozen BK299.out 1
                  go_wp2
                  go_roundg k4
                  case measure => have := HJ6.out; have := HK2.out; have := HK3.out; have := HK4.out; omega
                  case rel => exact ⟨(x13_4), (wrap64 (x18_4 + 1)), (by rfl), (by rfl), H', ⟨by have := HJ6.out; have := HK2.out; have := HK3.out; have := HK4.out; omega⟩, ⟨by (with_reducible repeat (fail)); exact HO_82.out⟩, ⟨by (with_reducible repeat (fail)); exact BK299.out⟩, ⟨by repeat ((with_reducible exact HB.out))⟩⟩
                ·rw [if_neg c38] at H
                 have c38b0 : decide (t287 ≤ x18_4) = false := decide_eq_false c38
                 clear c38
                 have H' := Aside0.mk H
                 clear H
                 have hcz42_0 : wr.cell? ⟨gb299, 0, none⟩ = some (.int .i64 ((rd_T47 t280 x84_3).f0)) := (blk_cell BK299.out 0).trans rfl
                 have hcz42_1 : wr.cell? ⟨gb299, 1, none⟩ = some (.int .i64 ((rd_T47 t280 x84_3).f1)) := (blk_cell BK299.out 1).trans rfl
                 have hfz42_0 := blk_frozen BK299.out 0
                 have hfz42_1 := blk_frozen BK299.out 1
                 go_wp2
                 go_roundg k4
                 case measure => have := HJ6.out; have := HK2.out; have := HK3.out; have := HK4.out; omega
                 case rel => exact ⟨(x13_4), (wrap64 (x18_4 + 1)), (by rfl), (by rfl), H', ⟨by have := HJ6.out; have := HK2.out; have := HK3.out; have := HK4.out; omega⟩, ⟨by (with_reducible repeat (fail)); exact HO_82.out⟩, ⟨by (with_reducible repeat (fail)); exact BK299.out⟩, ⟨by repeat ((with_reducible exact HB.out))⟩⟩
               ·rw [if_neg c37] at H
                have c37b0 : decide (x18_4 < ((rd_T47 t280 x84_3).f1)) = false := decide_eq_false c37
                clear c37
                have H' := Aside0.mk H
                clear H
                have hcz43_0 : wr.cell? ⟨gb299, 0, none⟩ = some (.int .i64 ((rd_T47 t280 x84_3).f0)) := (blk_cell BK299.out 0).trans rfl
                have hcz43_1 : wr.cell? ⟨gb299, 1, none⟩ = some (.int .i64 ((rd_T47 t280 x84_3).f1)) := (blk_cell BK299.out 1).trans rfl
                have hfz43_0 := blk_frozen BK299.out 0
                have hfz43_1 := blk_frozen BK299.out 1
                go_wp2
                go_roundg k4
                case measure => have := HJ6.out; have := HK2.out; have := HK3.out; have := HK4.out; omega
                case rel => exact ⟨(x13_4), (wrap64 (x84_3 + 1)), (by rfl), (by rfl), H', ⟨by have := HJ6.out; have := HK2.out; have := HK3.out; have := HK4.out; omega⟩, ⟨by (with_reducible repeat (fail)); exact Kd.R_mono HO_82.out (fun _ hk => trivial)⟩, ⟨by repeat ((with_reducible exact HB.out))⟩⟩
            ·rw [if_neg c34] at H
             exact absurd H (by simp)
           ·rw [if_neg c33] at H
            exact absurd H (by simp)
          ·rw [if_neg c32] at H
           have c32b0 : decide (x84_3 < (t280.length : Int)) = false := decide_eq_false c32
           clear c32
           by_cases c44 : x13_3 > 0
           ·rw [if_pos c44] at H
            have c44b0 : decide (0 < x13_3) = true := decide_eq_true c44
            clear c44
            replace H := Option.bind_eq_some_iff.mp H
            obtain ⟨t297, A450, H⟩ := H
            replace H : (some t297) = some true := H
            have A45 := Aside0.mk A450
            clear A450
            have HT_ := Aside0.mk (Option.some.inj H)
            go_wp2_with ((go_at_call 17; (with_reducible refine (letterbaglaw30_awake.calls k3  t297 _ A45.out).mono ?_); rintro e w46 ⟨rfl, hb⟩; have n0_ := Aside0.mk (Kd.R_below (by (with_reducible repeat (fail)); exact HO_82.out) hb); have n1_ := Aside0.mk (below_step (by repeat ((with_reducible exact HB.out))) hb); clear HO_82; clear HB; have HO_82 := n0_; have HB := n1_; clear n0_ n1_; (try clear hb); (try clear hb2); (try clear hk); (try clear hi)))
            go_ret
            exact ⟨by (rw [HT_.out]; rfl), by repeat ((with_reducible exact HB.out))⟩
           ·rw [if_neg c44] at H
            have c44b0 : decide (0 < x13_3) = false := decide_eq_false c44
            clear c44
            exact absurd H (by simp)
    ·replace c20 := Bool.eq_false_iff.mpr c20
     subst c20
     have H1 : (if t287 = 0 then (if t288 = 0 then ((letterbaglaw30_awake.f kj6).bind fun t294 => (some t294)) else (some false)) else (some false)) = some true := by rw [if_neg (show ¬ (false = true) by decide)] at H; exact H
     clear H
     have H := H1
     clear H1
     by_cases c47 : t287 = 0
     ·rw [if_pos c47] at H
      have c47b0 : (t287 == 0) = true := beq_iff_eq.mpr c47
      have c47b1 : (t287 != 0) = false := bne_eq_false_iff_eq.mpr c47
      clear c47
      by_cases c48 : t288 = 0
      ·rw [if_pos c48] at H
       have c48b0 : (t288 == 0) = true := beq_iff_eq.mpr c48
       have c48b1 : (t288 != 0) = false := bne_eq_false_iff_eq.mpr c48
       clear c48
       replace H := Option.bind_eq_some_iff.mp H
       obtain ⟨t294, A490, H⟩ := H
       replace H : (some t294) = some true := H
       have A49 := Aside0.mk A490
       clear A490
       have HT_ := Aside0.mk (Option.some.inj H)
       go_wp2_with ((go_at_call 17; (with_reducible refine (letterbaglaw30_awake.calls kj6  t294 _ A49.out).mono ?_); rintro e w50 ⟨rfl, hb⟩; have n0_ := Aside0.mk (Kd.R_below (by (with_reducible repeat (fail)); exact HO_5.out) hb); have n1_ := Aside0.mk (Kd.R_below (by (with_reducible repeat (fail)); exact HO_6.out) hb); have n2_ := Aside0.mk (below_step (by repeat ((with_reducible exact HB.out))) hb); clear HO_5; clear HO_6; clear HB; have HO_5 := n0_; have HO_6 := n1_; have HB := n2_; clear n0_ n1_ n2_; (try clear hb); (try clear hb2); (try clear hk); (try clear hi)))
       go_ret
       exact ⟨by (rw [HT_.out]; rfl), by repeat ((with_reducible exact HB.out))⟩
      ·rw [if_neg c48] at H
       have c48b0 : (t288 == 0) = false := beq_eq_false_iff_ne.mpr c48
       have c48b1 : (t288 != 0) = true := bne_iff_ne.mpr c48
       exact absurd H (by simp)
     ·rw [if_neg c47] at H
      have c47b0 : (t287 == 0) = false := beq_eq_false_iff_ne.mpr c47
      have c47b1 : (t287 != 0) = true := bne_iff_ne.mpr c47
      exact absurd H (by simp)
def letterbaglaw30_running.l0 : Nat → Int → List (S51) → Int → Int → Option (Int)
 | 0, _, _, _, _ => none
 | k + 1, x1, x7, x8, x9 => if x9 < x8 then (if 0 ≤ x9 then (if x9 < (x7.length : Int) then (if ((rd_T51 x7 x9).f1) ≤ x1 then (if x1 < ((rd_T51 x7 x9).f2) then (some ((rd_T51 x7 x9).f0)) else (letterbaglaw30_running.l0 k x1 x7 x8 (wrap64 (x9 + 1)))) else (letterbaglaw30_running.l0 k x1 x7 x8 (wrap64 (x9 + 1)))) else (none)) else (none)) else (some 0)
def letterbaglaw30_running.f (k : Nat) (l0 : List (S51)) (a1 : Int) : Option (Int) := letterbaglaw30_running.l0 k a1 l0 (l0.length : Int) 0
theorem letterbaglaw30_running.mono_l : ∀ k, (∀ y0 y1 y2 y3, LeO (letterbaglaw30_running.l0 k y0 y1 y2 y3) (letterbaglaw30_running.l0 (k + 1) y0 y1 y2 y3))
 | 0 => fun _ _ _ _ r h => by simp [letterbaglaw30_running.l0] at h
 | k + 1 => by
  have ih0 := letterbaglaw30_running.mono_l k
  ·intro y0 y1 y2 y3
   unfold letterbaglaw30_running.l0
   repeat' first
   | (with_reducible exact ih0 _ _ _ _)
   | (with_reducible exact LeO.refl _)
   | (with_reducible exact LeO.none _)
   | (with_reducible refine LeO.ite ?_ ?_)
   | (with_reducible refine LeO.bind ?_ (fun _ => ?_))
   | exact ih0 _ _ _ _
   | exact LeO.none _
   | refine LeO.ite ?_ ?_
   | refine LeO.bind ?_ (fun _ => ?_)
theorem letterbaglaw30_running.mono : ∀ a0 a1 k, LeO (letterbaglaw30_running.f k a0 a1) (letterbaglaw30_running.f (k + 1) a0 a1) := by
 intro a0 a1 k
 have ih0 := letterbaglaw30_running.mono_l k
 unfold letterbaglaw30_running.f
 repeat' first
  | (with_reducible exact ih0 _ _ _ _)
  | (with_reducible exact LeO.refl _)
  | (with_reducible exact LeO.none _)
  | (with_reducible refine LeO.ite ?_ ?_)
  | (with_reducible refine LeO.bind ?_ (fun _ => ?_))
  | exact ih0 _ _ _ _
  | exact LeO.none _
  | refine LeO.ite ?_ ?_
  | refine LeO.bind ?_ (fun _ => ?_)
set_option maxHeartbeats 8000000 in
set_option maxRecDepth 100000 in
theorem letterbaglaw30_running.calls (k : Nat) (A0 : Option Addr) (c0 : Nat) (l0 : List (S51)) (a1 : Int) (r : Int) (w : World) (hr0 : Kd.C k51 w A0 l0.length l0) (hc0 : l0.length ≤ c0) (h : letterbaglaw30_running.f k l0 a1 = some r) :
  Calls Try.prog 19 #[.slice A0 l0.length c0, .int .i64 a1] w fun e w' => e = .returned (.int .i64 r) ∧ Below w.heap.size w w' := by
 have hu51 := Try.underlying51
 have HR0 := Aside0.mk hr0
 have HC0 := Aside0.mk hc0
 clear hr0 hc0
 have HB := Aside0.mk (Below.refl w.heap.size w)
 have H : (letterbaglaw30_running.l0 k a1 l0 (l0.length : Int) 0) = some r := h
 clear h
 have H' := Aside0.mk H
 clear H
 go_enter Try.func19, Try.ntmps19
 go_wp2
 go_loopg [9] k (fun kq v9 w' => ∃ (x9_1 : Int), v9 = .int .i64 x9_1 ∧ Aside0 (letterbaglaw30_running.l0 kq a1 l0 (l0.length : Int) x9_1 = some r) ∧ Aside0 (kq ≤ k) ∧ Aside0 (Below w.heap.size w w'))
 case atStart => exact ⟨(0), (by rfl), H', ⟨Nat.le_refl _⟩, ⟨by repeat ((with_reducible exact HB.out))⟩⟩
 case round =>
  clear H'
  try clear c1
  try clear p2
  obtain ⟨x9_1, rfl, HA, HK1, HB⟩ := hrel
  cases gk with
  | zero => exact absurd HA.out (by simp [letterbaglaw30_running.l0])
  | succ k1 =>
   have H := HA.out
   clear HA
   simp only [letterbaglaw30_running.l0] at H
   by_cases c3 : x9_1 < (l0.length : Int)
   ·rw [if_pos c3] at H
    have c3b0 : decide (x9_1 < (l0.length : Int)) = true := decide_eq_true c3
    clear c3
    by_cases c4 : 0 ≤ x9_1
    ·rw [if_pos c4] at H
     have c4b0 : decide (0 ≤ x9_1) = true := decide_eq_true c4
     clear c4
     by_cases c5 : x9_1 < (l0.length : Int)
     ·rw [if_pos c5] at H
      have c5b0 : decide (x9_1 < (l0.length : Int)) = true := decide_eq_true c5
      clear c5
      by_cases c6 : ((rd_T51 l0 x9_1).f1) ≤ a1
      ·rw [if_pos c6] at H
       have c6b0 : decide (((rd_T51 l0 x9_1).f1) ≤ a1) = true := decide_eq_true c6
       clear c6
       by_cases c7 : a1 < ((rd_T51 l0 x9_1).f2)
       ·rw [if_pos c7] at H
        have c7b0 : decide (a1 < ((rd_T51 l0 x9_1).f2)) = true := decide_eq_true c7
        clear c7
        obtain rfl := Option.some.inj H
        have p300 : 0 ≤ (x9_1 : Int) := of_decide_eq_true (by (with_reducible assumption))
        have q300 : x9_1 < (l0.length : Int) := of_decide_eq_true (by (with_reducible assumption))
        obtain ⟨ad300, e300, hx300_0, hx300_1, hx300_2⟩ := at_T51 HR0.out x9_1 p300 q300
        cases e300
        replace hx300_0 := (HB.out.cell (World.block_lt_of_cell? w _ hx300_0)).trans hx300_0
        replace hx300_1 := (HB.out.cell (World.block_lt_of_cell? w _ hx300_1)).trans hx300_1
        replace hx300_2 := (HB.out.cell (World.block_lt_of_cell? w _ hx300_2)).trans hx300_2
        replace p300 := eq_true p300
        replace q300 := eq_true q300
        go_wp2_with (((with_reducible refine gate_dst (N := 6) rfl ?_); refine box_event ?hg (N := 6) ?hd (cs := #[.int .i64 0, .int .i64 0, .int .i64 0]) (t := 51) ?hr ?_; (case hd => rfl); (case hg => rfl); (case hr => (go_simp; done)); intro gb301 hg w8 hbox hb; have n0_ := Aside0.mk (below_step (by repeat ((with_reducible exact HB.out))) hb); have n1_ := Aside0.mk (hbox); have n2_ := Aside0.mk ((by rw [hg]; exact (below_size (by repeat ((with_reducible exact HB.out)))) : w.heap.size ≤ gb301)); have n3_ := Aside0.mk ((by rw [hg]; exact (below_size (by repeat ((with_reducible exact HB.out)))) : w.heap.size ≤ gb301)); clear HB; have HB := n0_; have BK301 := n1_; have GW301 := n2_; have GE301 := n3_; clear n0_ n1_ n2_ n3_; clear hb hbox hg; have hcz9_0 : w8.cell? ⟨gb301, 0, none⟩ = some (.int .i64 0) := (blk_cell BK301.out 0).trans rfl; have hcz9_1 : w8.cell? ⟨gb301, 1, none⟩ = some (.int .i64 0) := (blk_cell BK301.out 1).trans rfl; have hcz9_2 : w8.cell? ⟨gb301, 2, none⟩ = some (.int .i64 0) := (blk_cell BK301.out 2).trans rfl; have hfz9_0 := blk_frozen BK301.out 0; have hfz9_1 := blk_frozen BK301.out 1; have hfz9_2 := blk_frozen BK301.out 2))
        go_ret
        exact ⟨by rfl, by repeat ((with_reducible first | exact HB.out | refine below_set ?_ GE301.out))⟩
       ·rw [if_neg c7] at H
        have c7b0 : decide (a1 < ((rd_T51 l0 x9_1).f2)) = false := decide_eq_false c7
        clear c7
        have H' := Aside0.mk H
        clear H
        have p300 : 0 ≤ (x9_1 : Int) := of_decide_eq_true (by (with_reducible assumption))
        have q300 : x9_1 < (l0.length : Int) := of_decide_eq_true (by (with_reducible assumption))
        obtain ⟨ad300, e300, hx300_0, hx300_1, hx300_2⟩ := at_T51 HR0.out x9_1 p300 q300
        cases e300
        replace hx300_0 := (HB.out.cell (World.block_lt_of_cell? w _ hx300_0)).trans hx300_0
        replace hx300_1 := (HB.out.cell (World.block_lt_of_cell? w _ hx300_1)).trans hx300_1
        replace hx300_2 := (HB.out.cell (World.block_lt_of_cell? w _ hx300_2)).trans hx300_2
        replace p300 := eq_true p300
        replace q300 := eq_true q300
        go_wp2_with (((with_reducible refine gate_dst (N := 6) rfl ?_); refine box_event ?hg (N := 6) ?hd (cs := #[.int .i64 0, .int .i64 0, .int .i64 0]) (t := 51) ?hr ?_; (case hd => rfl); (case hg => rfl); (case hr => (go_simp; done)); intro gb301 hg w10 hbox hb; have n0_ := Aside0.mk (below_step (by repeat ((with_reducible exact HB.out))) hb); have n1_ := Aside0.mk (hbox); have n2_ := Aside0.mk ((by rw [hg]; exact (below_size (by repeat ((with_reducible exact HB.out)))) : w.heap.size ≤ gb301)); have n3_ := Aside0.mk ((by rw [hg]; exact (below_size (by repeat ((with_reducible exact HB.out)))) : w.heap.size ≤ gb301)); clear HB; have HB := n0_; have BK301 := n1_; have GW301 := n2_; have GE301 := n3_; clear n0_ n1_ n2_ n3_; clear hb hbox hg; have hcz11_0 : w10.cell? ⟨gb301, 0, none⟩ = some (.int .i64 0) := (blk_cell BK301.out 0).trans rfl; have hcz11_1 : w10.cell? ⟨gb301, 1, none⟩ = some (.int .i64 0) := (blk_cell BK301.out 1).trans rfl; have hcz11_2 : w10.cell? ⟨gb301, 2, none⟩ = some (.int .i64 0) := (blk_cell BK301.out 2).trans rfl; have hfz11_0 := blk_frozen BK301.out 0; have hfz11_1 := blk_frozen BK301.out 1; have hfz11_2 := blk_frozen BK301.out 2))
        go_roundg k1
        case measure => have := HK1.out; omega
        case rel => exact ⟨(wrap64 (x9_1 + 1)), (by rfl), H', ⟨by have := HK1.out; omega⟩, ⟨by repeat ((with_reducible first | exact HB.out | refine below_set ?_ GE301.out))⟩⟩
      ·rw [if_neg c6] at H
       have c6b0 : decide (((rd_T51 l0 x9_1).f1) ≤ a1) = false := decide_eq_false c6
       clear c6
       have H' := Aside0.mk H
       clear H
       have p300 : 0 ≤ (x9_1 : Int) := of_decide_eq_true (by (with_reducible assumption))
       have q300 : x9_1 < (l0.length : Int) := of_decide_eq_true (by (with_reducible assumption))
       obtain ⟨ad300, e300, hx300_0, hx300_1, hx300_2⟩ := at_T51 HR0.out x9_1 p300 q300
       cases e300
       replace hx300_0 := (HB.out.cell (World.block_lt_of_cell? w _ hx300_0)).trans hx300_0
       replace hx300_1 := (HB.out.cell (World.block_lt_of_cell? w _ hx300_1)).trans hx300_1
       replace hx300_2 := (HB.out.cell (World.block_lt_of_cell? w _ hx300_2)).trans hx300_2
       replace p300 := eq_true p300
       replace q300 := eq_true q300
       go_wp2_with (((with_reducible refine gate_dst (N := 6) rfl ?_); refine box_event ?hg (N := 6) ?hd (cs := #[.int .i64 0, .int .i64 0, .int .i64 0]) (t := 51) ?hr ?_; (case hd => rfl); (case hg => rfl); (case hr => (go_simp; done)); intro gb301 hg w12 hbox hb; have n0_ := Aside0.mk (below_step (by repeat ((with_reducible exact HB.out))) hb); have n1_ := Aside0.mk (hbox); have n2_ := Aside0.mk ((by rw [hg]; exact (below_size (by repeat ((with_reducible exact HB.out)))) : w.heap.size ≤ gb301)); have n3_ := Aside0.mk ((by rw [hg]; exact (below_size (by repeat ((with_reducible exact HB.out)))) : w.heap.size ≤ gb301)); clear HB; have HB := n0_; have BK301 := n1_; have GW301 := n2_; have GE301 := n3_; clear n0_ n1_ n2_ n3_; clear hb hbox hg; have hcz13_0 : w12.cell? ⟨gb301, 0, none⟩ = some (.int .i64 0) := (blk_cell BK301.out 0).trans rfl; have hcz13_1 : w12.cell? ⟨gb301, 1, none⟩ = some (.int .i64 0) := (blk_cell BK301.out 1).trans rfl; have hcz13_2 : w12.cell? ⟨gb301, 2, none⟩ = some (.int .i64 0) := (blk_cell BK301.out 2).trans rfl; have hfz13_0 := blk_frozen BK301.out 0; have hfz13_1 := blk_frozen BK301.out 1; have hfz13_2 := blk_frozen BK301.out 2))
       go_roundg k1
       case measure => have := HK1.out; omega
       case rel => exact ⟨(wrap64 (x9_1 + 1)), (by rfl), H', ⟨by have := HK1.out; omega⟩, ⟨by repeat ((with_reducible first | exact HB.out | refine below_set ?_ GE301.out))⟩⟩
     ·rw [if_neg c5] at H
      exact absurd H (by simp)
    ·rw [if_neg c4] at H
     exact absurd H (by simp)
   ·rw [if_neg c3] at H
    have c3b0 : decide (x9_1 < (l0.length : Int)) = false := decide_eq_false c3
    clear c3
    obtain rfl := Option.some.inj H
    go_wp2
    go_ret
    exact ⟨by rfl, by repeat ((with_reducible exact HB.out))⟩
end Go.Proofs.Ytbnjdlafnejanaa.Pr
