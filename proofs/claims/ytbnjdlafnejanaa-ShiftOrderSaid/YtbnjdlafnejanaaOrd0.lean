/- ShiftOrder: the law returns true at every input that its statement lets in; there is no condition of this session's. (Joined by a program of this session, pack2.py: printed walks, the plain law, the row.) -/
import Derived.Test.YtbnjdlafnejanaaBa
import Derived.Test.YtbnjdlafnejanaaBb
import Derived.Test.YtbnjdlafnejanaaBc
import Derived.Test.YtbnjdlafnejanaaBd
import Derived.Test.YtbnjdlafnejanaaBe
import Derived.Test.YtbnjdlafnejanaaBf
import Derived.Test.YtbnjdlafnejanaaBg
import Derived.Test.YtbnjdlafnejanaaBh
import Derived.Test.YtbnjdlafnejanaaRows
import Derived.WalkKit
import Derived.ProofKit
import Derived.OpenShut
import Derived.ShutString
import Derived.ChangeOld
import Derived.Below
import Derived.SizedLaws
import Derived.Lib.SmallJoins
set_option linter.unusedVariables false
set_option linter.unusedSimpArgs false
namespace Go.Proofs.Ytbnjdlafnejanaa.Pr
open Go.RowKit Go.Proofs.YtbnjdlafnejanaaW.PrintWords Go.Proofs.YtbnjdlafnejanaaW.PrintLast Go.Proofs.YtbnjdlafnejanaaW.PrintMore
attribute [local go_sem] max2_int min2_int max_two min_two max_three min_three max_four min_four   -- for this text's walks alone
set_option linter.unusedVariables false
set_option linter.unusedSimpArgs false
def letterbaglaw30_ShiftOrder.l0 : Nat → Int → List (S45) → List (S47) → List (S45) → Int → Int → Option (Bool)
 | 0, _, _, _, _, _, _ => none
 | k + 1, x2, x7, x8, x9, x28, x29 => if x29 < x28 then (if (x7.length : Int) = 0 then (none) else (if 0 ≤ (Int.tmod (wrap64 ((wrap64 ((wrap64 ((x7.length : Int) - 1)) - x29)) + (wrap64 (x2)))) (x7.length : Int)) then (if (Int.tmod (wrap64 ((wrap64 ((wrap64 ((x7.length : Int) - 1)) - x29)) + (wrap64 (x2)))) (x7.length : Int)) < (x7.length : Int) then (if x9.length < 4398046511104 then (letterbaglaw30_ShiftOrder.l0 k x2 x7 x8 (x9 ++ [(⟨(rd_T45 x7 (Int.tmod (wrap64 ((wrap64 ((wrap64 ((x7.length : Int) - 1)) - x29)) + (wrap64 (x2)))) (x7.length : Int))).f0, (rd_T45 x7 (Int.tmod (wrap64 ((wrap64 ((wrap64 ((x7.length : Int) - 1)) - x29)) + (wrap64 (x2)))) (x7.length : Int))).f1, (rd_T45 x7 (Int.tmod (wrap64 ((wrap64 ((wrap64 ((x7.length : Int) - 1)) - x29)) + (wrap64 (x2)))) (x7.length : Int))).f2, (rd_T45 x7 (Int.tmod (wrap64 ((wrap64 ((wrap64 ((x7.length : Int) - 1)) - x29)) + (wrap64 (x2)))) (x7.length : Int))).f3⟩ : S45)]) x28 (wrap64 (x29 + 1))) else (none)) else (none)) else (none))) else ((shift_Make.f x7 x8).bind fun bt351 => ((shift_Make.f x9 x8).bind fun bt355 => ((shift_Excess.f k x7 x8).bind fun bt359 => ((shift_Excess.f k x9 x8).bind fun bt363 => (if (wrap64 ((wrap64 ((wrap64 (bt351.2 + bt355.2)) + bt359.2.2.2)) + bt363.2.2.2)) = 0 then ((letterbaglaw30_sliced.f k bt351.1 bt355.1).bind fun t367 => (if t367 = true then (if bt359.1 = bt363.1 then (if bt359.2.1 = bt363.2.1 then (if (bt359.2.2.1 == bt363.2.2.1) = true then ((letterbaglaw30_awake.f k).bind fun t368 => (some t368)) else (some false)) else (some false)) else (some false)) else (some false))) else (some false))))))
def letterbaglaw30_ShiftOrder.f (k : Nat) (l0 : List (S61)) (l1 : List (S55)) (a2 : Int) : Option (Bool) := (letterbaglaw30_work.f k l0).bind fun t341 => ((letterbaglaw30_hours.f k l1).bind fun t344 => (letterbaglaw30_ShiftOrder.l0 k a2 t341 t344 ([] : List (S45)) (t341.length : Int) 0))
set_option maxHeartbeats 8000000 in
set_option maxRecDepth 100000 in
theorem letterbaglaw30_ShiftOrder.calls (k : Nat) (A0 : Option Addr) (c0 : Nat) (l0 : List (S61)) (A1 : Option Addr) (c1 : Nat) (l1 : List (S55)) (a2 : Int) (w : World) (hr0 : Kd.C k61 w A0 l0.length l0) (hc0 : l0.length ≤ c0) (hr1 : Kd.C k55 w A1 l1.length l1) (hc1 : l1.length ≤ c1) (h : letterbaglaw30_ShiftOrder.f k l0 l1 a2 = some true) :
  Calls Try.prog 6 #[.slice A0 l0.length c0, .slice A1 l1.length c1, .int .u8 a2] w fun e w' => e = .returned (.bool true) ∧ Below w.heap.size w w' := by
 have hu45 := Try.underlying45
 have HR0 := Aside0.mk hr0
 have HC0 := Aside0.mk hc0
 clear hr0 hc0
 have HR1 := Aside0.mk hr1
 have HC1 := Aside0.mk hc1
 clear hr1 hc1
 have HB := Aside0.mk (Below.refl w.heap.size w)
 have H : ((letterbaglaw30_work.f k l0).bind fun t341 => ((letterbaglaw30_hours.f k l1).bind fun t344 => (letterbaglaw30_ShiftOrder.l0 k a2 t341 t344 ([] : List (S45)) (t341.length : Int) 0))) = some true := h
 clear h
 replace H := Option.bind_eq_some_iff.mp H
 obtain ⟨t341, A40, H⟩ := H
 replace H : ((letterbaglaw30_hours.f k l1).bind fun t344 => (letterbaglaw30_ShiftOrder.l0 k a2 t341 t344 ([] : List (S45)) (t341.length : Int) 0)) = some true := H
 have A4 := Aside0.mk A40
 clear A40
 replace H := Option.bind_eq_some_iff.mp H
 obtain ⟨t344, A50, H⟩ := H
 replace H : (letterbaglaw30_ShiftOrder.l0 k a2 t341 t344 ([] : List (S45)) (t341.length : Int) 0) = some true := H
 have A5 := Aside0.mk A50
 clear A50
 have H' := Aside0.mk H
 clear H
 go_enter Try.func6, Try.ntmps6
 go_wp2_with (first | ((with_reducible refine gate_callee (f := 10) rfl ?_); refine goesL_ (some 24) rfl rfl Try.func10 (by kernel_rfl) rfl #[.slice A0 l0.length c0] rfl (by (try simp only [List.map_toArray, List.map_cons, List.map_nil]); rfl) ?_; (with_reducible refine (letterbaglaw30_work.calls k _ _ l0 t341 _ ?side1 ?side2 A4.out).mono ?_); (case side1 => repeat (exact HR0.out)); (case side2 => exact HC0.out); rintro e w6 ⟨v342, rfl, ho0, hb⟩; refine ⟨_, rfl, ?_⟩; have n0_ := Aside0.mk (Kd.R_lower ho0 (below_size (by repeat ((with_reducible exact HB.out))))); have n1_ := Aside0.mk (below_step (by repeat ((with_reducible exact HB.out))) hb); clear HB; have HO343 := n0_; have HB := n1_; clear n0_ n1_; (try clear hb); (try clear hb2); (try clear hk); (try clear hi); (try clear ho0)) | ((with_reducible refine gate_callee (f := 11) rfl ?_); refine goesL_ (some 26) rfl rfl Try.func11 (by kernel_rfl) rfl #[.slice A1 l1.length c1] rfl (by (try simp only [List.map_toArray, List.map_cons, List.map_nil]); rfl) ?_; (with_reducible refine (letterbaglaw30_hours.calls k _ _ l1 t344 _ ?side1 ?side2 A5.out).mono ?_); (case side1 => repeat (exact (Kd.C_below HR1.out HB.out))); (case side2 => exact HC1.out); rintro e w7 ⟨v345, rfl, ho0, hb⟩; refine ⟨_, rfl, ?_⟩; have n0_ := Aside0.mk (Kd.R_below (by (with_reducible repeat (fail)); exact HO343.out) hb); have n1_ := Aside0.mk (Kd.R_lower ho0 (below_size (by repeat ((with_reducible exact HB.out))))); have n2_ := Aside0.mk (below_step (by repeat ((with_reducible exact HB.out))) hb); clear HO343; clear HB; have HO343 := n0_; have HO346 := n1_; have HB := n2_; clear n0_ n1_ n2_; (try clear hb); (try clear hb2); (try clear hk); (try clear hi); (try clear ho0); obtain ⟨Ao8, co8, eo8⟩ := Kd.R_slice HO343.out; subst eo8))
 go_loopg [9, 29] k (fun kq v9 v29 w' => ∃ (x9_1 : List (S45)) (x29_1 : Int), v29 = .int .i64 x29_1 ∧ Aside0 (letterbaglaw30_ShiftOrder.l0 kq a2 t341 t344 x9_1 (t341.length : Int) x29_1 = some true) ∧ Aside0 (kq ≤ k) ∧ Aside0 (Kd.R k45 45 w' w.heap.size (fun k_ => some k_ ≠ (v9 : Value).ownBlock) (.slice Ao8 t341.length co8) t341) ∧ Aside0 (Kd.R k47 47 w' w.heap.size (fun _ => True) v345 t344) ∧ Aside0 (Kd.R k45 45 w' w.heap.size (fun k_ => some k_ ≠ ((.slice Ao8 t341.length co8) : Value).ownBlock) v9 x9_1) ∧ Aside0 (Below w.heap.size w w'))
 case atStart => exact ⟨(([] : List (S45))), (0), (by rfl), H', ⟨Nat.le_refl _⟩, ⟨by (with_reducible repeat (fail)); exact Kd.R_mono HO343.out (fun _ hk => (by simp [Value.ownBlock]))⟩, ⟨by (with_reducible repeat (fail)); exact HO346.out⟩, ⟨by exact Kd.R_nil _ _ _ _ _⟩, ⟨by repeat ((with_reducible exact HB.out))⟩⟩
 case round =>
  clear H'
  try clear c1
  try clear p2
  try clear c6
  obtain ⟨x9_1, x29_1, rfl, HA, HK1, HO_7, HO_8, HO_9, HB⟩ := hrel
  cases gk with
  | zero => exact absurd HA.out (by simp [letterbaglaw30_ShiftOrder.l0])
  | succ k1 =>
   have H := HA.out
   clear HA
   simp only [letterbaglaw30_ShiftOrder.l0] at H
   by_cases c9 : x29_1 < (t341.length : Int)
   ·rw [if_pos c9] at H
    have c9b0 : decide (x29_1 < (t341.length : Int)) = true := decide_eq_true c9
    clear c9
    by_cases c10 : (t341.length : Int) = 0
    ·rw [if_pos c10] at H
     exact absurd H (by simp)
    ·rw [if_neg c10] at H
     have c10b0 : ((t341.length : Int) == 0) = false := beq_eq_false_iff_ne.mpr c10
     have c10b1 : ((t341.length : Int) != 0) = true := bne_iff_ne.mpr c10
     have c10b2 : ¬ (t341 = []) := fun h_ => c10 (by rw [h_]; rfl)
     obtain ⟨ji11, hji11⟩ : ∃ j_ : Int, (Int.tmod (wrap64 ((wrap64 ((wrap64 ((t341.length : Int) - 1)) - x29_1)) + (wrap64 (a2)))) (t341.length : Int)) = j_ := ⟨_, rfl⟩
     replace H : (if 0 ≤ (ji11) then (if (ji11) < (t341.length : Int) then (if x9_1.length < 4398046511104 then (letterbaglaw30_ShiftOrder.l0 k1 a2 t341 t344 (x9_1 ++ [(⟨(rd_T45 t341 (ji11)).f0, (rd_T45 t341 (ji11)).f1, (rd_T45 t341 (ji11)).f2, (rd_T45 t341 (ji11)).f3⟩ : S45)]) (t341.length : Int) (wrap64 (x29_1 + 1))) else (none)) else (none)) else (none)) = some true := by (rw [hji11] at H; exact H)
     by_cases c12 : 0 ≤ (ji11)
     ·rw [if_pos c12] at H
      have c12b0 : decide (0 ≤ (ji11)) = true := decide_eq_true c12
      clear c12
      by_cases c13 : (ji11) < (t341.length : Int)
      ·rw [if_pos c13] at H
       have c13b0 : decide ((ji11) < (t341.length : Int)) = true := decide_eq_true c13
       clear c13
       by_cases c14 : x9_1.length < 4398046511104
       ·rw [if_pos c14] at H
        have LMc14 := Aside0.mk c14
        clear c14
        obtain ⟨y348, hy348⟩ : ∃ y_ : List (S45), y_ = (x9_1 ++ [(⟨(rd_T45 t341 (ji11)).f0, (rd_T45 t341 (ji11)).f1, (rd_T45 t341 (ji11)).f2, (rd_T45 t341 (ji11)).f3⟩ : S45)]) := ⟨_, rfl⟩
        replace H : (letterbaglaw30_ShiftOrder.l0 k1 a2 t341 t344 y348 (t341.length : Int) (wrap64 (x29_1 + 1))) = some true := by (rw [hy348]; with_reducible exact H)
        have Ny348 := Aside0.mk hy348
        clear hy348
        have H' := Aside0.mk H
        clear H
        have p347 : 0 ≤ ((ji11) : Int) := of_decide_eq_true (by (with_reducible assumption))
        have q347 : (ji11) < (t341.length : Int) := of_decide_eq_true (by (with_reducible assumption))
        obtain ⟨ad347, e347, hx347_0, hx347_1, hx347_2, hx347_3⟩ := at_T45 (Kd.R_reads' HO_7.out).2.2 (ji11) p347 q347
        cases e347
        replace p347 := eq_true p347
        replace q347 := eq_true q347
        go_wp2_with (((with_reducible refine gate_builtin (b := .append) (xs := #[.tmp 32, .tmp 47]) rfl ?_); at_builtin; refine Kd.R_append k45 (w0 := w) w.heap.size rfl (.tmp 32) (.tmp 47) 25 45 (.agg #[(.int .i64 0), (.int .i64 0), (.int .i64 0), (.int .i64 0)]) 32 rfl Try.underlying25 info45 rfl (by decide) (by omega) u9 x9_1 (⟨(rd_T45 t341 (ji11)).f0, (rd_T45 t341 (ji11)).f1, (rd_T45 t341 (ji11)).f2, (rd_T45 t341 (ji11)).f3⟩ : S45) [.int .i64 ((rd_T45 t341 (ji11)).f0), .int .i64 ((rd_T45 t341 (ji11)).f1), .int .i64 ((rd_T45 t341 (ji11)).f2), .int .i64 ((rd_T45 t341 (ji11)).f3)] (fun k_ => some k_ ≠ (.slice (some ad347) t341.length co8 : Value).ownBlock) (fun _ => False) rfl rfl ?aP (fun _ hk => hk.elim) ?aF ?aO ?aB ?aS ?aL ?_; (case aP => exact k45_mkM _ _ _ (⟨(rd_T45 t341 (ji11)).f0, (rd_T45 t341 (ji11)).f1, (rd_T45 t341 (ji11)).f2, (rd_T45 t341 (ji11)).f3⟩ : S45)); (case aB => exact (by repeat ((with_reducible exact HB.out)))); (case aF => exact (fun k_ hk => Kd.fresh' (Kd.R_lt (by (with_reducible repeat (fail)); exact HO_7.out)) k_ hk)); (case aO => exact (by (with_reducible repeat (fail)); exact HO_9.out)); (case aS => exact (below_size (by repeat ((with_reducible exact HB.out))))); (case aL => have := LMc14.out; omega); intro v349 w15 ho hb hg hat; rw [← Ny348.out] at ho; have n0_ := Aside0.mk (Kd.R_after (ok := (fun _ => True)) (by (with_reducible repeat (fail)); exact Kd.R_mono HO_7.out (fun _ hk => ⟨trivial, hk⟩)) hg hat); have n1_ := Aside0.mk (Kd.R_over' (by (with_reducible repeat (fail)); exact HO_8.out) (Kd.R_typed (by (with_reducible repeat (fail)); exact HO_9.out)) (by decide) hg); have n2_ := Aside0.mk (hb); have n3_ := Aside0.mk (ho); clear HO_7; clear HO_8; clear HB; clear HO_9; have HO_7 := n0_; have HO_8 := n1_; have HB := n2_; have HO350 := n3_; clear n0_ n1_ n2_ n3_; clear ho hb hg hat))
        go_roundg k1
        case measure => have := HK1.out; omega
        case rel => exact ⟨(y348), (wrap64 (x29_1 + 1)), (by rfl), H', ⟨by have := HK1.out; omega⟩, ⟨by (with_reducible repeat (fail)); exact Kd.R_mono HO_7.out (fun _ hk => hk.2)⟩, ⟨by (with_reducible repeat (fail)); exact HO_8.out⟩, ⟨by (with_reducible repeat (fail)); exact HO350.out⟩, ⟨by repeat ((with_reducible exact HB.out))⟩⟩
       ·rw [if_neg c14] at H
        exact absurd H (by simp)
      ·rw [if_neg c13] at H
       exact absurd H (by simp)
     ·rw [if_neg c12] at H
      exact absurd H (by simp)
   ·rw [if_neg c9] at H
    have c9b0 : decide (x29_1 < (t341.length : Int)) = false := decide_eq_false c9
    clear c9
    replace H := Option.bind_eq_some_iff.mp H
    obtain ⟨⟨t351, t352⟩, A160, H⟩ := H
    replace H : ((shift_Make.f x9_1 t344).bind fun bt355 => ((shift_Excess.f k1 t341 t344).bind fun bt359 => ((shift_Excess.f k1 x9_1 t344).bind fun bt363 => (if (wrap64 ((wrap64 ((wrap64 (t352 + bt355.2)) + bt359.2.2.2)) + bt363.2.2.2)) = 0 then ((letterbaglaw30_sliced.f k1 t351 bt355.1).bind fun t367 => (if t367 = true then (if bt359.1 = bt363.1 then (if bt359.2.1 = bt363.2.1 then (if (bt359.2.2.1 == bt363.2.2.1) = true then ((letterbaglaw30_awake.f k1).bind fun t368 => (some t368)) else (some false)) else (some false)) else (some false)) else (some false))) else (some false))))) = some true := H
    have A16 := Aside0.mk A160
    clear A160
    replace H := Option.bind_eq_some_iff.mp H
    obtain ⟨⟨t355, t356⟩, A170, H⟩ := H
    replace H : ((shift_Excess.f k1 t341 t344).bind fun bt359 => ((shift_Excess.f k1 x9_1 t344).bind fun bt363 => (if (wrap64 ((wrap64 ((wrap64 (t352 + t356)) + bt359.2.2.2)) + bt363.2.2.2)) = 0 then ((letterbaglaw30_sliced.f k1 t351 t355).bind fun t367 => (if t367 = true then (if bt359.1 = bt363.1 then (if bt359.2.1 = bt363.2.1 then (if (bt359.2.2.1 == bt363.2.2.1) = true then ((letterbaglaw30_awake.f k1).bind fun t368 => (some t368)) else (some false)) else (some false)) else (some false)) else (some false))) else (some false)))) = some true := H
    have A17 := Aside0.mk A170
    clear A170
    replace H := Option.bind_eq_some_iff.mp H
    obtain ⟨⟨t359, t360, t361, t362⟩, A180, H⟩ := H
    replace H : ((shift_Excess.f k1 x9_1 t344).bind fun bt363 => (if (wrap64 ((wrap64 ((wrap64 (t352 + t356)) + t362)) + bt363.2.2.2)) = 0 then ((letterbaglaw30_sliced.f k1 t351 t355).bind fun t367 => (if t367 = true then (if t359 = bt363.1 then (if t360 = bt363.2.1 then (if (t361 == bt363.2.2.1) = true then ((letterbaglaw30_awake.f k1).bind fun t368 => (some t368)) else (some false)) else (some false)) else (some false)) else (some false))) else (some false))) = some true := H
    have A18 := Aside0.mk A180
    clear A180
    replace H := Option.bind_eq_some_iff.mp H
    obtain ⟨⟨t363, t364, t365, t366⟩, A190, H⟩ := H
    replace H : (if (wrap64 ((wrap64 ((wrap64 (t352 + t356)) + t362)) + t366)) = 0 then ((letterbaglaw30_sliced.f k1 t351 t355).bind fun t367 => (if t367 = true then (if t359 = t363 then (if t360 = t364 then (if (t361 == t365) = true then ((letterbaglaw30_awake.f k1).bind fun t368 => (some t368)) else (some false)) else (some false)) else (some false)) else (some false))) else (some false)) = some true := H
    have A19 := Aside0.mk A190
    clear A190
    by_cases c20 : (wrap64 ((wrap64 ((wrap64 (t352 + t356)) + t362)) + t366)) = 0
    ·rw [if_pos c20] at H
     have c20b0 : ((wrap64 ((wrap64 ((wrap64 (t352 + t356)) + t362)) + t366)) == 0) = true := beq_iff_eq.mpr c20
     have c20b1 : ((wrap64 ((wrap64 ((wrap64 (t352 + t356)) + t362)) + t366)) != 0) = false := bne_eq_false_iff_eq.mpr c20
     clear c20
     replace H := Option.bind_eq_some_iff.mp H
     obtain ⟨t367, A210, H⟩ := H
     replace H : (if t367 = true then (if t359 = t363 then (if t360 = t364 then (if (t361 == t365) = true then ((letterbaglaw30_awake.f k1).bind fun t368 => (some t368)) else (some false)) else (some false)) else (some false)) else (some false)) = some true := H
     have A21 := Aside0.mk A210
     clear A210
     by_cases c22 : t367 = true
     ·subst c22
      have H1 : (if t359 = t363 then (if t360 = t364 then (if (t361 == t365) = true then ((letterbaglaw30_awake.f k1).bind fun t368 => (some t368)) else (some false)) else (some false)) else (some false)) = some true := by rw [if_pos rfl] at H; exact H
      clear H
      have H := H1
      clear H1
      by_cases c23 : t359 = t363
      ·rw [if_pos c23] at H
       have c23b0 : (t359 == t363) = true := beq_iff_eq.mpr c23
       have c23b1 : (t359 != t363) = false := bne_eq_false_iff_eq.mpr c23
       clear c23
       by_cases c24 : t360 = t364
       ·rw [if_pos c24] at H
        have c24b0 : (t360 == t364) = true := beq_iff_eq.mpr c24
        have c24b1 : (t360 != t364) = false := bne_eq_false_iff_eq.mpr c24
        clear c24
        by_cases c25 : (t361 == t365) = true
        ·rw [if_pos c25] at H
         have c25b0 : (t361 == t365) = true := c25
         (try (have c25b1 : decide (t361 = t365) = true := by simpa using c25))
         (try (have c25b2 : (t361 == t365) = true := by simpa using c25))
         clear c25
         replace H := Option.bind_eq_some_iff.mp H
         obtain ⟨t368, A260, H⟩ := H
         replace H : (some t368) = some true := H
         have A26 := Aside0.mk A260
         clear A260
         have HT_ := Aside0.mk (Option.some.inj H)
         obtain ⟨Ao27, co27, eo27⟩ := Kd.R_slice HO_8.out
         subst eo27
         go_wp2_with (first | ((with_reducible refine gate_callee (f := 12) rfl ?_); refine goesL_ (some 53) rfl rfl Try.func12 (by kernel_rfl) rfl #[.slice Ao8 t341.length co8, .slice Ao27 t344.length co27] rfl (by (try simp only [List.map_toArray, List.map_cons, List.map_nil]); rfl) ?_; (with_reducible refine (shift_Make.calls _ _ t341 _ _ t344 t351 t352 _ ?side1 ?side2 ?side3 ?side4 A16.out).mono ?_); (case side1 => repeat (exact (Kd.R_reads' HO_7.out).2.2)); (case side2 => exact (Kd.R_reads' HO_7.out).2.1); (case side3 => repeat (exact (Kd.R_reads' HO_8.out).2.2)); (case side4 => exact (Kd.R_reads' HO_8.out).2.1); rintro e w28 ⟨v353, rfl, ho0, hb⟩; refine ⟨_, rfl, ?_⟩; have n0_ := Aside0.mk (Kd.R_below (by (with_reducible repeat (fail)); exact HO_7.out) hb); have n1_ := Aside0.mk (Kd.R_below (by (with_reducible repeat (fail)); exact HO_8.out) hb); have n2_ := Aside0.mk (Kd.R_below (by (with_reducible repeat (fail)); exact HO_9.out) hb); have n3_ := Aside0.mk (Kd.R_lower ho0 (below_size (by repeat ((with_reducible exact HB.out))))); have n4_ := Aside0.mk (below_step (by repeat ((with_reducible exact HB.out))) hb); clear HO_7; clear HO_8; clear HO_9; clear HB; have HO_7 := n0_; have HO_8 := n1_; have HO_9 := n2_; have HO354 := n3_; have HB := n4_; clear n0_ n1_ n2_ n3_ n4_; (try clear hb); (try clear hb2); (try clear hk); (try clear hi); (try clear ho0); obtain ⟨Ao29, co29, eo29⟩ := Kd.R_slice HO_9.out; subst eo29) | ((with_reducible refine gate_callee (f := 12) rfl ?_); refine goesL_ (some 59) rfl rfl Try.func12 (by kernel_rfl) rfl #[.slice Ao29 x9_1.length co29, .slice Ao27 t344.length co27] rfl (by (try simp only [List.map_toArray, List.map_cons, List.map_nil]); rfl) ?_; (with_reducible refine (shift_Make.calls _ _ x9_1 _ _ t344 t355 t356 _ ?side1 ?side2 ?side3 ?side4 A17.out).mono ?_); (case side1 => repeat (exact (Kd.R_reads' HO_9.out).2.2)); (case side2 => exact (Kd.R_reads' HO_9.out).2.1); (case side3 => repeat (exact (Kd.R_reads' HO_8.out).2.2)); (case side4 => exact (Kd.R_reads' HO_8.out).2.1); rintro e w30 ⟨v357, rfl, ho0, hb⟩; refine ⟨_, rfl, ?_⟩; have n0_ := Aside0.mk (Kd.R_below (by (with_reducible repeat (fail)); exact HO_7.out) hb); have n1_ := Aside0.mk (Kd.R_below (by (with_reducible repeat (fail)); exact HO_8.out) hb); have n2_ := Aside0.mk (Kd.R_below (by (with_reducible repeat (fail)); exact HO_9.out) hb); have n3_ := Aside0.mk (Kd.R_elder' (by (with_reducible repeat (fail)); exact HO354.out) (Kd.R_base ho0) hb); have n4_ := Aside0.mk (Kd.R_lower (Kd.R_new' ho0 (Kd.R_lt (by (with_reducible repeat (fail)); exact HO354.out))) (below_size (by repeat ((with_reducible exact HB.out))))); have n5_ := Aside0.mk (below_step (by repeat ((with_reducible exact HB.out))) hb); clear HO_7; clear HO_8; clear HO_9; clear HO354; clear HB; have HO_7 := n0_; have HO_8 := n1_; have HO_9 := n2_; have HO354 := n3_; have HO358 := n4_; have HB := n5_; clear n0_ n1_ n2_ n3_ n4_ n5_; (try clear hb); (try clear hb2); (try clear hk); (try clear hi); (try clear ho0)) | ((with_reducible refine gate_callee (f := 18) rfl ?_); refine goesL_ (some 65) rfl rfl Try.func18 (by kernel_rfl) rfl #[.slice Ao8 t341.length co8, .slice Ao27 t344.length co27] rfl (by (try simp only [List.map_toArray, List.map_cons, List.map_nil]); rfl) ?_; (with_reducible refine (shift_Excess.calls k1 _ _ t341 _ _ t344 t359 t360 t361 t362 _ ?side1 ?side2 ?side3 ?side4 A18.out).mono ?_); (case side1 => repeat (exact (Kd.R_reads' HO_7.out).2.2)); (case side2 => exact (Kd.R_reads' HO_7.out).2.1); (case side3 => repeat (exact (Kd.R_reads' HO_8.out).2.2)); (case side4 => exact (Kd.R_reads' HO_8.out).2.1); rintro e w31 ⟨rfl, hb⟩; refine ⟨_, rfl, ?_⟩; have n0_ := Aside0.mk (Kd.R_below (by (with_reducible repeat (fail)); exact HO_7.out) hb); have n1_ := Aside0.mk (Kd.R_below (by (with_reducible repeat (fail)); exact HO_8.out) hb); have n2_ := Aside0.mk (Kd.R_below (by (with_reducible repeat (fail)); exact HO_9.out) hb); have n3_ := Aside0.mk (Kd.R_below (by (with_reducible repeat (fail)); exact HO354.out) hb); have n4_ := Aside0.mk (Kd.R_below (by (with_reducible repeat (fail)); exact HO358.out) hb); have n5_ := Aside0.mk (below_step (by repeat ((with_reducible exact HB.out))) hb); clear HO_7; clear HO_8; clear HO_9; clear HO354; clear HO358; clear HB; have HO_7 := n0_; have HO_8 := n1_; have HO_9 := n2_; have HO354 := n3_; have HO358 := n4_; have HB := n5_; clear n0_ n1_ n2_ n3_ n4_ n5_; (try clear hb); (try clear hb2); (try clear hk); (try clear hi)) | ((with_reducible refine gate_callee (f := 18) rfl ?_); refine goesL_ (some 73) rfl rfl Try.func18 (by kernel_rfl) rfl #[.slice Ao29 x9_1.length co29, .slice Ao27 t344.length co27] rfl (by (try simp only [List.map_toArray, List.map_cons, List.map_nil]); rfl) ?_; (with_reducible refine (shift_Excess.calls k1 _ _ x9_1 _ _ t344 t363 t364 t365 t366 _ ?side1 ?side2 ?side3 ?side4 A19.out).mono ?_); (case side1 => repeat (exact (Kd.R_reads' HO_9.out).2.2)); (case side2 => exact (Kd.R_reads' HO_9.out).2.1); (case side3 => repeat (exact (Kd.R_reads' HO_8.out).2.2)); (case side4 => exact (Kd.R_reads' HO_8.out).2.1); rintro e w32 ⟨rfl, hb⟩; refine ⟨_, rfl, ?_⟩; have n0_ := Aside0.mk (Kd.R_below (by (with_reducible repeat (fail)); exact HO_7.out) hb); have n1_ := Aside0.mk (Kd.R_below (by (with_reducible repeat (fail)); exact HO_8.out) hb); have n2_ := Aside0.mk (Kd.R_below (by (with_reducible repeat (fail)); exact HO_9.out) hb); have n3_ := Aside0.mk (Kd.R_below (by (with_reducible repeat (fail)); exact HO354.out) hb); have n4_ := Aside0.mk (Kd.R_below (by (with_reducible repeat (fail)); exact HO358.out) hb); have n5_ := Aside0.mk (below_step (by repeat ((with_reducible exact HB.out))) hb); clear HO_7; clear HO_8; clear HO_9; clear HO354; clear HO358; clear HB; have HO_7 := n0_; have HO_8 := n1_; have HO_9 := n2_; have HO354 := n3_; have HO358 := n4_; have HB := n5_; clear n0_ n1_ n2_ n3_ n4_ n5_; (try clear hb); (try clear hb2); (try clear hk); (try clear hi); obtain ⟨Ao33, co33, eo33⟩ := Kd.R_slice HO354.out; subst eo33; obtain ⟨Ao34, co34, eo34⟩ := Kd.R_slice HO358.out; subst eo34) | (go_at_call 20; (with_reducible refine (letterbaglaw30_sliced.calls k1 _ _ t351 _ _ t355 true _ ?side1 ?side2 ?side3 ?side4 A21.out).mono ?_); (case side1 => repeat (exact (Kd.R_reads' HO354.out).2.2)); (case side2 => exact (Kd.R_reads' HO354.out).2.1); (case side3 => repeat (exact (Kd.R_reads' HO358.out).2.2)); (case side4 => exact (Kd.R_reads' HO358.out).2.1); rintro e w' ⟨rfl, ⟨nd, rfl⟩⟩) | (go_at_call 17; (with_reducible refine (letterbaglaw30_awake.calls k1  t368 _ A26.out).mono ?_); rintro e w35 ⟨rfl, hb⟩; have n0_ := Aside0.mk (Kd.R_below (by (with_reducible repeat (apply Kd.R_drewN)); exact HO_7.out) hb); have n1_ := Aside0.mk (Kd.R_below (by (with_reducible repeat (apply Kd.R_drewN)); exact HO_8.out) hb); have n2_ := Aside0.mk (Kd.R_below (by (with_reducible repeat (apply Kd.R_drewN)); exact HO_9.out) hb); have n3_ := Aside0.mk (Kd.R_below (by (with_reducible repeat (apply Kd.R_drewN)); exact HO354.out) hb); have n4_ := Aside0.mk (Kd.R_below (by (with_reducible repeat (apply Kd.R_drewN)); exact HO358.out) hb); have n5_ := Aside0.mk (below_step (by repeat ((with_reducible first | exact HB.out | apply pw_below_drewN))) hb); clear HO_7; clear HO_8; clear HO_9; clear HO354; clear HO358; clear HB; have HO_7 := n0_; have HO_8 := n1_; have HO_9 := n2_; have HO354 := n3_; have HO358 := n4_; have HB := n5_; clear n0_ n1_ n2_ n3_ n4_ n5_; (try clear hb); (try clear hb2); (try clear hk); (try clear hi)))
         go_ret
         exact ⟨by (rw [HT_.out]; rfl), by repeat ((with_reducible exact HB.out))⟩
        ·rw [if_neg c25] at H
         have c25b0 : (t361 == t365) = false := by simpa using c25
         (try (have c25b1 : decide (t361 = t365) = false := by simpa using c25))
         (try (have c25b2 : (t361 == t365) = false := by simpa using c25))
         (try (have c25b3 : ¬ (t361 = t365) := by simpa using c25))
         clear c25
         exact absurd H (by simp)
       ·rw [if_neg c24] at H
        have c24b0 : (t360 == t364) = false := beq_eq_false_iff_ne.mpr c24
        have c24b1 : (t360 != t364) = true := bne_iff_ne.mpr c24
        exact absurd H (by simp)
      ·rw [if_neg c23] at H
       have c23b0 : (t359 == t363) = false := beq_eq_false_iff_ne.mpr c23
       have c23b1 : (t359 != t363) = true := bne_iff_ne.mpr c23
       exact absurd H (by simp)
     ·replace c22 := Bool.eq_false_iff.mpr c22
      subst c22
      have H1 : (some false) = some true := by rw [if_neg (show ¬ (false = true) by decide)] at H; exact H
      clear H
      have H := H1
      clear H1
      exact absurd H (by simp)
    ·rw [if_neg c20] at H
     have c20b0 : ((wrap64 ((wrap64 ((wrap64 (t352 + t356)) + t362)) + t366)) == 0) = false := beq_eq_false_iff_ne.mpr c20
     have c20b1 : ((wrap64 ((wrap64 ((wrap64 (t352 + t356)) + t362)) + t366)) != 0) = true := bne_iff_ne.mpr c20
     exact absurd H (by simp)
end Go.Proofs.Ytbnjdlafnejanaa.Pr
namespace Go.Proofs.Ytbnjdlafnejanaa.Pr
open Go.RowKit Go.Proofs.YtbnjdlafnejanaaW.PrintWords Go.Proofs.YtbnjdlafnejanaaW.PrintLast Go.Proofs.YtbnjdlafnejanaaW.PrintMore
theorem turn_inj {n b i j : Int} (h : 1 ≤ n) (h8 : n ≤ 8) (hi : 0 ≤ i ∧ i < n) (hj : 0 ≤ j ∧ j < n) (e : (n - 1 - i + b) % n = (n - 1 - j + b) % n) : i = j := by
  rcases (show n = 1 ∨ n = 2 ∨ n = 3 ∨ n = 4 ∨ n = 5 ∨ n = 6 ∨ n = 7 ∨ n = 8 by omega) with rfl | rfl | rfl | rfl | rfl | rfl | rfl | rfl <;> omega
theorem turn_sur {n b j : Int} (h : 1 ≤ n) (h8 : n ≤ 8) (hj : 0 ≤ j ∧ j < n) : ∃ i, (0 ≤ i ∧ i < n) ∧ (n - 1 - i + b) % n = j := by
  refine ⟨(n - 1 + b - j) % n, ?_⟩
  rcases (show n = 1 ∨ n = 2 ∨ n = 3 ∨ n = 4 ∨ n = 5 ∨ n = 6 ∨ n = 7 ∨ n = 8 by omega) with rfl | rfl | rfl | rfl | rfl | rfl | rfl | rfl <;> omega
/-- The jobs, turned round. -/
def turnAt (l : List S45) (b : Int) (i : Nat) : S45 := rd_T45 l (((l.length : Int) - 1 - (i : Int) + b) % (l.length : Int))
def turnX (l : List S45) (b : Int) : List S45 := (List.range l.length).map (turnAt l b)
theorem turnX_len (l : List S45) (b : Int) : (turnX l b).length = l.length := by simp [turnX]
theorem turnAt_get {l : List S45} {b : Int} {i : Nat} (hi : i < l.length) : ∃ (j : Nat) (h : j < l.length), (((l.length : Int) - 1 - (i : Int) + b) % (l.length : Int)) = (j : Int) ∧ turnAt l b i = l[j] := by
  have h1 := Int.emod_nonneg ((l.length : Int) - 1 - (i : Int) + b) (show (l.length : Int) ≠ 0 by omega)
  have h2 := Int.emod_lt_of_pos ((l.length : Int) - 1 - (i : Int) + b) (show 0 < (l.length : Int) by omega)
  generalize hq : ((l.length : Int) - 1 - (i : Int) + b) % (l.length : Int) = q at h1 h2
  have h3 : q.toNat < l.length := by omega
  refine ⟨q.toNat, h3, by omega, ?_⟩
  unfold turnAt
  rw [hq]
  simp [rd_T45, h3]
theorem turnX_perm {l : List S45} (h8 : l.length ≤ 8) (hn : (l.map toJ).Pairwise (fun x y => x.id ≠ y.id)) (b : Int) : (l.map toJ).Perm ((turnX l b).map toJ) := by
  refine Sh.perm_of_ids hn ?_ ?_
  · rw [List.pairwise_map, List.pairwise_iff_getElem]
    intro i j hi hj hij
    rw [turnX_len] at hi hj
    obtain ⟨p, hp, e1, e2⟩ := turnAt_get (b := b) hi
    obtain ⟨q, hq, f1, f2⟩ := turnAt_get (b := b) hj
    have g1 : (turnX l b)[i]'(by rw [turnX_len]; exact hi) = l[p] := by rw [← e2]; simp [turnX]
    have g2 : (turnX l b)[j]'(by rw [turnX_len]; exact hj) = l[q] := by rw [← f2]; simp [turnX]
    rw [g1, g2]
    have hne : p ≠ q := by
      intro e
      subst e
      have := turn_inj (n := (l.length : Int)) (b := b) (i := (i : Int)) (j := (j : Int)) (by omega) (by omega) (by omega) (by omega) (by rw [e1, f1])
      omega
    rw [List.pairwise_map, List.pairwise_iff_getElem] at hn
    rcases Nat.lt_or_gt_of_ne hne with h | h
    · exact hn p q hp hq h
    · exact fun e => hn q p hq hp h e.symm
  · intro x
    constructor
    · intro hx
      obtain ⟨y, hy, rfl⟩ := List.mem_map.1 hx
      obtain ⟨j, hj, rfl⟩ := List.getElem_of_mem hy
      obtain ⟨i, hi, e⟩ := turn_sur (n := (l.length : Int)) (b := b) (j := (j : Int)) (by omega) (by omega) (by omega)
      have hin : i.toNat < l.length := by omega
      obtain ⟨p, hp, e1, e2⟩ := turnAt_get (b := b) hin
      rw [show ((i.toNat : Nat) : Int) = i by omega, e] at e1
      have : p = j := by omega
      subst this
      exact List.mem_map.2 ⟨_, List.mem_map.2 ⟨i.toNat, List.mem_range.2 hin, e2⟩, rfl⟩
    · intro hx
      obtain ⟨y, hy, rfl⟩ := List.mem_map.1 hx
      obtain ⟨i, hi, rfl⟩ := List.mem_map.1 hy
      obtain ⟨p, hp, _, e2⟩ := turnAt_get (b := b) (List.mem_range.1 hi)
      rw [e2]
      exact List.mem_map.2 ⟨_, List.getElem_mem hp, rfl⟩
theorem BJ_perm {J T : List Sh.Job} (h : Sh.BJ J) (hp : J.Perm T) : Sh.BJ T := ⟨h.vj.perm hp, fun x hx => h.bd x (hp.mem_iff.2 hx)⟩
theorem excX_perm {J T : List Sh.Job} (hp : J.Perm T) (S : List Sh.Shift) : excX T S = excX J S := by
  have e : ovX T S = ovX J S := by
    funext a b
    unfold ovX
    rw [Sh.need_perm hp]
  have h1 := excX_exc J S
  have h2 := excX_exc T S
  rw [e] at h2
  refine (Sh.Exc.unique (fun p => ?_) h1 h2).symm
  rw [mem_pairs, mem_pairs]
  constructor
  · rintro ⟨x, hx, y, hy, e⟩; exact ⟨x, hp.mem_iff.1 hx, y, hp.mem_iff.1 hy, e⟩
  · rintro ⟨x, hx, y, hy, e⟩; exact ⟨x, hp.mem_iff.2 hx, y, hp.mem_iff.2 hy, e⟩
theorem turn_ix {n b i : Int} (hn : 1 ≤ n ∧ n ≤ 8) (hb : 0 ≤ b ∧ b ≤ 255) (hi : 0 ≤ i ∧ i < n) : Int.tmod (wrap64 ((wrap64 ((wrap64 (n - 1)) - i)) + (wrap64 b))) n = (n - 1 - i + b) % n := by
  have h1 : wrap64 (n - 1) = n - 1 := w64 (by omega) (by omega)
  rw [h1]
  clear h1
  have h2 : wrap64 (n - 1 - i) = n - 1 - i := w64 (by omega) (by omega)
  rw [h2]
  clear h2
  have h3 : wrap64 b = b := w64 (by omega) (by omega)
  rw [h3]
  clear h3
  have h4 : wrap64 (n - 1 - i + b) = n - 1 - i + b := w64 (by omega) (by omega)
  rw [h4]
  clear h4
  exact Int.tmod_eq_emod_of_nonneg (by omega)
theorem order_l0 (l0 : List S45) (l1 : List S47) (hJ : Sh.BJ (l0.map toJ)) (hS : Sh.BS (l1.map toS)) (hl0 : l0.length ≤ 8) (hl : l1.length ≤ 8) (hpl : (planOf l0 l1).length ≤ 1000000) (b : Int) (hb : 0 ≤ b ∧ b ≤ 255) (d : Nat) : ∀ i : Nat, i ≤ l0.length → l0.length - i = d →
    Ev (fun k => letterbaglaw30_ShiftOrder.l0 k b l0 l1 ((List.range i).map (turnAt l0 b)) (l0.length : Int) (i : Int)) true := by
  induction d with
  | zero =>
    intro i hi hd
    have e : i = l0.length := by omega
    subst e
    have hp := turnX_perm hl0 hJ.vj.nod b
    have hJ2 := BJ_perm hJ hp
    have hlt := turnX_len l0 b
    refine Ev.step (fun k => letterbaglaw30_ShiftOrder.l0.eq_2 _ _ _ _ _ _ k) ?_
    refine ev_neg (by omega) ?_
    refine Ev.bind (ev_val (make_f hJ hS (by omega) (by omega))) ?_
    refine Ev.bind (ev_val (make_f (l0 := turnX l0 b) hJ2 hS (by omega) (by omega))) ?_
    refine Ev.bind (excess_f hJ hS (by omega) (by omega)) ?_
    refine Ev.bind (excess_f (l0 := turnX l0 b) hJ2 hS (by omega) (by omega)) ?_
    have e1 : Sh.makeX ((turnX l0 b).map toJ) (l1.map toS) = Sh.makeX (l0.map toJ) (l1.map toS) := (((Sh.made_makeX hJ.vj hS.vs).perm hp).eq hJ2.vj hS.vs).symm
    have e2 := excX_perm hp (l1.map toS)
    rw [e1, e2]
    have w0 : wrap64 ((0 : Int) + 0) = 0 := w64 (by decide) (by decide)
    refine ev_pos (by simp only [w0]) ?_
    refine Ev.bind (sliced_f hpl) (ev_pos rfl (ev_pos rfl (ev_pos rfl (ev_pos (by simp) (Ev.bind awake_f (Ev.now _))))))
  | succ d ih =>
    intro i hi hd
    have c : i < l0.length := by omega
    have ci : (i : Int) < (l0.length : Int) := by omega
    have ix := turn_ix (n := (l0.length : Int)) (b := b) (i := (i : Int)) (by omega) hb (by omega)
    have h1 := Int.emod_nonneg ((l0.length : Int) - 1 - (i : Int) + b) (show (l0.length : Int) ≠ 0 by omega)
    have h2 := Int.emod_lt_of_pos ((l0.length : Int) - 1 - (i : Int) + b) (show 0 < (l0.length : Int) by omega)
    have ih1 := ih (i + 1) (by omega) (by omega)
    refine Ev.step (fun k => letterbaglaw30_ShiftOrder.l0.eq_2 _ _ _ _ _ _ k) ?_
    refine ev_pos ci (ev_neg (by clear ix; omega) ?_)
    rw [ix, wsucc c (by clear ix; omega)]
    clear ix
    refine ev_pos h1 (ev_pos h2 (ev_pos (small (by rw [List.length_map, List.length_range]; omega)) ?_))
    rw [List.range_succ, List.map_append] at ih1
    exact ih1
theorem order_all (l0 : List S61) (l1 : List S55) (a2 : Int) (h0 : ∀ x ∈ l0, b61 x) (h1 : ∀ x ∈ l1, b55 x) (h2 : 0 ≤ a2 ∧ a2 ≤ 255) : Ev (fun k => letterbaglaw30_ShiftOrder.f k l0 l1 a2) true := by
  have hJ := workX_BJ h0
  have hS := hoursX_BS h1
  have hl := workX_len l0
  have hl1 := hoursX_len l1
  have hb : ∀ s ∈ (hoursX l1).map toS, s.to ≤ 256 := fun s hs => (hoursX_bd h1 s hs).2.2.2
  have hpl := plan_len hJ hS (hi := 256) (by decide) hb
  unfold letterbaglaw30_ShiftOrder.f
  refine Ev.bind (work_f h0) (Ev.bind (hours_f h1) ?_)
  have key := order_l0 (workX l0) (hoursX l1) hJ hS hl hl1 (by omega) a2 h2 ((workX l0).length - 0) 0 (by omega) rfl
  rw [List.range_zero, List.map_nil] at key
  exact key
end Go.Proofs.Ytbnjdlafnejanaa.Pr
namespace Go.Proofs.Ytbnjdlafnejanaa.shiftOrder
open Go.ChangeShapes Go.WideShapes Go.ChangeAt Go.RowKit
set_option linter.unusedVariables false
theorem own : ownKnob Try.prog.godebug = none := by kernel_rfl
theorem laidOut : laidOutB Try.prog = true := by kernel_rfl
set_option maxRecDepth 100000 in
theorem lifted (os : Os) (started : os.Started) (H : Type) (enc : TypeId × Value → H) :
    ReturnsInHanded {} Try.checked os 6 .any (Rows.shiftOrderSpec.pre6 enc Try.prog Try.f6 Rows.shiftOrderRow.domain false) (Rows.shiftOrderSpec.post enc Try.prog Try.f6 false true false false) := by
  refine returnsInHanded_of_change_sized (C := Try.checked) own started (by kernel_rfl) Try.func6
    (ChangeSpec.witness6 (enc := enc) (C := Try.checked) false ⟨#[], #[.slice none 0 0, .slice none 0 0, .int .u8 0], []⟩ 8 (by kernel_rfl) (by kernel_rfl) (by kernel_rfl) (by kernel_rfl)) ?_
  intro W base args ds gs before hval0 hW hcnd hsz0 _
  have hval : ∀ (j : Nat) t v, Try.f6.params[j]? = some t → args[j]? = some v → Value.okWide Try.prog W .any base t v := hval0
  have hW' := hW
  obtain ⟨p, q, hA0, hV, rfl, hfz, hnd⟩ := hW
  have hA : DataW.TrodAll enc Try.prog W 0 (fun _ => true) true Try.f6.params.toList args.toList ds p := hA0
  rw [Try.params6] at hA hval
  obtain ⟨v0, vs0, d0, ds0, p0, q0, hargs, rfl, rfl, h0, r0⟩ := trodAll_cons hA
  obtain ⟨v1, vs1, d1, ds1, p1, q1, rfl, rfl, rfl, h1, r1⟩ := trodAll_cons r0
  obtain ⟨v2, vs2, d2, ds2, p2, q2, rfl, rfl, rfl, h2, r2⟩ := trodAll_cons r1
  obtain ⟨rfl, rfl, rfl⟩ := trodAll_nil r2
  obtain rfl : args = #[v0, v1, v2] := by cases args; simp_all
  obtain ⟨rfl, rfl⟩ := trodVars_none hV
  obtain ⟨a0, len0, cap0, rfl⟩ := okWide_slice Try.underlying22 (hval 0 22 v0 rfl rfl)
  have k0 := h0
  have lt0 : ∀ x ∈ p0, x.block < W.heap.size := by obtain ⟨m, hm⟩ := k0; exact DataW.trod_lt m _ _ _ hm
  obtain ⟨l0, e0, c0, hr0, hb0⟩ := Pr.open61 h0
  subst e0
  obtain ⟨a1, len1, cap1, rfl⟩ := okWide_slice Try.underlying23 (hval 1 23 v1 rfl rfl)
  have k1 := h1
  have lt1 : ∀ x ∈ p1, x.block < W.heap.size := by obtain ⟨m, hm⟩ := k1; exact DataW.trod_lt m _ _ _ hm
  obtain ⟨l1, e1, c1, hr1, hb1⟩ := Pr.open55 h1
  subst e1
  obtain ⟨a2, rfl, rfl, rfl, w2⟩ := open_int Try.underlying5 (hval 2 5 v2 rfl rfl) h2
  clear hA0 hval0 hsz0
  obtain ⟨k, hk⟩ := (Pr.order_all l0 l1 a2 hb0 hb1 (Pr.u8_bd w2)).rounds
  refine (Pr.letterbaglaw30_ShiftOrder.calls k a0 cap0 l0 a1 cap1 l1 a2 W hr0 c0 hr1 c1  hk).mono fun e W' ⟨he, bel⟩ => ?_
  subst he
  exact ⟨_, rfl, _, _, _, [], _, [], hW', trodAll_mk1 (shut_bool Try.underlying4 _), (trodAll_cons_mk (Below.trod laidOut (by kernel_rfl) (of_decide_eq_true (by kernel_rfl)) k0 bel lt0) (trodAll_cons_mk (Below.trod laidOut (by kernel_rfl) (of_decide_eq_true (by kernel_rfl)) k1 bel lt1) (trodAll_cons_mk (shut_int Try.underlying5 w2) trodAll_mk0))), rfl, bel.frame _, fun h => by cases h⟩
theorem over : Rows.shiftOrderRow.holds Try.pinned (OpenSpec.ofChange Rows.shiftOrderSpec) :=
  OpenClaim.holds_of_wide 6 Try.f6 rfl rfl rfl rfl rfl rfl rfl ⟨rfl, rfl, rfl, rfl, rfl⟩ rfl rfl rfl rfl rfl (by kernel_rfl) Try.func6 (by kernel_rfl)
    (of_decide_eq_true (by kernel_rfl)) (by unfold Func.isWrapper; first | (rw [if_pos (by decide +kernel)]; kernel_rfl) | (rw [if_neg (by decide +kernel)]; exact ⟨rfl, rfl⟩))
    (fun os started H enc _ => lifted os started H enc)
theorem proved : Rows.ShiftOrderSaid := over
end Go.Proofs.Ytbnjdlafnejanaa.shiftOrder
namespace Go.Proofs.Ytbnjdlafnejanaa
/-- The row, under a short name, for the claim. -/
theorem shiftOrder_holds : Rows.ShiftOrderSaid := shiftOrder.proved
end Go.Proofs.Ytbnjdlafnejanaa
