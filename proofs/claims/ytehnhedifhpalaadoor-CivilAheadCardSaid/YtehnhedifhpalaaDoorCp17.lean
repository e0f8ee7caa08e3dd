/- Functions of the given program as plain Lean functions, and proofs that the machine's calls do what these say; written by a program of this session (myprint.py, over the kit's print). -/
import Derived.Test.YtehnhedifhpalaaDoorCp0
import Derived.Test.YtehnhedifhpalaaDoorCp3
import Derived.Test.YtehnhedifhpalaaDoorCp4
import Derived.Test.YtehnhedifhpalaaDoorCp10
import Derived.Test.YtehnhedifhpalaaDoorCf
import Derived.Test.YtehnhedifhpalaaDoorCb
import Derived.Test.YtehnhedifhpalaaDoorCp19
namespace Go.Proofs.YtehnhedifhpalaaDoor.Cp
open Go.RowKit Go.Proofs.YtehnhedifhpalaaDoorW.PrintWords Go.Proofs.YtehnhedifhpalaaDoorW.PrintLast Go.Proofs.YtehnhedifhpalaaDoorW.PrintMore
attribute [local go_sem] max2_int min2_int max_two min_two max_three min_three max_four min_four   -- for this text's walks alone
set_option linter.unusedVariables false
set_option linter.unusedSimpArgs false
/-! ### letterbaglaw01_CivilAhead: function 11 -/
def letterbaglaw01_CivilAhead.j0 : Nat → Int → Int → List Int → Int → Bool → Option (Bool)
  | 0, _, _, _, _, _ => none
  | k + 1, x1, x2, x7, x8, x98 => if x98 = true then (some false) else (if x8 = 730484 then (some true) else ((civil_Ahead.f k x1 (wrap64 (x2 + 1)) x7).bind fun bt375 => ((civil_Ahead.f k (wrap64 (x8 + 1)) 0 x7).bind fun bt377 => (if bt375.1 = bt377.1 then (some (bt375.2 == bt377.2)) else (some false)))))
def letterbaglaw01_CivilAhead.f (k : Nat) (l0 : List Int) (a1 : Int) (a2 : Int) : Option (Bool) := (letterbaglaw01_awake.f k).bind fun t359 => (if t359 = true then ((letterbaglaw01_list.f k l0).bind fun t360 => ((letterbaglaw01_day.f a1).bind fun t363 => ((letterbagkit_Pick.f a2 1048576).bind fun t364 => ((civil_Ahead.f k t363 t364 t360).bind fun bt365 => (if bt365.2 = 0 then ((civil_Works.f k bt365.1 t360).bind fun bt371 => ((civil_Between.f t363 bt365.1 t360).bind fun bt373 => (if bt371.1 = true then (if (wrap64 (bt371.2 + bt373.2)) = 0 then (if bt365.1 < t363 then (letterbaglaw01_CivilAhead.j0 k t363 t364 t360 bt365.1 true) else (letterbaglaw01_CivilAhead.j0 k t363 t364 t360 bt365.1 (bt373.1 != t364))) else (letterbaglaw01_CivilAhead.j0 k t363 t364 t360 bt365.1 true)) else (letterbaglaw01_CivilAhead.j0 k t363 t364 t360 bt365.1 true)))) else ((civil_Between.f t363 730484 t360).bind fun bt367 => ((civil_Works.f k 730484 t360).bind fun bt369 => (if bt369.1 = true then (if bt365.2 = 3 then (if bt365.1 = 0 then (if (wrap64 (bt367.2 + bt369.2)) = 0 then (some (decide ((wrap64 (bt367.1 + 1)) ≤ t364))) else (some false)) else (some false)) else (some false)) else (if bt365.2 = 3 then (if bt365.1 = 0 then (if (wrap64 (bt367.2 + bt369.2)) = 0 then (some (decide (bt367.1 ≤ t364))) else (some false)) else (some false)) else (some false)))))))))) else (some false))
theorem letterbaglaw01_CivilAhead.mono_l : ∀ k, (∀ y0 y1 y2 y3 y4, LeO (letterbaglaw01_CivilAhead.j0 k y0 y1 y2 y3 y4) (letterbaglaw01_CivilAhead.j0 (k + 1) y0 y1 y2 y3 y4))
  | 0 => fun _ _ _ _ _ r h => by simp [letterbaglaw01_CivilAhead.j0] at h
  | k + 1 => by
    have ih0 := letterbaglaw01_CivilAhead.mono_l k
    · intro y0 y1 y2 y3 y4
      unfold letterbaglaw01_CivilAhead.j0
      repeat' first
      | (with_reducible exact ih0 _ _ _ _ _)
      | (with_reducible exact civil_Ahead.mono _ _ _ _)
      | (with_reducible exact civil_Works.mono _ _ _)
      | (with_reducible exact letterbaglaw01_awake.mono _)
      | (with_reducible exact letterbaglaw01_list.mono _ _)
      | (with_reducible exact LeO.refl _)
      | (with_reducible exact LeO.none _)
      | (with_reducible refine LeO.ite ?_ ?_)
      | (with_reducible refine LeO.bind ?_ (fun _ => ?_))
      | exact ih0 _ _ _ _ _
      | exact civil_Ahead.mono _ _ _ _
      | exact civil_Works.mono _ _ _
      | exact letterbaglaw01_awake.mono _
      | exact letterbaglaw01_list.mono _ _
      | exact LeO.none _
      | refine LeO.ite ?_ ?_
      | refine LeO.bind ?_ (fun _ => ?_)
theorem letterbaglaw01_CivilAhead.mono : ∀ a0 a1 a2 k, LeO (letterbaglaw01_CivilAhead.f k a0 a1 a2) (letterbaglaw01_CivilAhead.f (k + 1) a0 a1 a2) := by
  intro a0 a1 a2 k
  have ih0 := letterbaglaw01_CivilAhead.mono_l k
  unfold letterbaglaw01_CivilAhead.f
  repeat' first
      | (with_reducible exact ih0 _ _ _ _ _)
      | (with_reducible exact civil_Ahead.mono _ _ _ _)
      | (with_reducible exact civil_Works.mono _ _ _)
      | (with_reducible exact letterbaglaw01_awake.mono _)
      | (with_reducible exact letterbaglaw01_list.mono _ _)
      | (with_reducible exact LeO.refl _)
      | (with_reducible exact LeO.none _)
      | (with_reducible refine LeO.ite ?_ ?_)
      | (with_reducible refine LeO.bind ?_ (fun _ => ?_))
      | exact ih0 _ _ _ _ _
      | exact civil_Ahead.mono _ _ _ _
      | exact civil_Works.mono _ _ _
      | exact letterbaglaw01_awake.mono _
      | exact letterbaglaw01_list.mono _ _
      | exact LeO.none _
      | refine LeO.ite ?_ ?_
      | refine LeO.bind ?_ (fun _ => ?_)
set_option maxHeartbeats 8000000 in
set_option maxRecDepth 100000 in
theorem letterbaglaw01_CivilAhead.calls (k : Nat) (A0 : Option Addr) (c0 : Nat) (l0 : List Int) (a1 : Int) (a2 : Int) (w : World) (hg : Aside0 (Tab w)) (hr0 : Kd.C (Kd.int .u16) w A0 l0.length l0) (hc0 : l0.length ≤ c0) (h : letterbaglaw01_CivilAhead.f k l0 a1 a2 = some true) :
    Calls Tryd.prog 11 #[.slice A0 l0.length c0, .int .i64 a1, .int .i64 a2] w fun e w' => e = .returned (.bool true) ∧ Below w.heap.size w w' := by
  have HR0 := Aside0.mk hr0
  have HC0 := Aside0.mk hc0
  clear hr0 hc0
  have HB := Aside0.mk (Below.refl w.heap.size w)
  have H : ((letterbaglaw01_awake.f k).bind fun t359 => (if t359 = true then ((letterbaglaw01_list.f k l0).bind fun t360 => ((letterbaglaw01_day.f a1).bind fun t363 => ((letterbagkit_Pick.f a2 1048576).bind fun t364 => ((civil_Ahead.f k t363 t364 t360).bind fun bt365 => (if bt365.2 = 0 then ((civil_Works.f k bt365.1 t360).bind fun bt371 => ((civil_Between.f t363 bt365.1 t360).bind fun bt373 => (if bt371.1 = true then (if (wrap64 (bt371.2 + bt373.2)) = 0 then (if bt365.1 < t363 then (letterbaglaw01_CivilAhead.j0 k t363 t364 t360 bt365.1 true) else (letterbaglaw01_CivilAhead.j0 k t363 t364 t360 bt365.1 (bt373.1 != t364))) else (letterbaglaw01_CivilAhead.j0 k t363 t364 t360 bt365.1 true)) else (letterbaglaw01_CivilAhead.j0 k t363 t364 t360 bt365.1 true)))) else ((civil_Between.f t363 730484 t360).bind fun bt367 => ((civil_Works.f k 730484 t360).bind fun bt369 => (if bt369.1 = true then (if bt365.2 = 3 then (if bt365.1 = 0 then (if (wrap64 (bt367.2 + bt369.2)) = 0 then (some (decide ((wrap64 (bt367.1 + 1)) ≤ t364))) else (some false)) else (some false)) else (some false)) else (if bt365.2 = 3 then (if bt365.1 = 0 then (if (wrap64 (bt367.2 + bt369.2)) = 0 then (some (decide (bt367.1 ≤ t364))) else (some false)) else (some false)) else (some false)))))))))) else (some false))) = some true := h
  clear h
  replace H := Option.bind_eq_some_iff.mp H
  obtain ⟨t359, A40, H⟩ := H
  replace H : (if t359 = true then ((letterbaglaw01_list.f k l0).bind fun t360 => ((letterbaglaw01_day.f a1).bind fun t363 => ((letterbagkit_Pick.f a2 1048576).bind fun t364 => ((civil_Ahead.f k t363 t364 t360).bind fun bt365 => (if bt365.2 = 0 then ((civil_Works.f k bt365.1 t360).bind fun bt371 => ((civil_Between.f t363 bt365.1 t360).bind fun bt373 => (if bt371.1 = true then (if (wrap64 (bt371.2 + bt373.2)) = 0 then (if bt365.1 < t363 then (letterbaglaw01_CivilAhead.j0 k t363 t364 t360 bt365.1 true) else (letterbaglaw01_CivilAhead.j0 k t363 t364 t360 bt365.1 (bt373.1 != t364))) else (letterbaglaw01_CivilAhead.j0 k t363 t364 t360 bt365.1 true)) else (letterbaglaw01_CivilAhead.j0 k t363 t364 t360 bt365.1 true)))) else ((civil_Between.f t363 730484 t360).bind fun bt367 => ((civil_Works.f k 730484 t360).bind fun bt369 => (if bt369.1 = true then (if bt365.2 = 3 then (if bt365.1 = 0 then (if (wrap64 (bt367.2 + bt369.2)) = 0 then (some (decide ((wrap64 (bt367.1 + 1)) ≤ t364))) else (some false)) else (some false)) else (some false)) else (if bt365.2 = 3 then (if bt365.1 = 0 then (if (wrap64 (bt367.2 + bt369.2)) = 0 then (some (decide (bt367.1 ≤ t364))) else (some false)) else (some false)) else (some false)))))))))) else (some false)) = some true := H
  have A4 := Aside0.mk A40
  clear A40
  by_cases c5 : t359 = true
  · subst c5
    have H1 : ((letterbaglaw01_list.f k l0).bind fun t360 => ((letterbaglaw01_day.f a1).bind fun t363 => ((letterbagkit_Pick.f a2 1048576).bind fun t364 => ((civil_Ahead.f k t363 t364 t360).bind fun bt365 => (if bt365.2 = 0 then ((civil_Works.f k bt365.1 t360).bind fun bt371 => ((civil_Between.f t363 bt365.1 t360).bind fun bt373 => (if bt371.1 = true then (if (wrap64 (bt371.2 + bt373.2)) = 0 then (if bt365.1 < t363 then (letterbaglaw01_CivilAhead.j0 k t363 t364 t360 bt365.1 true) else (letterbaglaw01_CivilAhead.j0 k t363 t364 t360 bt365.1 (bt373.1 != t364))) else (letterbaglaw01_CivilAhead.j0 k t363 t364 t360 bt365.1 true)) else (letterbaglaw01_CivilAhead.j0 k t363 t364 t360 bt365.1 true)))) else ((civil_Between.f t363 730484 t360).bind fun bt367 => ((civil_Works.f k 730484 t360).bind fun bt369 => (if bt369.1 = true then (if bt365.2 = 3 then (if bt365.1 = 0 then (if (wrap64 (bt367.2 + bt369.2)) = 0 then (some (decide ((wrap64 (bt367.1 + 1)) ≤ t364))) else (some false)) else (some false)) else (some false)) else (if bt365.2 = 3 then (if bt365.1 = 0 then (if (wrap64 (bt367.2 + bt369.2)) = 0 then (some (decide (bt367.1 ≤ t364))) else (some false)) else (some false)) else (some false)))))))))) = some true := by rw [if_pos rfl] at H; exact H
    clear H
    have H := H1
    clear H1
    replace H := Option.bind_eq_some_iff.mp H
    obtain ⟨t360, A60, H⟩ := H
    replace H : ((letterbaglaw01_day.f a1).bind fun t363 => ((letterbagkit_Pick.f a2 1048576).bind fun t364 => ((civil_Ahead.f k t363 t364 t360).bind fun bt365 => (if bt365.2 = 0 then ((civil_Works.f k bt365.1 t360).bind fun bt371 => ((civil_Between.f t363 bt365.1 t360).bind fun bt373 => (if bt371.1 = true then (if (wrap64 (bt371.2 + bt373.2)) = 0 then (if bt365.1 < t363 then (letterbaglaw01_CivilAhead.j0 k t363 t364 t360 bt365.1 true) else (letterbaglaw01_CivilAhead.j0 k t363 t364 t360 bt365.1 (bt373.1 != t364))) else (letterbaglaw01_CivilAhead.j0 k t363 t364 t360 bt365.1 true)) else (letterbaglaw01_CivilAhead.j0 k t363 t364 t360 bt365.1 true)))) else ((civil_Between.f t363 730484 t360).bind fun bt367 => ((civil_Works.f k 730484 t360).bind fun bt369 => (if bt369.1 = true then (if bt365.2 = 3 then (if bt365.1 = 0 then (if (wrap64 (bt367.2 + bt369.2)) = 0 then (some (decide ((wrap64 (bt367.1 + 1)) ≤ t364))) else (some false)) else (some false)) else (some false)) else (if bt365.2 = 3 then (if bt365.1 = 0 then (if (wrap64 (bt367.2 + bt369.2)) = 0 then (some (decide (bt367.1 ≤ t364))) else (some false)) else (some false)) else (some false))))))))) = some true := H
    have A6 := Aside0.mk A60
    clear A60
    replace H := Option.bind_eq_some_iff.mp H
    obtain ⟨t363, A70, H⟩ := H
    replace H : ((letterbagkit_Pick.f a2 1048576).bind fun t364 => ((civil_Ahead.f k t363 t364 t360).bind fun bt365 => (if bt365.2 = 0 then ((civil_Works.f k bt365.1 t360).bind fun bt371 => ((civil_Between.f t363 bt365.1 t360).bind fun bt373 => (if bt371.1 = true then (if (wrap64 (bt371.2 + bt373.2)) = 0 then (if bt365.1 < t363 then (letterbaglaw01_CivilAhead.j0 k t363 t364 t360 bt365.1 true) else (letterbaglaw01_CivilAhead.j0 k t363 t364 t360 bt365.1 (bt373.1 != t364))) else (letterbaglaw01_CivilAhead.j0 k t363 t364 t360 bt365.1 true)) else (letterbaglaw01_CivilAhead.j0 k t363 t364 t360 bt365.1 true)))) else ((civil_Between.f t363 730484 t360).bind fun bt367 => ((civil_Works.f k 730484 t360).bind fun bt369 => (if bt369.1 = true then (if bt365.2 = 3 then (if bt365.1 = 0 then (if (wrap64 (bt367.2 + bt369.2)) = 0 then (some (decide ((wrap64 (bt367.1 + 1)) ≤ t364))) else (some false)) else (some false)) else (some false)) else (if bt365.2 = 3 then (if bt365.1 = 0 then (if (wrap64 (bt367.2 + bt369.2)) = 0 then (some (decide (bt367.1 ≤ t364))) else (some false)) else (some false)) else (some false)))))))) = some true := H
    have A7 := Aside0.mk A70
    clear A70
    replace H := Option.bind_eq_some_iff.mp H
    obtain ⟨t364, A80, H⟩ := H
    replace H : ((civil_Ahead.f k t363 t364 t360).bind fun bt365 => (if bt365.2 = 0 then ((civil_Works.f k bt365.1 t360).bind fun bt371 => ((civil_Between.f t363 bt365.1 t360).bind fun bt373 => (if bt371.1 = true then (if (wrap64 (bt371.2 + bt373.2)) = 0 then (if bt365.1 < t363 then (letterbaglaw01_CivilAhead.j0 k t363 t364 t360 bt365.1 true) else (letterbaglaw01_CivilAhead.j0 k t363 t364 t360 bt365.1 (bt373.1 != t364))) else (letterbaglaw01_CivilAhead.j0 k t363 t364 t360 bt365.1 true)) else (letterbaglaw01_CivilAhead.j0 k t363 t364 t360 bt365.1 true)))) else ((civil_Between.f t363 730484 t360).bind fun bt367 => ((civil_Works.f k 730484 t360).bind fun bt369 => (if bt369.1 = true then (if bt365.2 = 3 then (if bt365.1 = 0 then (if (wrap64 (bt367.2 + bt369.2)) = 0 then (some (decide ((wrap64 (bt367.1 + 1)) ≤ t364))) else (some false)) else (some false)) else (some false)) else (if bt365.2 = 3 then (if bt365.1 = 0 then (if (wrap64 (bt367.2 + bt369.2)) = 0 then (some (decide (bt367.1 ≤ t364))) else (some false)) else (some false)) else (some false))))))) = some true := H
    have A8 := Aside0.mk A80
    clear A80
    replace H := Option.bind_eq_some_iff.mp H
    obtain ⟨⟨t365, t366⟩, A90, H⟩ := H
    replace H : (if t366 = 0 then ((civil_Works.f k t365 t360).bind fun bt371 => ((civil_Between.f t363 t365 t360).bind fun bt373 => (if bt371.1 = true then (if (wrap64 (bt371.2 + bt373.2)) = 0 then (if t365 < t363 then (letterbaglaw01_CivilAhead.j0 k t363 t364 t360 t365 true) else (letterbaglaw01_CivilAhead.j0 k t363 t364 t360 t365 (bt373.1 != t364))) else (letterbaglaw01_CivilAhead.j0 k t363 t364 t360 t365 true)) else (letterbaglaw01_CivilAhead.j0 k t363 t364 t360 t365 true)))) else ((civil_Between.f t363 730484 t360).bind fun bt367 => ((civil_Works.f k 730484 t360).bind fun bt369 => (if bt369.1 = true then (if t366 = 3 then (if t365 = 0 then (if (wrap64 (bt367.2 + bt369.2)) = 0 then (some (decide ((wrap64 (bt367.1 + 1)) ≤ t364))) else (some false)) else (some false)) else (some false)) else (if t366 = 3 then (if t365 = 0 then (if (wrap64 (bt367.2 + bt369.2)) = 0 then (some (decide (bt367.1 ≤ t364))) else (some false)) else (some false)) else (some false)))))) = some true := H
    have A9 := Aside0.mk A90
    clear A90
    by_cases c10 : t366 = 0
    · rw [if_pos c10] at H
      have c10b0 : (t366 == 0) = true := beq_iff_eq.mpr c10
      have c10b1 : (t366 != 0) = false := bne_eq_false_iff_eq.mpr c10
      clear c10
      replace H := Option.bind_eq_some_iff.mp H
      obtain ⟨⟨t371, t372⟩, A110, H⟩ := H
      replace H : ((civil_Between.f t363 t365 t360).bind fun bt373 => (if t371 = true then (if (wrap64 (t372 + bt373.2)) = 0 then (if t365 < t363 then (letterbaglaw01_CivilAhead.j0 k t363 t364 t360 t365 true) else (letterbaglaw01_CivilAhead.j0 k t363 t364 t360 t365 (bt373.1 != t364))) else (letterbaglaw01_CivilAhead.j0 k t363 t364 t360 t365 true)) else (letterbaglaw01_CivilAhead.j0 k t363 t364 t360 t365 true))) = some true := H
      have A11 := Aside0.mk A110
      clear A110
      replace H := Option.bind_eq_some_iff.mp H
      obtain ⟨⟨t373, t374⟩, A120, H⟩ := H
      replace H : (if t371 = true then (if (wrap64 (t372 + t374)) = 0 then (if t365 < t363 then (letterbaglaw01_CivilAhead.j0 k t363 t364 t360 t365 true) else (letterbaglaw01_CivilAhead.j0 k t363 t364 t360 t365 (t373 != t364))) else (letterbaglaw01_CivilAhead.j0 k t363 t364 t360 t365 true)) else (letterbaglaw01_CivilAhead.j0 k t363 t364 t360 t365 true)) = some true := H
      have A12 := Aside0.mk A120
      clear A120
      have HC13 := Aside0.mk H
      clear H
      go_enter Tryd.func11, Tryd.ntmps11
      go_upto_region 14 with (first | ((with_reducible refine gate_callee (f := 17) rfl ?_); refine goesL_ (some 20) rfl rfl Tryd.func17 (by kernel_rfl) rfl #[] rfl (by (try simp only [List.map_toArray, List.map_cons, List.map_nil]); first | done | rfl | (simp only [List.length_drop, List.length_take]; rfl)) ?_; (with_reducible refine (letterbaglaw01_awake.calls k  true _ ?tabG A4.out).mono ?_); (case tabG => (first | exact hg | exact ⟨hg.out.below (by repeat (first | (with_reducible first | exact HB.out | apply below_alloc | apply pw_below_drewN | apply below_drew1) | exact HB.out))⟩)); rintro e w14 ⟨rfl, hb⟩; refine ⟨_, rfl, ?_⟩; have n0_ := Aside0.mk (below_step (by repeat (first | (with_reducible first | exact HB.out | apply below_alloc | apply pw_below_drewN | apply below_drew1) | exact HB.out)) hb); clear HB; have HB := n0_; clear n0_; (try clear hb); (try clear hb2); (try clear hk); (try clear hi)) | ((with_reducible refine gate_callee (f := 38) rfl ?_); refine goesL_ (some 23) rfl rfl Tryd.func38 (by kernel_rfl) rfl #[.slice A0 l0.length c0] rfl (by (try simp only [List.map_toArray, List.map_cons, List.map_nil]); first | done | rfl | (simp only [List.length_drop, List.length_take]; rfl)) ?_; (with_reducible refine (letterbaglaw01_list.calls k _ _ l0 t360 _ ?side1 ?side2 A6.out).mono ?_); (case side1 => repeat (first | exact (Kd.C_below HR0.out HB.out) | (with_reducible refine Kd.C_alloc ?_ _) | (with_reducible refine Kd.C_drewN ?_ _) | (with_reducible refine Kd.C_drew ?_))); (case side2 => exact HC0.out); rintro e w15 ⟨v361, rfl, ho0, hb⟩; refine ⟨_, rfl, ?_⟩; have n0_ := Aside0.mk (Kd.R_lower ho0 (below_size (by repeat (first | (with_reducible first | exact HB.out | apply below_alloc | apply pw_below_drewN | apply below_drew1) | exact HB.out)))); have n1_ := Aside0.mk (below_step (by repeat (first | (with_reducible first | exact HB.out | apply below_alloc | apply pw_below_drewN | apply below_drew1) | exact HB.out)) hb); clear HB; have HO362 := n0_; have HB := n1_; clear n0_ n1_; (try clear hb); (try clear hb2); (try clear hk); (try clear hi); (try clear ho0)) | ((with_reducible refine gate_callee (f := 37) rfl ?_); refine goesL_ (some 25) rfl rfl Tryd.func37 (by kernel_rfl) rfl #[.int .i64 a1] rfl (by (try simp only [List.map_toArray, List.map_cons, List.map_nil]); first | done | rfl | (simp only [List.length_drop, List.length_take]; rfl)) ?_; (with_reducible refine (letterbaglaw01_day.calls a1 t363 _ A7.out).mono ?_); rintro e w' ⟨rfl, ⟨nd, rfl⟩⟩; refine ⟨_, rfl, ?_⟩) | ((with_reducible refine gate_callee (f := 18) rfl ?_); refine goesL_ (some 27) rfl rfl Tryd.func18 (by kernel_rfl) rfl #[.int .i64 a2, .int .i64 1048576] rfl (by (try simp only [List.map_toArray, List.map_cons, List.map_nil]); first | done | rfl | (simp only [List.length_drop, List.length_take]; rfl)) ?_; (with_reducible refine (letterbagkit_Pick.calls a2 1048576 t364 _ A8.out).mono ?_); rintro e w' ⟨rfl, ⟨nd, rfl⟩⟩; refine ⟨_, rfl, ?_⟩; obtain ⟨Ao16, co16, eo16⟩ := Kd.R_slice HO362.out; subst eo16) | ((with_reducible refine gate_callee (f := 26) rfl ?_); refine goesL_ (some 32) rfl rfl Tryd.func26 (by kernel_rfl) rfl #[.int .i64 t363, .int .i64 t364, .slice Ao16 t360.length co16] rfl (by (try simp only [List.map_toArray, List.map_cons, List.map_nil]); first | done | rfl | (simp only [List.length_drop, List.length_take]; rfl)) ?_; (with_reducible refine (civil_Ahead.calls k t363 t364 _ _ t360 t365 t366 _ ?side1 ?side2 A9.out).mono ?_); (case side1 => repeat (first | exact (Kd.R_reads' HO362.out).2.2 | (with_reducible refine Kd.C_alloc ?_ _) | (with_reducible refine Kd.C_drewN ?_ _) | (with_reducible refine Kd.C_drew ?_))); (case side2 => exact (Kd.R_reads' HO362.out).2.1); rintro e w17 ⟨rfl, hb⟩; refine ⟨_, rfl, ?_⟩; have n0_ := Aside0.mk (Kd.R_below (by (with_reducible repeat (first | apply Kd.R_alloc | apply Kd.R_drewN | apply Kd.R_drew)); exact HO362.out) hb); have n1_ := Aside0.mk (below_step (by repeat (first | (with_reducible first | exact HB.out | apply below_alloc | apply pw_below_drewN | apply below_drew1) | exact HB.out)) hb); clear HO362; clear HB; have HO362 := n0_; have HB := n1_; clear n0_ n1_; (try clear hb); (try clear hb2); (try clear hk); (try clear hi)) | ((with_reducible refine gate_callee (f := 25) rfl ?_); refine goesL_ (some 71) rfl rfl Tryd.func25 (by kernel_rfl) rfl #[.int .i64 t365, .slice Ao16 t360.length co16] rfl (by (try simp only [List.map_toArray, List.map_cons, List.map_nil]); first | done | rfl | (simp only [List.length_drop, List.length_take]; rfl)) ?_; (with_reducible refine (civil_Works.calls k t365 _ _ t360 t371 t372 _ ?side1 ?side2 A11.out).mono ?_); (case side1 => repeat (first | exact (Kd.R_reads' HO362.out).2.2 | (with_reducible refine Kd.C_alloc ?_ _) | (with_reducible refine Kd.C_drewN ?_ _) | (with_reducible refine Kd.C_drew ?_))); (case side2 => exact (Kd.R_reads' HO362.out).2.1); rintro e w' ⟨rfl, ⟨nd, rfl⟩⟩; refine ⟨_, rfl, ?_⟩) | ((with_reducible refine gate_callee (f := 28) rfl ?_); refine goesL_ (some 78) rfl rfl Tryd.func28 (by kernel_rfl) rfl #[.int .i64 t363, .int .i64 t365, .slice Ao16 t360.length co16] rfl (by (try simp only [List.map_toArray, List.map_cons, List.map_nil]); first | done | rfl | (simp only [List.length_drop, List.length_take]; rfl)) ?_; (with_reducible refine (civil_Between.calls t363 t365 _ _ t360 t373 t374 _ ?side1 ?side2 A12.out).mono ?_); (case side1 => repeat (first | exact (Kd.R_reads' HO362.out).2.2 | (with_reducible refine Kd.C_alloc ?_ _) | (with_reducible refine Kd.C_drewN ?_ _) | (with_reducible refine Kd.C_drew ?_))); (case side2 => exact (Kd.R_reads' HO362.out).2.1); rintro e w18 ⟨rfl, hb⟩; refine ⟨_, rfl, ?_⟩; have n0_ := Aside0.mk (Kd.R_below (by (with_reducible repeat (first | apply Kd.R_alloc | apply Kd.R_drewN | apply Kd.R_drew)); exact HO362.out) hb); have n1_ := Aside0.mk (below_step (by repeat (first | (with_reducible first | exact HB.out | apply below_alloc | apply pw_below_drewN | apply below_drew1) | exact HB.out)) hb); clear HO362; clear HB; have HO362 := n0_; have HB := n1_; clear n0_ n1_; (try clear hb); (try clear hb2); (try clear hk); (try clear hi)))
      (try simp only [Act.put, List.setIfInBounds_toArray, List.set_cons_zero, List.set_cons_succ])
      go_cut [98] (fun v98 wc => ∃ (kq : Nat) (x98_12 : Bool), v98 = .bool x98_12 ∧ Aside0 (letterbaglaw01_CivilAhead.j0 kq t363 t364 t360 t365 x98_12 = some true) ∧ Aside0 (kq ≤ k) ∧ Aside0 (Kd.R (Kd.int .i64) 3 wc w.heap.size (fun _ => True) (.slice Ao16 t360.length co16) t360) ∧ Aside0 (Below w.heap.size w wc))
      case first =>
        have H := HC13.out
        clear HC13
        by_cases c19 : t371 = true
        · subst c19
          have H1 : (if (wrap64 (t372 + t374)) = 0 then (if t365 < t363 then (letterbaglaw01_CivilAhead.j0 k t363 t364 t360 t365 true) else (letterbaglaw01_CivilAhead.j0 k t363 t364 t360 t365 (t373 != t364))) else (letterbaglaw01_CivilAhead.j0 k t363 t364 t360 t365 true)) = some true := by rw [if_pos rfl] at H; exact H
          clear H
          have H := H1
          clear H1
          by_cases c20 : (wrap64 (t372 + t374)) = 0
          · rw [if_pos c20] at H
            have c20b0 : ((wrap64 (t372 + t374)) == 0) = true := beq_iff_eq.mpr c20
            have c20b1 : ((wrap64 (t372 + t374)) != 0) = false := bne_eq_false_iff_eq.mpr c20
            clear c20
            (first | rw [c20b0] | (simp only [i64_w, i32_w]; rw [c20b0]) | skip)
            by_cases c21 : t365 < t363
            · rw [if_pos c21] at H
              have c21b0 : decide (t365 < t363) = true := decide_eq_true c21
              clear c21
              have H' := Aside0.mk H
              clear H
              go_wp2
              go_meet
              case rel => exact ⟨_, (true), (by first | rfl | (simp; done) | (simp [*]; done) | (simp; exact (show ∀ a_ b_ : Bool, (a_ == b_) = (!(a_ != b_)) from by decide) _ _) | (rw [Bool.eq_iff_iff]; simp; done) | (simp; rw [Bool.eq_iff_iff]; simp; done)), H', ⟨by first | omega | exact Nat.le_refl _⟩, ⟨by (with_reducible repeat (first | apply Kd.R_alloc | apply Kd.R_drewN | apply Kd.R_drew)); exact HO362.out⟩, ⟨by repeat (first | (with_reducible first | exact HB.out | apply below_alloc | apply pw_below_drewN | apply below_drew1) | exact HB.out)⟩⟩
            · rw [if_neg c21] at H
              have c21b0 : decide (t365 < t363) = false := decide_eq_false c21
              clear c21
              have H' := Aside0.mk H
              clear H
              go_wp2
              go_meet
              case rel => exact ⟨_, ((t373 != t364)), (by first | rfl | (simp; done) | (simp [*]; done) | (simp; exact (show ∀ a_ b_ : Bool, (a_ == b_) = (!(a_ != b_)) from by decide) _ _) | (rw [Bool.eq_iff_iff]; simp; done) | (simp; rw [Bool.eq_iff_iff]; simp; done)), H', ⟨by first | omega | exact Nat.le_refl _⟩, ⟨by (with_reducible repeat (first | apply Kd.R_alloc | apply Kd.R_drewN | apply Kd.R_drew)); exact HO362.out⟩, ⟨by repeat (first | (with_reducible first | exact HB.out | apply below_alloc | apply pw_below_drewN | apply below_drew1) | exact HB.out)⟩⟩
          · rw [if_neg c20] at H
            have c20b0 : ((wrap64 (t372 + t374)) == 0) = false := beq_eq_false_iff_ne.mpr c20
            have c20b1 : ((wrap64 (t372 + t374)) != 0) = true := bne_iff_ne.mpr c20
            (first | rw [c20b0] | (simp only [i64_w, i32_w]; rw [c20b0]) | skip)
            have H' := Aside0.mk H
            clear H
            go_wp2
            go_meet
            case rel => exact ⟨_, (true), (by first | rfl | (simp; done) | (simp [*]; done) | (simp; exact (show ∀ a_ b_ : Bool, (a_ == b_) = (!(a_ != b_)) from by decide) _ _) | (rw [Bool.eq_iff_iff]; simp; done) | (simp; rw [Bool.eq_iff_iff]; simp; done)), H', ⟨by first | omega | exact Nat.le_refl _⟩, ⟨by (with_reducible repeat (first | apply Kd.R_alloc | apply Kd.R_drewN | apply Kd.R_drew)); exact HO362.out⟩, ⟨by repeat (first | (with_reducible first | exact HB.out | apply below_alloc | apply pw_below_drewN | apply below_drew1) | exact HB.out)⟩⟩
        · replace c19 := Bool.eq_false_iff.mpr c19
          subst c19
          have H1 : (letterbaglaw01_CivilAhead.j0 k t363 t364 t360 t365 true) = some true := by rw [if_neg (show ¬ (false = true) by decide)] at H; exact H
          clear H
          have H := H1
          clear H1
          have H' := Aside0.mk H
          clear H
          go_wp2
          go_meet
          case rel => exact ⟨_, (true), (by first | rfl | (simp; done) | (simp [*]; done) | (simp; exact (show ∀ a_ b_ : Bool, (a_ == b_) = (!(a_ != b_)) from by decide) _ _) | (rw [Bool.eq_iff_iff]; simp; done) | (simp; rw [Bool.eq_iff_iff]; simp; done)), H', ⟨by first | omega | exact Nat.le_refl _⟩, ⟨by (with_reducible repeat (first | apply Kd.R_alloc | apply Kd.R_drewN | apply Kd.R_drew)); exact HO362.out⟩, ⟨by repeat (first | (with_reducible first | exact HB.out | apply below_alloc | apply pw_below_drewN | apply below_drew1) | exact HB.out)⟩⟩
      case rest =>
        clear HC13
        try clear c1
        try clear c2
        try clear p2
        try clear c3
        try clear c5
        try clear p6
        try clear c10
        try clear c10b0
        try clear c10b1
        try clear c11
        try clear c17
        try clear c18
        try clear c19
        try clear c20
        try clear c20b0
        try clear c20b1
        try clear c21
        try clear c21b0
        obtain ⟨kq, x98_12, rfl, HA, HJ12, HO_7, HB⟩ := hcut
        cases kq with
        | zero => exact absurd HA.out (by simp [letterbaglaw01_CivilAhead.j0])
        | succ kj12 =>
          have H := HA.out
          clear HA
          simp only [letterbaglaw01_CivilAhead.j0] at H
          by_cases c22 : x98_12 = true
          · subst c22
            have H1 : (some false) = some true := by rw [if_pos rfl] at H; exact H
            clear H
            have H := H1
            clear H1
            exact absurd H (by simp)
          · replace c22 := Bool.eq_false_iff.mpr c22
            subst c22
            have H1 : (if t365 = 730484 then (some true) else ((civil_Ahead.f kj12 t363 (wrap64 (t364 + 1)) t360).bind fun bt375 => ((civil_Ahead.f kj12 (wrap64 (t365 + 1)) 0 t360).bind fun bt377 => (if bt375.1 = bt377.1 then (some (bt375.2 == bt377.2)) else (some false))))) = some true := by rw [if_neg (show ¬ (false = true) by decide)] at H; exact H
            clear H
            have H := H1
            clear H1
            by_cases c23 : t365 = 730484
            · rw [if_pos c23] at H
              have c23b0 : (t365 == 730484) = true := beq_iff_eq.mpr c23
              have c23b1 : (t365 != 730484) = false := bne_eq_false_iff_eq.mpr c23
              clear c23
              have HT_ := Aside0.mk (Option.some.inj H)
              go_wp2
              go_ret
              exact ⟨by first | rfl | (rw [HT_.out]; done) | (rw [HT_.out]; rfl) | (have e_ := HT_.out; simp only [e_]; done) | (have e_ := HT_.out; simp only [e_]; rfl) | (have e_ := HT_.out; simp at e_ ⊢; exact e_) | (have e_ := HT_.out; simp_all; done) | (simp [errW_none, errW_some] <;> rfl) | (simp [*, errW_none, errW_some] <;> rfl), by repeat (first | (with_reducible first | exact HB.out | apply below_alloc | apply pw_below_drewN | apply below_drew1) | exact HB.out)⟩
            · rw [if_neg c23] at H
              have c23b0 : (t365 == 730484) = false := beq_eq_false_iff_ne.mpr c23
              have c23b1 : (t365 != 730484) = true := bne_iff_ne.mpr c23
              replace H := Option.bind_eq_some_iff.mp H
              obtain ⟨⟨t375, t376⟩, A240, H⟩ := H
              replace H : ((civil_Ahead.f kj12 (wrap64 (t365 + 1)) 0 t360).bind fun bt377 => (if t375 = bt377.1 then (some (t376 == bt377.2)) else (some false))) = some true := H
              have A24 := Aside0.mk A240
              clear A240
              replace H := Option.bind_eq_some_iff.mp H
              obtain ⟨⟨t377, t378⟩, A250, H⟩ := H
              replace H : (if t375 = t377 then (some (t376 == t378)) else (some false)) = some true := H
              have A25 := Aside0.mk A250
              clear A250
              by_cases c26 : t375 = t377
              · rw [if_pos c26] at H
                have c26b0 : (t375 == t377) = true := beq_iff_eq.mpr c26
                have c26b1 : (t375 != t377) = false := bne_eq_false_iff_eq.mpr c26
                clear c26
                have HT_ := Aside0.mk (Option.some.inj H)
                go_wp2_with (first | ((with_reducible refine gate_callee (f := 26) rfl ?_); refine goesL_ (some 106) rfl rfl Tryd.func26 (by kernel_rfl) rfl #[.int .i64 t363, .int .i64 (wrap64 (t364 + 1)), .slice Ao16 t360.length co16] rfl (by (try simp only [List.map_toArray, List.map_cons, List.map_nil]); first | done | rfl | (simp only [List.length_drop, List.length_take]; rfl)) ?_; (with_reducible refine (civil_Ahead.calls kj12 t363 (wrap64 (t364 + 1)) _ _ t360 t375 t376 _ ?side1 ?side2 A24.out).mono ?_); (case side1 => repeat (first | exact (Kd.R_reads' HO_7.out).2.2 | (with_reducible refine Kd.C_alloc ?_ _) | (with_reducible refine Kd.C_drewN ?_ _) | (with_reducible refine Kd.C_drew ?_))); (case side2 => exact (Kd.R_reads' HO_7.out).2.1); rintro e w27 ⟨rfl, hb⟩; refine ⟨_, rfl, ?_⟩; have n0_ := Aside0.mk (Kd.R_below (by (with_reducible repeat (first | apply Kd.R_alloc | apply Kd.R_drewN | apply Kd.R_drew)); exact HO_7.out) hb); have n1_ := Aside0.mk (below_step (by repeat (first | (with_reducible first | exact HB.out | apply below_alloc | apply pw_below_drewN | apply below_drew1) | exact HB.out)) hb); clear HO_7; clear HB; have HO_7 := n0_; have HB := n1_; clear n0_ n1_; (try clear hb); (try clear hb2); (try clear hk); (try clear hi)) | ((with_reducible refine gate_callee (f := 26) rfl ?_); refine goesL_ (some 113) rfl rfl Tryd.func26 (by kernel_rfl) rfl #[.int .i64 (wrap64 (t365 + 1)), .int .i64 0, .slice Ao16 t360.length co16] rfl (by (try simp only [List.map_toArray, List.map_cons, List.map_nil]); first | done | rfl | (simp only [List.length_drop, List.length_take]; rfl)) ?_; (with_reducible refine (civil_Ahead.calls kj12 (wrap64 (t365 + 1)) 0 _ _ t360 t377 t378 _ ?side1 ?side2 A25.out).mono ?_); (case side1 => repeat (first | exact (Kd.R_reads' HO_7.out).2.2 | (with_reducible refine Kd.C_alloc ?_ _) | (with_reducible refine Kd.C_drewN ?_ _) | (with_reducible refine Kd.C_drew ?_))); (case side2 => exact (Kd.R_reads' HO_7.out).2.1); rintro e w28 ⟨rfl, hb⟩; refine ⟨_, rfl, ?_⟩; have n0_ := Aside0.mk (Kd.R_below (by (with_reducible repeat (first | apply Kd.R_alloc | apply Kd.R_drewN | apply Kd.R_drew)); exact HO_7.out) hb); have n1_ := Aside0.mk (below_step (by repeat (first | (with_reducible first | exact HB.out | apply below_alloc | apply pw_below_drewN | apply below_drew1) | exact HB.out)) hb); clear HO_7; clear HB; have HO_7 := n0_; have HB := n1_; clear n0_ n1_; (try clear hb); (try clear hb2); (try clear hk); (try clear hi)))
                go_ret
                exact ⟨by first | rfl | (rw [HT_.out]; done) | (rw [HT_.out]; rfl) | (have e_ := HT_.out; simp only [e_]; done) | (have e_ := HT_.out; simp only [e_]; rfl) | (have e_ := HT_.out; simp at e_ ⊢; exact e_) | (have e_ := HT_.out; simp_all; done) | (simp [errW_none, errW_some] <;> rfl) | (simp [*, errW_none, errW_some] <;> rfl), by repeat (first | (with_reducible first | exact HB.out | apply below_alloc | apply pw_below_drewN | apply below_drew1) | exact HB.out)⟩
              · rw [if_neg c26] at H
                have c26b0 : (t375 == t377) = false := beq_eq_false_iff_ne.mpr c26
                have c26b1 : (t375 != t377) = true := bne_iff_ne.mpr c26
                exact absurd H (by simp)
    · rw [if_neg c10] at H
      have c10b0 : (t366 == 0) = false := beq_eq_false_iff_ne.mpr c10
      have c10b1 : (t366 != 0) = true := bne_iff_ne.mpr c10
      replace H := Option.bind_eq_some_iff.mp H
      obtain ⟨⟨t367, t368⟩, A290, H⟩ := H
      replace H : ((civil_Works.f k 730484 t360).bind fun bt369 => (if bt369.1 = true then (if t366 = 3 then (if t365 = 0 then (if (wrap64 (t368 + bt369.2)) = 0 then (some (decide ((wrap64 (t367 + 1)) ≤ t364))) else (some false)) else (some false)) else (some false)) else (if t366 = 3 then (if t365 = 0 then (if (wrap64 (t368 + bt369.2)) = 0 then (some (decide (t367 ≤ t364))) else (some false)) else (some false)) else (some false)))) = some true := H
      have A29 := Aside0.mk A290
      clear A290
      replace H := Option.bind_eq_some_iff.mp H
      obtain ⟨⟨t369, t370⟩, A300, H⟩ := H
      replace H : (if t369 = true then (if t366 = 3 then (if t365 = 0 then (if (wrap64 (t368 + t370)) = 0 then (some (decide ((wrap64 (t367 + 1)) ≤ t364))) else (some false)) else (some false)) else (some false)) else (if t366 = 3 then (if t365 = 0 then (if (wrap64 (t368 + t370)) = 0 then (some (decide (t367 ≤ t364))) else (some false)) else (some false)) else (some false))) = some true := H
      have A30 := Aside0.mk A300
      clear A300
      by_cases c31 : t369 = true
      · subst c31
        have H1 : (if t366 = 3 then (if t365 = 0 then (if (wrap64 (t368 + t370)) = 0 then (some (decide ((wrap64 (t367 + 1)) ≤ t364))) else (some false)) else (some false)) else (some false)) = some true := by rw [if_pos rfl] at H; exact H
        clear H
        have H := H1
        clear H1
        by_cases c32 : t366 = 3
        · rw [if_pos c32] at H
          have c32b0 : (t366 == 3) = true := beq_iff_eq.mpr c32
          have c32b1 : (t366 != 3) = false := bne_eq_false_iff_eq.mpr c32
          clear c32
          by_cases c33 : t365 = 0
          · rw [if_pos c33] at H
            have c33b0 : (t365 == 0) = true := beq_iff_eq.mpr c33
            have c33b1 : (t365 != 0) = false := bne_eq_false_iff_eq.mpr c33
            clear c33
            by_cases c34 : (wrap64 (t368 + t370)) = 0
            · rw [if_pos c34] at H
              have c34b0 : ((wrap64 (t368 + t370)) == 0) = true := beq_iff_eq.mpr c34
              have c34b1 : ((wrap64 (t368 + t370)) != 0) = false := bne_eq_false_iff_eq.mpr c34
              clear c34
              have HT_ := Aside0.mk (Option.some.inj H)
              go_enter Tryd.func11, Tryd.ntmps11
              go_wp2_with (first | ((with_reducible refine gate_callee (f := 17) rfl ?_); refine goesL_ (some 20) rfl rfl Tryd.func17 (by kernel_rfl) rfl #[] rfl (by (try simp only [List.map_toArray, List.map_cons, List.map_nil]); first | done | rfl | (simp only [List.length_drop, List.length_take]; rfl)) ?_; (with_reducible refine (letterbaglaw01_awake.calls k  true _ ?tabG A4.out).mono ?_); (case tabG => (first | exact hg | exact ⟨hg.out.below (by repeat (first | (with_reducible first | exact HB.out | apply below_alloc | apply pw_below_drewN | apply below_drew1) | exact HB.out))⟩)); rintro e w35 ⟨rfl, hb⟩; refine ⟨_, rfl, ?_⟩; have n0_ := Aside0.mk (below_step (by repeat (first | (with_reducible first | exact HB.out | apply below_alloc | apply pw_below_drewN | apply below_drew1) | exact HB.out)) hb); clear HB; have HB := n0_; clear n0_; (try clear hb); (try clear hb2); (try clear hk); (try clear hi)) | ((with_reducible refine gate_callee (f := 38) rfl ?_); refine goesL_ (some 23) rfl rfl Tryd.func38 (by kernel_rfl) rfl #[.slice A0 l0.length c0] rfl (by (try simp only [List.map_toArray, List.map_cons, List.map_nil]); first | done | rfl | (simp only [List.length_drop, List.length_take]; rfl)) ?_; (with_reducible refine (letterbaglaw01_list.calls k _ _ l0 t360 _ ?side1 ?side2 A6.out).mono ?_); (case side1 => repeat (first | exact (Kd.C_below HR0.out HB.out) | (with_reducible refine Kd.C_alloc ?_ _) | (with_reducible refine Kd.C_drewN ?_ _) | (with_reducible refine Kd.C_drew ?_))); (case side2 => exact HC0.out); rintro e w36 ⟨v361, rfl, ho0, hb⟩; refine ⟨_, rfl, ?_⟩; have n0_ := Aside0.mk (Kd.R_lower ho0 (below_size (by repeat (first | (with_reducible first | exact HB.out | apply below_alloc | apply pw_below_drewN | apply below_drew1) | exact HB.out)))); have n1_ := Aside0.mk (below_step (by repeat (first | (with_reducible first | exact HB.out | apply below_alloc | apply pw_below_drewN | apply below_drew1) | exact HB.out)) hb); clear HB; have HO362 := n0_; have HB := n1_; clear n0_ n1_; (try clear hb); (try clear hb2); (try clear hk); (try clear hi); (try clear ho0)) | ((with_reducible refine gate_callee (f := 37) rfl ?_); refine goesL_ (some 25) rfl rfl Tryd.func37 (by kernel_rfl) rfl #[.int .i64 a1] rfl (by (try simp only [List.map_toArray, List.map_cons, List.map_nil]); first | done | rfl | (simp only [List.length_drop, List.length_take]; rfl)) ?_; (with_reducible refine (letterbaglaw01_day.calls a1 t363 _ A7.out).mono ?_); rintro e w' ⟨rfl, ⟨nd, rfl⟩⟩; refine ⟨_, rfl, ?_⟩) | ((with_reducible refine gate_callee (f := 18) rfl ?_); refine goesL_ (some 27) rfl rfl Tryd.func18 (by kernel_rfl) rfl #[.int .i64 a2, .int .i64 1048576] rfl (by (try simp only [List.map_toArray, List.map_cons, List.map_nil]); first | done | rfl | (simp only [List.length_drop, List.length_take]; rfl)) ?_; (with_reducible refine (letterbagkit_Pick.calls a2 1048576 t364 _ A8.out).mono ?_); rintro e w' ⟨rfl, ⟨nd, rfl⟩⟩; refine ⟨_, rfl, ?_⟩; obtain ⟨Ao37, co37, eo37⟩ := Kd.R_slice HO362.out; subst eo37) | ((with_reducible refine gate_callee (f := 26) rfl ?_); refine goesL_ (some 32) rfl rfl Tryd.func26 (by kernel_rfl) rfl #[.int .i64 t363, .int .i64 t364, .slice Ao37 t360.length co37] rfl (by (try simp only [List.map_toArray, List.map_cons, List.map_nil]); first | done | rfl | (simp only [List.length_drop, List.length_take]; rfl)) ?_; (with_reducible refine (civil_Ahead.calls k t363 t364 _ _ t360 t365 t366 _ ?side1 ?side2 A9.out).mono ?_); (case side1 => repeat (first | exact (Kd.R_reads' HO362.out).2.2 | (with_reducible refine Kd.C_alloc ?_ _) | (with_reducible refine Kd.C_drewN ?_ _) | (with_reducible refine Kd.C_drew ?_))); (case side2 => exact (Kd.R_reads' HO362.out).2.1); rintro e w38 ⟨rfl, hb⟩; refine ⟨_, rfl, ?_⟩; have n0_ := Aside0.mk (Kd.R_below (by (with_reducible repeat (first | apply Kd.R_alloc | apply Kd.R_drewN | apply Kd.R_drew)); exact HO362.out) hb); have n1_ := Aside0.mk (below_step (by repeat (first | (with_reducible first | exact HB.out | apply below_alloc | apply pw_below_drewN | apply below_drew1) | exact HB.out)) hb); clear HO362; clear HB; have HO362 := n0_; have HB := n1_; clear n0_ n1_; (try clear hb); (try clear hb2); (try clear hk); (try clear hi)) | ((with_reducible refine gate_callee (f := 28) rfl ?_); refine goesL_ (some 40) rfl rfl Tryd.func28 (by kernel_rfl) rfl #[.int .i64 t363, .int .i64 730484, .slice Ao37 t360.length co37] rfl (by (try simp only [List.map_toArray, List.map_cons, List.map_nil]); first | done | rfl | (simp only [List.length_drop, List.length_take]; rfl)) ?_; (with_reducible refine (civil_Between.calls t363 730484 _ _ t360 t367 t368 _ ?side1 ?side2 A29.out).mono ?_); (case side1 => repeat (first | exact (Kd.R_reads' HO362.out).2.2 | (with_reducible refine Kd.C_alloc ?_ _) | (with_reducible refine Kd.C_drewN ?_ _) | (with_reducible refine Kd.C_drew ?_))); (case side2 => exact (Kd.R_reads' HO362.out).2.1); rintro e w39 ⟨rfl, hb⟩; refine ⟨_, rfl, ?_⟩; have n0_ := Aside0.mk (Kd.R_below (by (with_reducible repeat (first | apply Kd.R_alloc | apply Kd.R_drewN | apply Kd.R_drew)); exact HO362.out) hb); have n1_ := Aside0.mk (below_step (by repeat (first | (with_reducible first | exact HB.out | apply below_alloc | apply pw_below_drewN | apply below_drew1) | exact HB.out)) hb); clear HO362; clear HB; have HO362 := n0_; have HB := n1_; clear n0_ n1_; (try clear hb); (try clear hb2); (try clear hk); (try clear hi)) | ((with_reducible refine gate_callee (f := 25) rfl ?_); refine goesL_ (some 45) rfl rfl Tryd.func25 (by kernel_rfl) rfl #[.int .i64 730484, .slice Ao37 t360.length co37] rfl (by (try simp only [List.map_toArray, List.map_cons, List.map_nil]); first | done | rfl | (simp only [List.length_drop, List.length_take]; rfl)) ?_; (with_reducible refine (civil_Works.calls k 730484 _ _ t360 true t370 _ ?side1 ?side2 A30.out).mono ?_); (case side1 => repeat (first | exact (Kd.R_reads' HO362.out).2.2 | (with_reducible refine Kd.C_alloc ?_ _) | (with_reducible refine Kd.C_drewN ?_ _) | (with_reducible refine Kd.C_drew ?_))); (case side2 => exact (Kd.R_reads' HO362.out).2.1); rintro e w' ⟨rfl, ⟨nd, rfl⟩⟩; refine ⟨_, rfl, ?_⟩))
              go_ret
              exact ⟨by first | rfl | (rw [HT_.out]; done) | (rw [HT_.out]; rfl) | (have e_ := HT_.out; simp only [e_]; done) | (have e_ := HT_.out; simp only [e_]; rfl) | (have e_ := HT_.out; simp at e_ ⊢; exact e_) | (have e_ := HT_.out; simp_all; done) | (simp [errW_none, errW_some] <;> rfl) | (simp [*, errW_none, errW_some] <;> rfl), by repeat (first | (with_reducible first | exact HB.out | apply below_alloc | apply pw_below_drewN | apply below_drew1) | exact HB.out)⟩
            · rw [if_neg c34] at H
              have c34b0 : ((wrap64 (t368 + t370)) == 0) = false := beq_eq_false_iff_ne.mpr c34
              have c34b1 : ((wrap64 (t368 + t370)) != 0) = true := bne_iff_ne.mpr c34
              exact absurd H (by simp)
          · rw [if_neg c33] at H
            have c33b0 : (t365 == 0) = false := beq_eq_false_iff_ne.mpr c33
            have c33b1 : (t365 != 0) = true := bne_iff_ne.mpr c33
            exact absurd H (by simp)
        · rw [if_neg c32] at H
          have c32b0 : (t366 == 3) = false := beq_eq_false_iff_ne.mpr c32
          have c32b1 : (t366 != 3) = true := bne_iff_ne.mpr c32
          exact absurd H (by simp)
      · replace c31 := Bool.eq_false_iff.mpr c31
        subst c31
        have H1 : (if t366 = 3 then (if t365 = 0 then (if (wrap64 (t368 + t370)) = 0 then (some (decide (t367 ≤ t364))) else (some false)) else (some false)) else (some false)) = some true := by rw [if_neg (show ¬ (false = true) by decide)] at H; exact H
        clear H
        have H := H1
        clear H1
        by_cases c40 : t366 = 3
        · rw [if_pos c40] at H
          have c40b0 : (t366 == 3) = true := beq_iff_eq.mpr c40
          have c40b1 : (t366 != 3) = false := bne_eq_false_iff_eq.mpr c40
          clear c40
          by_cases c41 : t365 = 0
          · rw [if_pos c41] at H
            have c41b0 : (t365 == 0) = true := beq_iff_eq.mpr c41
            have c41b1 : (t365 != 0) = false := bne_eq_false_iff_eq.mpr c41
            clear c41
            by_cases c42 : (wrap64 (t368 + t370)) = 0
            · rw [if_pos c42] at H
              have c42b0 : ((wrap64 (t368 + t370)) == 0) = true := beq_iff_eq.mpr c42
              have c42b1 : ((wrap64 (t368 + t370)) != 0) = false := bne_eq_false_iff_eq.mpr c42
              clear c42
              have HT_ := Aside0.mk (Option.some.inj H)
              go_enter Tryd.func11, Tryd.ntmps11
              go_wp2_with (first | ((with_reducible refine gate_callee (f := 17) rfl ?_); refine goesL_ (some 20) rfl rfl Tryd.func17 (by kernel_rfl) rfl #[] rfl (by (try simp only [List.map_toArray, List.map_cons, List.map_nil]); first | done | rfl | (simp only [List.length_drop, List.length_take]; rfl)) ?_; (with_reducible refine (letterbaglaw01_awake.calls k  true _ ?tabG A4.out).mono ?_); (case tabG => (first | exact hg | exact ⟨hg.out.below (by repeat (first | (with_reducible first | exact HB.out | apply below_alloc | apply pw_below_drewN | apply below_drew1) | exact HB.out))⟩)); rintro e w43 ⟨rfl, hb⟩; refine ⟨_, rfl, ?_⟩; have n0_ := Aside0.mk (below_step (by repeat (first | (with_reducible first | exact HB.out | apply below_alloc | apply pw_below_drewN | apply below_drew1) | exact HB.out)) hb); clear HB; have HB := n0_; clear n0_; (try clear hb); (try clear hb2); (try clear hk); (try clear hi)) | ((with_reducible refine gate_callee (f := 38) rfl ?_); refine goesL_ (some 23) rfl rfl Tryd.func38 (by kernel_rfl) rfl #[.slice A0 l0.length c0] rfl (by (try simp only [List.map_toArray, List.map_cons, List.map_nil]); first | done | rfl | (simp only [List.length_drop, List.length_take]; rfl)) ?_; (with_reducible refine (letterbaglaw01_list.calls k _ _ l0 t360 _ ?side1 ?side2 A6.out).mono ?_); (case side1 => repeat (first | exact (Kd.C_below HR0.out HB.out) | (with_reducible refine Kd.C_alloc ?_ _) | (with_reducible refine Kd.C_drewN ?_ _) | (with_reducible refine Kd.C_drew ?_))); (case side2 => exact HC0.out); rintro e w44 ⟨v361, rfl, ho0, hb⟩; refine ⟨_, rfl, ?_⟩; have n0_ := Aside0.mk (Kd.R_lower ho0 (below_size (by repeat (first | (with_reducible first | exact HB.out | apply below_alloc | apply pw_below_drewN | apply below_drew1) | exact HB.out)))); have n1_ := Aside0.mk (below_step (by repeat (first | (with_reducible first | exact HB.out | apply below_alloc | apply pw_below_drewN | apply below_drew1) | exact HB.out)) hb); clear HB; have HO362 := n0_; have HB := n1_; clear n0_ n1_; (try clear hb); (try clear hb2); (try clear hk); (try clear hi); (try clear ho0)) | ((with_reducible refine gate_callee (f := 37) rfl ?_); refine goesL_ (some 25) rfl rfl Tryd.func37 (by kernel_rfl) rfl #[.int .i64 a1] rfl (by (try simp only [List.map_toArray, List.map_cons, List.map_nil]); first | done | rfl | (simp only [List.length_drop, List.length_take]; rfl)) ?_; (with_reducible refine (letterbaglaw01_day.calls a1 t363 _ A7.out).mono ?_); rintro e w' ⟨rfl, ⟨nd, rfl⟩⟩; refine ⟨_, rfl, ?_⟩) | ((with_reducible refine gate_callee (f := 18) rfl ?_); refine goesL_ (some 27) rfl rfl Tryd.func18 (by kernel_rfl) rfl #[.int .i64 a2, .int .i64 1048576] rfl (by (try simp only [List.map_toArray, List.map_cons, List.map_nil]); first | done | rfl | (simp only [List.length_drop, List.length_take]; rfl)) ?_; (with_reducible refine (letterbagkit_Pick.calls a2 1048576 t364 _ A8.out).mono ?_); rintro e w' ⟨rfl, ⟨nd, rfl⟩⟩; refine ⟨_, rfl, ?_⟩; obtain ⟨Ao45, co45, eo45⟩ := Kd.R_slice HO362.out; subst eo45) | ((with_reducible refine gate_callee (f := 26) rfl ?_); refine goesL_ (some 32) rfl rfl Tryd.func26 (by kernel_rfl) rfl #[.int .i64 t363, .int .i64 t364, .slice Ao45 t360.length co45] rfl (by (try simp only [List.map_toArray, List.map_cons, List.map_nil]); first | done | rfl | (simp only [List.length_drop, List.length_take]; rfl)) ?_; (with_reducible refine (civil_Ahead.calls k t363 t364 _ _ t360 t365 t366 _ ?side1 ?side2 A9.out).mono ?_); (case side1 => repeat (first | exact (Kd.R_reads' HO362.out).2.2 | (with_reducible refine Kd.C_alloc ?_ _) | (with_reducible refine Kd.C_drewN ?_ _) | (with_reducible refine Kd.C_drew ?_))); (case side2 => exact (Kd.R_reads' HO362.out).2.1); rintro e w46 ⟨rfl, hb⟩; refine ⟨_, rfl, ?_⟩; have n0_ := Aside0.mk (Kd.R_below (by (with_reducible repeat (first | apply Kd.R_alloc | apply Kd.R_drewN | apply Kd.R_drew)); exact HO362.out) hb); have n1_ := Aside0.mk (below_step (by repeat (first | (with_reducible first | exact HB.out | apply below_alloc | apply pw_below_drewN | apply below_drew1) | exact HB.out)) hb); clear HO362; clear HB; have HO362 := n0_; have HB := n1_; clear n0_ n1_; (try clear hb); (try clear hb2); (try clear hk); (try clear hi)) | ((with_reducible refine gate_callee (f := 28) rfl ?_); refine goesL_ (some 40) rfl rfl Tryd.func28 (by kernel_rfl) rfl #[.int .i64 t363, .int .i64 730484, .slice Ao45 t360.length co45] rfl (by (try simp only [List.map_toArray, List.map_cons, List.map_nil]); first | done | rfl | (simp only [List.length_drop, List.length_take]; rfl)) ?_; (with_reducible refine (civil_Between.calls t363 730484 _ _ t360 t367 t368 _ ?side1 ?side2 A29.out).mono ?_); (case side1 => repeat (first | exact (Kd.R_reads' HO362.out).2.2 | (with_reducible refine Kd.C_alloc ?_ _) | (with_reducible refine Kd.C_drewN ?_ _) | (with_reducible refine Kd.C_drew ?_))); (case side2 => exact (Kd.R_reads' HO362.out).2.1); rintro e w47 ⟨rfl, hb⟩; refine ⟨_, rfl, ?_⟩; have n0_ := Aside0.mk (Kd.R_below (by (with_reducible repeat (first | apply Kd.R_alloc | apply Kd.R_drewN | apply Kd.R_drew)); exact HO362.out) hb); have n1_ := Aside0.mk (below_step (by repeat (first | (with_reducible first | exact HB.out | apply below_alloc | apply pw_below_drewN | apply below_drew1) | exact HB.out)) hb); clear HO362; clear HB; have HO362 := n0_; have HB := n1_; clear n0_ n1_; (try clear hb); (try clear hb2); (try clear hk); (try clear hi)) | ((with_reducible refine gate_callee (f := 25) rfl ?_); refine goesL_ (some 45) rfl rfl Tryd.func25 (by kernel_rfl) rfl #[.int .i64 730484, .slice Ao45 t360.length co45] rfl (by (try simp only [List.map_toArray, List.map_cons, List.map_nil]); first | done | rfl | (simp only [List.length_drop, List.length_take]; rfl)) ?_; (with_reducible refine (civil_Works.calls k 730484 _ _ t360 false t370 _ ?side1 ?side2 A30.out).mono ?_); (case side1 => repeat (first | exact (Kd.R_reads' HO362.out).2.2 | (with_reducible refine Kd.C_alloc ?_ _) | (with_reducible refine Kd.C_drewN ?_ _) | (with_reducible refine Kd.C_drew ?_))); (case side2 => exact (Kd.R_reads' HO362.out).2.1); rintro e w' ⟨rfl, ⟨nd, rfl⟩⟩; refine ⟨_, rfl, ?_⟩))
              go_ret
              exact ⟨by first | rfl | (rw [HT_.out]; done) | (rw [HT_.out]; rfl) | (have e_ := HT_.out; simp only [e_]; done) | (have e_ := HT_.out; simp only [e_]; rfl) | (have e_ := HT_.out; simp at e_ ⊢; exact e_) | (have e_ := HT_.out; simp_all; done) | (simp [errW_none, errW_some] <;> rfl) | (simp [*, errW_none, errW_some] <;> rfl), by repeat (first | (with_reducible first | exact HB.out | apply below_alloc | apply pw_below_drewN | apply below_drew1) | exact HB.out)⟩
            · rw [if_neg c42] at H
              have c42b0 : ((wrap64 (t368 + t370)) == 0) = false := beq_eq_false_iff_ne.mpr c42
              have c42b1 : ((wrap64 (t368 + t370)) != 0) = true := bne_iff_ne.mpr c42
              exact absurd H (by simp)
          · rw [if_neg c41] at H
            have c41b0 : (t365 == 0) = false := beq_eq_false_iff_ne.mpr c41
            have c41b1 : (t365 != 0) = true := bne_iff_ne.mpr c41
            exact absurd H (by simp)
        · rw [if_neg c40] at H
          have c40b0 : (t366 == 3) = false := beq_eq_false_iff_ne.mpr c40
          have c40b1 : (t366 != 3) = true := bne_iff_ne.mpr c40
          exact absurd H (by simp)
  · replace c5 := Bool.eq_false_iff.mpr c5
    subst c5
    have H1 : (some false) = some true := by rw [if_neg (show ¬ (false = true) by decide)] at H; exact H
    clear H
    have H := H1
    clear H1
    exact absurd H (by simp)

/-- THE ONE PURE STATEMENT of letterbaglaw01_CivilAhead: yours. -/
def letterbaglaw01_CivilAhead.Pure : Prop := ∀ (l0 : List Int) (a1 : Int) (a2 : Int), l0.length ≤ maxLen → l0.length * 2 ≤ 140737488351232 → (∀ x ∈ l0, (Lit.int .u16 x).wf = true) → (Lit.int .i64 a1).wf = true → (Lit.int .i64 a2).wf = true → ∃ k, letterbaglaw01_CivilAhead.f k l0 a1 a2 = some true

end Go.Proofs.YtehnhedifhpalaaDoor.Cp
