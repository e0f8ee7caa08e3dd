/- Functions of the given program as plain Lean functions, and proofs that the machine's calls do what these say; written by a program of this session (myprint.py, over the kit's print). -/
import Derived.Test.YtehnhedifhpalaaDoorCp0
import Derived.Test.YtehnhedifhpalaaDoorCp2
import Derived.Test.YtehnhedifhpalaaDoorCp3
import Derived.Test.YtehnhedifhpalaaDoorCt
import Derived.Test.YtehnhedifhpalaaDoorCz
import Derived.Test.YtehnhedifhpalaaDoorCf
namespace Go.Proofs.YtehnhedifhpalaaDoor.Cp
open Go.RowKit Go.Proofs.YtehnhedifhpalaaDoorW.PrintWords Go.Proofs.YtehnhedifhpalaaDoorW.PrintLast Go.Proofs.YtehnhedifhpalaaDoorW.PrintMore
attribute [local go_sem] max2_int min2_int max_two min_two max_three min_three max_four min_four   -- for this text's walks alone
set_option linter.unusedVariables false
set_option linter.unusedSimpArgs false
/-! ### letterbaglaw01_CivilWrites: function 12 -/
def letterbaglaw01_CivilWrites.j0 : Nat → ByteArray → Int → Bool → Option (Bool)
  | 0, _, _, _ => none
  | k + 1, x5, x11, x64 => if x64 = true then (some false) else ((civil_Text.f k x11).bind fun bt391 => ((civil_Read.f k bt391.1).bind fun bt393 => (if (wrap64 (bt391.2 + bt393.2)) = 0 then (if bt393.1 = x11 then (if (x5.size : Int) = 16 then (if 0 ≤ 10 then (if 10 ≤ (x5.size : Int) then (some (bt391.1.toList == (x5.extract 0 10).toList)) else (none)) else (none)) else (some false)) else (some false)) else (some false))))
def letterbaglaw01_CivilWrites.f (k : Nat) (a0 : Int) (a1 : Int) : Option (Bool) := (letterbaglaw01_awake.f k).bind fun t379 => (if t379 = true then ((letterbagkit_Pick.f a0 1051898400).bind fun t380 => ((letterbagkit_Pick.f a1 1051898400).bind fun t381 => ((civil_TimeText.f k t380).bind fun bt382 => ((civil_TimeText.f k t381).bind fun bt384 => ((civil_ReadTime.f k bt382.1).bind fun bt386 => ((civil_Split.f t380).bind fun bt388 => (if (wrap64 ((wrap64 ((wrap64 (bt382.2 + bt384.2)) + bt386.2)) + bt388.2.2)) = 0 then (if bt386.1 = t380 then (letterbaglaw01_CivilWrites.j0 k bt382.1 bt388.1 ((Op.bytesLess bt382.1.toList bt384.1.toList) != (decide (t380 < t381)))) else (letterbaglaw01_CivilWrites.j0 k bt382.1 bt388.1 true)) else (letterbaglaw01_CivilWrites.j0 k bt382.1 bt388.1 true)))))))) else (some false))
theorem letterbaglaw01_CivilWrites.mono_l : ∀ k, (∀ y0 y1 y2, LeO (letterbaglaw01_CivilWrites.j0 k y0 y1 y2) (letterbaglaw01_CivilWrites.j0 (k + 1) y0 y1 y2))
  | 0 => fun _ _ _ r h => by simp [letterbaglaw01_CivilWrites.j0] at h
  | k + 1 => by
    have ih0 := letterbaglaw01_CivilWrites.mono_l k
    · intro y0 y1 y2
      unfold letterbaglaw01_CivilWrites.j0
      repeat' first
      | (with_reducible exact ih0 _ _ _)
      | (with_reducible exact civil_Read.mono _ _)
      | (with_reducible exact civil_ReadTime.mono _ _)
      | (with_reducible exact civil_Text.mono _ _)
      | (with_reducible exact civil_TimeText.mono _ _)
      | (with_reducible exact letterbaglaw01_awake.mono _)
      | (with_reducible exact LeO.refl _)
      | (with_reducible exact LeO.none _)
      | (with_reducible refine LeO.ite ?_ ?_)
      | (with_reducible refine LeO.bind ?_ (fun _ => ?_))
      | exact ih0 _ _ _
      | exact civil_Read.mono _ _
      | exact civil_ReadTime.mono _ _
      | exact civil_Text.mono _ _
      | exact civil_TimeText.mono _ _
      | exact letterbaglaw01_awake.mono _
      | exact LeO.none _
      | refine LeO.ite ?_ ?_
      | refine LeO.bind ?_ (fun _ => ?_)
theorem letterbaglaw01_CivilWrites.mono : ∀ a0 a1 k, LeO (letterbaglaw01_CivilWrites.f k a0 a1) (letterbaglaw01_CivilWrites.f (k + 1) a0 a1) := by
  intro a0 a1 k
  have ih0 := letterbaglaw01_CivilWrites.mono_l k
  unfold letterbaglaw01_CivilWrites.f
  repeat' first
      | (with_reducible exact ih0 _ _ _)
      | (with_reducible exact civil_Read.mono _ _)
      | (with_reducible exact civil_ReadTime.mono _ _)
      | (with_reducible exact civil_Text.mono _ _)
      | (with_reducible exact civil_TimeText.mono _ _)
      | (with_reducible exact letterbaglaw01_awake.mono _)
      | (with_reducible exact LeO.refl _)
      | (with_reducible exact LeO.none _)
      | (with_reducible refine LeO.ite ?_ ?_)
      | (with_reducible refine LeO.bind ?_ (fun _ => ?_))
      | exact ih0 _ _ _
      | exact civil_Read.mono _ _
      | exact civil_ReadTime.mono _ _
      | exact civil_Text.mono _ _
      | exact civil_TimeText.mono _ _
      | exact letterbaglaw01_awake.mono _
      | exact LeO.none _
      | refine LeO.ite ?_ ?_
      | refine LeO.bind ?_ (fun _ => ?_)
set_option maxHeartbeats 8000000 in
set_option maxRecDepth 100000 in
theorem letterbaglaw01_CivilWrites.calls (k : Nat) (a0 : Int) (a1 : Int) (w : World) (hg : Aside0 (Tab w)) (h : letterbaglaw01_CivilWrites.f k a0 a1 = some true) :
    Calls Tryd.prog 12 #[.int .i64 a0, .int .i64 a1] w fun e w' => e = .returned (.bool true) ∧ Below w.heap.size w w' := by
  have HB := Aside0.mk (Below.refl w.heap.size w)
  have H : ((letterbaglaw01_awake.f k).bind fun t379 => (if t379 = true then ((letterbagkit_Pick.f a0 1051898400).bind fun t380 => ((letterbagkit_Pick.f a1 1051898400).bind fun t381 => ((civil_TimeText.f k t380).bind fun bt382 => ((civil_TimeText.f k t381).bind fun bt384 => ((civil_ReadTime.f k bt382.1).bind fun bt386 => ((civil_Split.f t380).bind fun bt388 => (if (wrap64 ((wrap64 ((wrap64 (bt382.2 + bt384.2)) + bt386.2)) + bt388.2.2)) = 0 then (if bt386.1 = t380 then (letterbaglaw01_CivilWrites.j0 k bt382.1 bt388.1 ((Op.bytesLess bt382.1.toList bt384.1.toList) != (decide (t380 < t381)))) else (letterbaglaw01_CivilWrites.j0 k bt382.1 bt388.1 true)) else (letterbaglaw01_CivilWrites.j0 k bt382.1 bt388.1 true)))))))) else (some false))) = some true := h
  clear h
  replace H := Option.bind_eq_some_iff.mp H
  obtain ⟨t379, A30, H⟩ := H
  replace H : (if t379 = true then ((letterbagkit_Pick.f a0 1051898400).bind fun t380 => ((letterbagkit_Pick.f a1 1051898400).bind fun t381 => ((civil_TimeText.f k t380).bind fun bt382 => ((civil_TimeText.f k t381).bind fun bt384 => ((civil_ReadTime.f k bt382.1).bind fun bt386 => ((civil_Split.f t380).bind fun bt388 => (if (wrap64 ((wrap64 ((wrap64 (bt382.2 + bt384.2)) + bt386.2)) + bt388.2.2)) = 0 then (if bt386.1 = t380 then (letterbaglaw01_CivilWrites.j0 k bt382.1 bt388.1 ((Op.bytesLess bt382.1.toList bt384.1.toList) != (decide (t380 < t381)))) else (letterbaglaw01_CivilWrites.j0 k bt382.1 bt388.1 true)) else (letterbaglaw01_CivilWrites.j0 k bt382.1 bt388.1 true)))))))) else (some false)) = some true := H
  have A3 := Aside0.mk A30
  clear A30
  by_cases c4 : t379 = true
  · subst c4
    have H1 : ((letterbagkit_Pick.f a0 1051898400).bind fun t380 => ((letterbagkit_Pick.f a1 1051898400).bind fun t381 => ((civil_TimeText.f k t380).bind fun bt382 => ((civil_TimeText.f k t381).bind fun bt384 => ((civil_ReadTime.f k bt382.1).bind fun bt386 => ((civil_Split.f t380).bind fun bt388 => (if (wrap64 ((wrap64 ((wrap64 (bt382.2 + bt384.2)) + bt386.2)) + bt388.2.2)) = 0 then (if bt386.1 = t380 then (letterbaglaw01_CivilWrites.j0 k bt382.1 bt388.1 ((Op.bytesLess bt382.1.toList bt384.1.toList) != (decide (t380 < t381)))) else (letterbaglaw01_CivilWrites.j0 k bt382.1 bt388.1 true)) else (letterbaglaw01_CivilWrites.j0 k bt382.1 bt388.1 true)))))))) = some true := by rw [if_pos rfl] at H; exact H
    clear H
    have H := H1
    clear H1
    replace H := Option.bind_eq_some_iff.mp H
    obtain ⟨t380, A50, H⟩ := H
    replace H : ((letterbagkit_Pick.f a1 1051898400).bind fun t381 => ((civil_TimeText.f k t380).bind fun bt382 => ((civil_TimeText.f k t381).bind fun bt384 => ((civil_ReadTime.f k bt382.1).bind fun bt386 => ((civil_Split.f t380).bind fun bt388 => (if (wrap64 ((wrap64 ((wrap64 (bt382.2 + bt384.2)) + bt386.2)) + bt388.2.2)) = 0 then (if bt386.1 = t380 then (letterbaglaw01_CivilWrites.j0 k bt382.1 bt388.1 ((Op.bytesLess bt382.1.toList bt384.1.toList) != (decide (t380 < t381)))) else (letterbaglaw01_CivilWrites.j0 k bt382.1 bt388.1 true)) else (letterbaglaw01_CivilWrites.j0 k bt382.1 bt388.1 true))))))) = some true := H
    have A5 := Aside0.mk A50
    clear A50
    replace H := Option.bind_eq_some_iff.mp H
    obtain ⟨t381, A60, H⟩ := H
    replace H : ((civil_TimeText.f k t380).bind fun bt382 => ((civil_TimeText.f k t381).bind fun bt384 => ((civil_ReadTime.f k bt382.1).bind fun bt386 => ((civil_Split.f t380).bind fun bt388 => (if (wrap64 ((wrap64 ((wrap64 (bt382.2 + bt384.2)) + bt386.2)) + bt388.2.2)) = 0 then (if bt386.1 = t380 then (letterbaglaw01_CivilWrites.j0 k bt382.1 bt388.1 ((Op.bytesLess bt382.1.toList bt384.1.toList) != (decide (t380 < t381)))) else (letterbaglaw01_CivilWrites.j0 k bt382.1 bt388.1 true)) else (letterbaglaw01_CivilWrites.j0 k bt382.1 bt388.1 true)))))) = some true := H
    have A6 := Aside0.mk A60
    clear A60
    replace H := Option.bind_eq_some_iff.mp H
    obtain ⟨⟨t382, t383⟩, A70, H⟩ := H
    replace H : ((civil_TimeText.f k t381).bind fun bt384 => ((civil_ReadTime.f k t382).bind fun bt386 => ((civil_Split.f t380).bind fun bt388 => (if (wrap64 ((wrap64 ((wrap64 (t383 + bt384.2)) + bt386.2)) + bt388.2.2)) = 0 then (if bt386.1 = t380 then (letterbaglaw01_CivilWrites.j0 k t382 bt388.1 ((Op.bytesLess t382.toList bt384.1.toList) != (decide (t380 < t381)))) else (letterbaglaw01_CivilWrites.j0 k t382 bt388.1 true)) else (letterbaglaw01_CivilWrites.j0 k t382 bt388.1 true))))) = some true := H
    have A7 := Aside0.mk A70
    clear A70
    replace H := Option.bind_eq_some_iff.mp H
    obtain ⟨⟨t384, t385⟩, A80, H⟩ := H
    replace H : ((civil_ReadTime.f k t382).bind fun bt386 => ((civil_Split.f t380).bind fun bt388 => (if (wrap64 ((wrap64 ((wrap64 (t383 + t385)) + bt386.2)) + bt388.2.2)) = 0 then (if bt386.1 = t380 then (letterbaglaw01_CivilWrites.j0 k t382 bt388.1 ((Op.bytesLess t382.toList t384.toList) != (decide (t380 < t381)))) else (letterbaglaw01_CivilWrites.j0 k t382 bt388.1 true)) else (letterbaglaw01_CivilWrites.j0 k t382 bt388.1 true)))) = some true := H
    have A8 := Aside0.mk A80
    clear A80
    replace H := Option.bind_eq_some_iff.mp H
    obtain ⟨⟨t386, t387⟩, A90, H⟩ := H
    replace H : ((civil_Split.f t380).bind fun bt388 => (if (wrap64 ((wrap64 ((wrap64 (t383 + t385)) + t387)) + bt388.2.2)) = 0 then (if t386 = t380 then (letterbaglaw01_CivilWrites.j0 k t382 bt388.1 ((Op.bytesLess t382.toList t384.toList) != (decide (t380 < t381)))) else (letterbaglaw01_CivilWrites.j0 k t382 bt388.1 true)) else (letterbaglaw01_CivilWrites.j0 k t382 bt388.1 true))) = some true := H
    have A9 := Aside0.mk A90
    clear A90
    replace H := Option.bind_eq_some_iff.mp H
    obtain ⟨⟨t388, t389, t390⟩, A100, H⟩ := H
    replace H : (if (wrap64 ((wrap64 ((wrap64 (t383 + t385)) + t387)) + t390)) = 0 then (if t386 = t380 then (letterbaglaw01_CivilWrites.j0 k t382 t388 ((Op.bytesLess t382.toList t384.toList) != (decide (t380 < t381)))) else (letterbaglaw01_CivilWrites.j0 k t382 t388 true)) else (letterbaglaw01_CivilWrites.j0 k t382 t388 true)) = some true := H
    have A10 := Aside0.mk A100
    clear A100
    have HC11 := Aside0.mk H
    clear H
    go_enter Tryd.func12, Tryd.ntmps12
    go_upto_region 8 with (first | ((with_reducible refine gate_callee (f := 17) rfl ?_); refine goesL_ (some 16) rfl rfl Tryd.func17 (by kernel_rfl) rfl #[] rfl (by (try simp only [List.map_toArray, List.map_cons, List.map_nil]); first | done | rfl | (simp only [List.length_drop, List.length_take]; rfl)) ?_; (with_reducible refine (letterbaglaw01_awake.calls k  true _ ?tabG A3.out).mono ?_); (case tabG => (first | exact hg | exact ⟨hg.out.below (by repeat (first | (with_reducible first | exact HB.out | apply below_alloc | apply pw_below_drewN | apply below_drew1) | exact HB.out))⟩)); rintro e w12 ⟨rfl, hb⟩; refine ⟨_, rfl, ?_⟩; have n0_ := Aside0.mk (below_step (by repeat (first | (with_reducible first | exact HB.out | apply below_alloc | apply pw_below_drewN | apply below_drew1) | exact HB.out)) hb); clear HB; have HB := n0_; clear n0_; (try clear hb); (try clear hb2); (try clear hk); (try clear hi)) | ((with_reducible refine gate_callee (f := 18) rfl ?_); refine goesL_ (some 19) rfl rfl Tryd.func18 (by kernel_rfl) rfl #[.int .i64 a0, .int .i64 1051898400] rfl (by (try simp only [List.map_toArray, List.map_cons, List.map_nil]); first | done | rfl | (simp only [List.length_drop, List.length_take]; rfl)) ?_; (with_reducible refine (letterbagkit_Pick.calls a0 1051898400 t380 _ A5.out).mono ?_); rintro e w' ⟨rfl, ⟨nd, rfl⟩⟩; refine ⟨_, rfl, ?_⟩) | ((with_reducible refine gate_callee (f := 18) rfl ?_); refine goesL_ (some 21) rfl rfl Tryd.func18 (by kernel_rfl) rfl #[.int .i64 a1, .int .i64 1051898400] rfl (by (try simp only [List.map_toArray, List.map_cons, List.map_nil]); first | done | rfl | (simp only [List.length_drop, List.length_take]; rfl)) ?_; (with_reducible refine (letterbagkit_Pick.calls a1 1051898400 t381 _ A6.out).mono ?_); rintro e w' ⟨rfl, ⟨nd, rfl⟩⟩; refine ⟨_, rfl, ?_⟩) | ((with_reducible refine gate_callee (f := 24) rfl ?_); refine goesL_ (some 24) rfl rfl Tryd.func24 (by kernel_rfl) rfl #[.int .i64 t380] rfl (by (try simp only [List.map_toArray, List.map_cons, List.map_nil]); first | done | rfl | (simp only [List.length_drop, List.length_take]; rfl)) ?_; (with_reducible refine (civil_TimeText.calls k t380 t382 t383 _ ?tabG A7.out).mono ?_); (case tabG => (first | exact hg | exact ⟨hg.out.below (by repeat (first | (with_reducible first | exact HB.out | apply below_alloc | apply pw_below_drewN | apply below_drew1) | exact HB.out))⟩)); rintro e w13 ⟨rfl, hb⟩; refine ⟨_, rfl, ?_⟩; have n0_ := Aside0.mk (below_step (by repeat (first | (with_reducible first | exact HB.out | apply below_alloc | apply pw_below_drewN | apply below_drew1) | exact HB.out)) hb); clear HB; have HB := n0_; clear n0_; (try clear hb); (try clear hb2); (try clear hk); (try clear hi)) | ((with_reducible refine gate_callee (f := 24) rfl ?_); refine goesL_ (some 29) rfl rfl Tryd.func24 (by kernel_rfl) rfl #[.int .i64 t381] rfl (by (try simp only [List.map_toArray, List.map_cons, List.map_nil]); first | done | rfl | (simp only [List.length_drop, List.length_take]; rfl)) ?_; (with_reducible refine (civil_TimeText.calls k t381 t384 t385 _ ?tabG A8.out).mono ?_); (case tabG => (first | exact hg | exact ⟨hg.out.below (by repeat (first | (with_reducible first | exact HB.out | apply below_alloc | apply pw_below_drewN | apply below_drew1) | exact HB.out))⟩)); rintro e w14 ⟨rfl, hb⟩; refine ⟨_, rfl, ?_⟩; have n0_ := Aside0.mk (below_step (by repeat (first | (with_reducible first | exact HB.out | apply below_alloc | apply pw_below_drewN | apply below_drew1) | exact HB.out)) hb); clear HB; have HB := n0_; clear n0_; (try clear hb); (try clear hb2); (try clear hk); (try clear hi)) | ((with_reducible refine gate_callee (f := 32) rfl ?_); refine goesL_ (some 34) rfl rfl Tryd.func32 (by kernel_rfl) rfl #[.string t382] rfl (by (try simp only [List.map_toArray, List.map_cons, List.map_nil]); first | done | rfl | (simp only [List.length_drop, List.length_take]; rfl)) ?_; (with_reducible refine (civil_ReadTime.calls k t382 t386 t387 _ ?tabG A9.out).mono ?_); (case tabG => (first | exact hg | exact ⟨hg.out.below (by repeat (first | (with_reducible first | exact HB.out | apply below_alloc | apply pw_below_drewN | apply below_drew1) | exact HB.out))⟩ | exact hg | exact ⟨hg.out.drewN _⟩ | exact ⟨(hg.out.drewN _).drewN _⟩ | exact ⟨hg.out.drawn (by assumption)⟩)); rintro e w' ⟨rfl, ⟨nd, rfl⟩⟩; refine ⟨_, rfl, ?_⟩) | ((with_reducible refine gate_callee (f := 23) rfl ?_); refine goesL_ (some 39) rfl rfl Tryd.func23 (by kernel_rfl) rfl #[.int .i64 t380] rfl (by (try simp only [List.map_toArray, List.map_cons, List.map_nil]); first | done | rfl | (simp only [List.length_drop, List.length_take]; rfl)) ?_; (with_reducible refine (civil_Split.calls t380 t388 t389 t390 _ A10.out).mono ?_); rintro e w' ⟨rfl, ⟨nd, rfl⟩⟩; refine ⟨_, rfl, ?_⟩))
    (try simp only [Act.put, List.setIfInBounds_toArray, List.set_cons_zero, List.set_cons_succ])
    go_cut [64] (fun v64 wc => ∃ (kq : Nat) (x64_10 : Bool), v64 = .bool x64_10 ∧ Aside0 (letterbaglaw01_CivilWrites.j0 kq t382 t388 x64_10 = some true) ∧ Aside0 (kq ≤ k) ∧ Aside0 (Below w.heap.size w wc))
    case first =>
      have H := HC11.out
      clear HC11
      by_cases c15 : (wrap64 ((wrap64 ((wrap64 (t383 + t385)) + t387)) + t390)) = 0
      · rw [if_pos c15] at H
        have c15b0 : ((wrap64 ((wrap64 ((wrap64 (t383 + t385)) + t387)) + t390)) == 0) = true := beq_iff_eq.mpr c15
        have c15b1 : ((wrap64 ((wrap64 ((wrap64 (t383 + t385)) + t387)) + t390)) != 0) = false := bne_eq_false_iff_eq.mpr c15
        clear c15
        (first | rw [c15b0] | (simp only [i64_w, i32_w]; rw [c15b0]) | skip)
        by_cases c16 : t386 = t380
        · rw [if_pos c16] at H
          have c16b0 : (t386 == t380) = true := beq_iff_eq.mpr c16
          have c16b1 : (t386 != t380) = false := bne_eq_false_iff_eq.mpr c16
          clear c16
          have H' := Aside0.mk H
          clear H
          go_wp2
          go_meet
          case rel => exact ⟨_, (((Op.bytesLess t382.toList t384.toList) != (decide (t380 < t381)))), (by first | rfl | (simp; done) | (simp [*]; done) | (simp; exact (show ∀ a_ b_ : Bool, (a_ == b_) = (!(a_ != b_)) from by decide) _ _) | (rw [Bool.eq_iff_iff]; simp; done) | (simp; rw [Bool.eq_iff_iff]; simp; done)), H', ⟨by first | omega | exact Nat.le_refl _⟩, ⟨by repeat (first | (with_reducible first | exact HB.out | apply below_alloc | apply pw_below_drewN | apply below_drew1) | exact HB.out)⟩⟩
        · rw [if_neg c16] at H
          have c16b0 : (t386 == t380) = false := beq_eq_false_iff_ne.mpr c16
          have c16b1 : (t386 != t380) = true := bne_iff_ne.mpr c16
          have H' := Aside0.mk H
          clear H
          go_wp2
          go_meet
          case rel => exact ⟨_, (true), (by first | rfl | (simp; done) | (simp [*]; done) | (simp; exact (show ∀ a_ b_ : Bool, (a_ == b_) = (!(a_ != b_)) from by decide) _ _) | (rw [Bool.eq_iff_iff]; simp; done) | (simp; rw [Bool.eq_iff_iff]; simp; done)), H', ⟨by first | omega | exact Nat.le_refl _⟩, ⟨by repeat (first | (with_reducible first | exact HB.out | apply below_alloc | apply pw_below_drewN | apply below_drew1) | exact HB.out)⟩⟩
      · rw [if_neg c15] at H
        have c15b0 : ((wrap64 ((wrap64 ((wrap64 (t383 + t385)) + t387)) + t390)) == 0) = false := beq_eq_false_iff_ne.mpr c15
        have c15b1 : ((wrap64 ((wrap64 ((wrap64 (t383 + t385)) + t387)) + t390)) != 0) = true := bne_iff_ne.mpr c15
        (first | rw [c15b0] | (simp only [i64_w, i32_w]; rw [c15b0]) | skip)
        have H' := Aside0.mk H
        clear H
        go_wp2
        go_meet
        case rel => exact ⟨_, (true), (by first | rfl | (simp; done) | (simp [*]; done) | (simp; exact (show ∀ a_ b_ : Bool, (a_ == b_) = (!(a_ != b_)) from by decide) _ _) | (rw [Bool.eq_iff_iff]; simp; done) | (simp; rw [Bool.eq_iff_iff]; simp; done)), H', ⟨by first | omega | exact Nat.le_refl _⟩, ⟨by repeat (first | (with_reducible first | exact HB.out | apply below_alloc | apply pw_below_drewN | apply below_drew1) | exact HB.out)⟩⟩
    case rest =>
      clear HC11
      try clear c1
      try clear c2
      try clear p2
      try clear c3
      try clear c4
      try clear p6
      try clear c12
      try clear c15
      try clear c15b0
      try clear c15b1
      try clear c16
      try clear c16b0
      try clear c16b1
      obtain ⟨kq, x64_10, rfl, HA, HJ10, HB⟩ := hcut
      cases kq with
      | zero => exact absurd HA.out (by simp [letterbaglaw01_CivilWrites.j0])
      | succ kj10 =>
        have H := HA.out
        clear HA
        simp only [letterbaglaw01_CivilWrites.j0] at H
        by_cases c17 : x64_10 = true
        · subst c17
          have H1 : (some false) = some true := by rw [if_pos rfl] at H; exact H
          clear H
          have H := H1
          clear H1
          exact absurd H (by simp)
        · replace c17 := Bool.eq_false_iff.mpr c17
          subst c17
          have H1 : ((civil_Text.f kj10 t388).bind fun bt391 => ((civil_Read.f kj10 bt391.1).bind fun bt393 => (if (wrap64 (bt391.2 + bt393.2)) = 0 then (if bt393.1 = t388 then (if (t382.size : Int) = 16 then (if 0 ≤ 10 then (if 10 ≤ (t382.size : Int) then (some (bt391.1.toList == (t382.extract 0 10).toList)) else (none)) else (none)) else (some false)) else (some false)) else (some false)))) = some true := by rw [if_neg (show ¬ (false = true) by decide)] at H; exact H
          clear H
          have H := H1
          clear H1
          replace H := Option.bind_eq_some_iff.mp H
          obtain ⟨⟨t391, t392⟩, A180, H⟩ := H
          replace H : ((civil_Read.f kj10 t391).bind fun bt393 => (if (wrap64 (t392 + bt393.2)) = 0 then (if bt393.1 = t388 then (if (t382.size : Int) = 16 then (if 0 ≤ 10 then (if 10 ≤ (t382.size : Int) then (some (t391.toList == (t382.extract 0 10).toList)) else (none)) else (none)) else (some false)) else (some false)) else (some false))) = some true := H
          have A18 := Aside0.mk A180
          clear A180
          replace H := Option.bind_eq_some_iff.mp H
          obtain ⟨⟨t393, t394⟩, A190, H⟩ := H
          replace H : (if (wrap64 (t392 + t394)) = 0 then (if t393 = t388 then (if (t382.size : Int) = 16 then (if 0 ≤ 10 then (if 10 ≤ (t382.size : Int) then (some (t391.toList == (t382.extract 0 10).toList)) else (none)) else (none)) else (some false)) else (some false)) else (some false)) = some true := H
          have A19 := Aside0.mk A190
          clear A190
          by_cases c20 : (wrap64 (t392 + t394)) = 0
          · rw [if_pos c20] at H
            have c20b0 : ((wrap64 (t392 + t394)) == 0) = true := beq_iff_eq.mpr c20
            have c20b1 : ((wrap64 (t392 + t394)) != 0) = false := bne_eq_false_iff_eq.mpr c20
            clear c20
            by_cases c21 : t393 = t388
            · rw [if_pos c21] at H
              have c21b0 : (t393 == t388) = true := beq_iff_eq.mpr c21
              have c21b1 : (t393 != t388) = false := bne_eq_false_iff_eq.mpr c21
              clear c21
              by_cases c22 : (t382.size : Int) = 16
              · rw [if_pos c22] at H
                have c22b0 : ((t382.size : Int) == 16) = true := beq_iff_eq.mpr c22
                have c22b1 : ((t382.size : Int) != 16) = false := bne_eq_false_iff_eq.mpr c22
                clear c22
                by_cases c23 : 0 ≤ 10
                · rw [if_pos c23] at H
                  have c23b0 := eq_true c23
                  have c23b1 : decide (0 ≤ 10) = true := decide_eq_true c23
                  clear c23
                  by_cases c24 : 10 ≤ (t382.size : Int)
                  · rw [if_pos c24] at H
                    have c24b0 := eq_true c24
                    have c24b1 : decide (10 ≤ (t382.size : Int)) = true := decide_eq_true c24
                    clear c24
                    have HT_ := Aside0.mk (Option.some.inj H)
                    go_wp2_with (first | ((with_reducible refine gate_callee (f := 21) rfl ?_); refine goesL_ (some 67) rfl rfl Tryd.func21 (by kernel_rfl) rfl #[.int .i64 t388] rfl (by (try simp only [List.map_toArray, List.map_cons, List.map_nil]); first | done | rfl | (simp only [List.length_drop, List.length_take]; rfl)) ?_; (with_reducible refine (civil_Text.calls kj10 t388 t391 t392 _ ?tabG A18.out).mono ?_); (case tabG => (first | exact hg | exact ⟨hg.out.below (by repeat (first | (with_reducible first | exact HB.out | apply below_alloc | apply pw_below_drewN | apply below_drew1) | exact HB.out))⟩)); rintro e w25 ⟨rfl, hb⟩; refine ⟨_, rfl, ?_⟩; have n0_ := Aside0.mk (below_step (by repeat (first | (with_reducible first | exact HB.out | apply below_alloc | apply pw_below_drewN | apply below_drew1) | exact HB.out)) hb); clear HB; have HB := n0_; clear n0_; (try clear hb); (try clear hb2); (try clear hk); (try clear hi)) | ((with_reducible refine gate_callee (f := 30) rfl ?_); refine goesL_ (some 72) rfl rfl Tryd.func30 (by kernel_rfl) rfl #[.string t391] rfl (by (try simp only [List.map_toArray, List.map_cons, List.map_nil]); first | done | rfl | (simp only [List.length_drop, List.length_take]; rfl)) ?_; (with_reducible refine (civil_Read.calls kj10 t391 t393 t394 _ ?tabG A19.out).mono ?_); (case tabG => (first | exact hg | exact ⟨hg.out.below (by repeat (first | (with_reducible first | exact HB.out | apply below_alloc | apply pw_below_drewN | apply below_drew1) | exact HB.out))⟩ | exact hg | exact ⟨hg.out.drewN _⟩ | exact ⟨(hg.out.drewN _).drewN _⟩ | exact ⟨hg.out.drawn (by assumption)⟩)); rintro e w' ⟨rfl, ⟨nd, rfl⟩⟩; refine ⟨_, rfl, ?_⟩))
                    go_ret
                    exact ⟨by first | rfl | (rw [HT_.out]; done) | (rw [HT_.out]; rfl) | (have e_ := HT_.out; simp only [e_]; done) | (have e_ := HT_.out; simp only [e_]; rfl) | (have e_ := HT_.out; simp at e_ ⊢; exact e_) | (have e_ := HT_.out; simp_all; done) | (simp [errW_none, errW_some] <;> rfl) | (simp [*, errW_none, errW_some] <;> rfl), by repeat (first | (with_reducible first | exact HB.out | apply below_alloc | apply pw_below_drewN | apply below_drew1) | exact HB.out)⟩
                  · rw [if_neg c24] at H
                    exact absurd H (by simp)
                · rw [if_neg c23] at H
                  exact absurd H (by simp)
              · rw [if_neg c22] at H
                have c22b0 : ((t382.size : Int) == 16) = false := beq_eq_false_iff_ne.mpr c22
                have c22b1 : ((t382.size : Int) != 16) = true := bne_iff_ne.mpr c22
                exact absurd H (by simp)
            · rw [if_neg c21] at H
              have c21b0 : (t393 == t388) = false := beq_eq_false_iff_ne.mpr c21
              have c21b1 : (t393 != t388) = true := bne_iff_ne.mpr c21
              exact absurd H (by simp)
          · rw [if_neg c20] at H
            have c20b0 : ((wrap64 (t392 + t394)) == 0) = false := beq_eq_false_iff_ne.mpr c20
            have c20b1 : ((wrap64 (t392 + t394)) != 0) = true := bne_iff_ne.mpr c20
            exact absurd H (by simp)
  · replace c4 := Bool.eq_false_iff.mpr c4
    subst c4
    have H1 : (some false) = some true := by rw [if_neg (show ¬ (false = true) by decide)] at H; exact H
    clear H
    have H := H1
    clear H1
    exact absurd H (by simp)

/-- THE ONE PURE STATEMENT of letterbaglaw01_CivilWrites: yours. -/
def letterbaglaw01_CivilWrites.Pure : Prop := ∀ (a0 : Int) (a1 : Int), (Lit.int .i64 a0).wf = true → (Lit.int .i64 a1).wf = true → ∃ k, letterbaglaw01_CivilWrites.f k a0 a1 = some true

end Go.Proofs.YtehnhedifhpalaaDoor.Cp
