/- Functions of the given program as plain Lean functions, and proofs that the machine's calls do what these say; written by a program of this session (myprint.py, over the kit's print). -/
import Derived.Test.YtehnhedifhpalaaDoorCp0
import Derived.Test.YtehnhedifhpalaaDoorCz
import Derived.Test.YtehnhedifhpalaaDoorCp1
import Derived.Test.YtehnhedifhpalaaDoorCp3
import Derived.Test.YtehnhedifhpalaaDoorCp6
import Derived.Test.YtehnhedifhpalaaDoorCp12
import Derived.Test.YtehnhedifhpalaaDoorCt
namespace Go.Proofs.YtehnhedifhpalaaDoor.Cp
open Go.RowKit Go.Proofs.YtehnhedifhpalaaDoorW.PrintWords Go.Proofs.YtehnhedifhpalaaDoorW.PrintLast Go.Proofs.YtehnhedifhpalaaDoorW.PrintMore
attribute [local go_sem] max2_int min2_int max_two min_two max_three min_three max_four min_four   -- for this text's walks alone
set_option linter.unusedVariables false
set_option linter.unusedSimpArgs false

/-! ### letterbaglaw01_split: function 45 -/
def letterbaglaw01_split.f (k : Nat) (a0 : Int) : Option (Bool) := (civil_Split.f a0).bind fun bt404 => ((letterbagref01_Split.f a0).bind fun bt407 => ((civil_TimeText.f k a0).bind fun bt410 => ((letterbagref01_TimeText.f k a0).bind fun bt412 => (if bt404.1 = bt407.1 then (if bt404.2.1 = bt407.2.1 then (if bt404.2.2 = bt407.2.2 then (if bt410.1.toList = bt412.1.toList then (some (bt410.2 == bt412.2)) else (some false)) else (some false)) else (some false)) else (some false)))))
theorem letterbaglaw01_split.mono : ∀ a0 k, LeO (letterbaglaw01_split.f k a0) (letterbaglaw01_split.f (k + 1) a0) := by
  intro a0 k
  unfold letterbaglaw01_split.f
  repeat' first
      | (with_reducible exact civil_TimeText.mono _ _)
      | (with_reducible exact letterbagref01_TimeText.mono _ _)
      | (with_reducible exact LeO.refl _)
      | (with_reducible exact LeO.none _)
      | (with_reducible refine LeO.ite ?_ ?_)
      | (with_reducible refine LeO.bind ?_ (fun _ => ?_))
      | exact civil_TimeText.mono _ _
      | exact letterbagref01_TimeText.mono _ _
      | exact LeO.none _
      | refine LeO.ite ?_ ?_
      | refine LeO.bind ?_ (fun _ => ?_)
set_option maxHeartbeats 8000000 in
set_option maxRecDepth 100000 in
theorem letterbaglaw01_split.calls (k : Nat) (a0 : Int) (r : Bool) (w : World) (hg : Aside0 (Tab w)) (h : letterbaglaw01_split.f k a0 = some r) :
    Calls Tryd.prog 45 #[.int .i64 a0] w fun e w' => e = .returned (.bool r) ∧ Below w.heap.size w w' := by
  have HB := Aside0.mk (Below.refl w.heap.size w)
  have H : ((civil_Split.f a0).bind fun bt404 => ((letterbagref01_Split.f a0).bind fun bt407 => ((civil_TimeText.f k a0).bind fun bt410 => ((letterbagref01_TimeText.f k a0).bind fun bt412 => (if bt404.1 = bt407.1 then (if bt404.2.1 = bt407.2.1 then (if bt404.2.2 = bt407.2.2 then (if bt410.1.toList = bt412.1.toList then (some (bt410.2 == bt412.2)) else (some false)) else (some false)) else (some false)) else (some false)))))) = some r := h
  clear h
  replace H := Option.bind_eq_some_iff.mp H
  obtain ⟨⟨t404, t405, t406⟩, A20, H⟩ := H
  replace H : ((letterbagref01_Split.f a0).bind fun bt407 => ((civil_TimeText.f k a0).bind fun bt410 => ((letterbagref01_TimeText.f k a0).bind fun bt412 => (if t404 = bt407.1 then (if t405 = bt407.2.1 then (if t406 = bt407.2.2 then (if bt410.1.toList = bt412.1.toList then (some (bt410.2 == bt412.2)) else (some false)) else (some false)) else (some false)) else (some false))))) = some r := H
  have A2 := Aside0.mk A20
  clear A20
  replace H := Option.bind_eq_some_iff.mp H
  obtain ⟨⟨t407, t408, t409⟩, A30, H⟩ := H
  replace H : ((civil_TimeText.f k a0).bind fun bt410 => ((letterbagref01_TimeText.f k a0).bind fun bt412 => (if t404 = t407 then (if t405 = t408 then (if t406 = t409 then (if bt410.1.toList = bt412.1.toList then (some (bt410.2 == bt412.2)) else (some false)) else (some false)) else (some false)) else (some false)))) = some r := H
  have A3 := Aside0.mk A30
  clear A30
  replace H := Option.bind_eq_some_iff.mp H
  obtain ⟨⟨t410, t411⟩, A40, H⟩ := H
  replace H : ((letterbagref01_TimeText.f k a0).bind fun bt412 => (if t404 = t407 then (if t405 = t408 then (if t406 = t409 then (if t410.toList = bt412.1.toList then (some (t411 == bt412.2)) else (some false)) else (some false)) else (some false)) else (some false))) = some r := H
  have A4 := Aside0.mk A40
  clear A40
  replace H := Option.bind_eq_some_iff.mp H
  obtain ⟨⟨t412, t413⟩, A50, H⟩ := H
  replace H : (if t404 = t407 then (if t405 = t408 then (if t406 = t409 then (if t410.toList = t412.toList then (some (t411 == t413)) else (some false)) else (some false)) else (some false)) else (some false)) = some r := H
  have A5 := Aside0.mk A50
  clear A50
  by_cases c6 : t404 = t407
  · rw [if_pos c6] at H
    have c6b0 : (t404 == t407) = true := beq_iff_eq.mpr c6
    have c6b1 : (t404 != t407) = false := bne_eq_false_iff_eq.mpr c6
    clear c6
    by_cases c7 : t405 = t408
    · rw [if_pos c7] at H
      have c7b0 : (t405 == t408) = true := beq_iff_eq.mpr c7
      have c7b1 : (t405 != t408) = false := bne_eq_false_iff_eq.mpr c7
      clear c7
      by_cases c8 : t406 = t409
      · rw [if_pos c8] at H
        have c8b0 : (t406 == t409) = true := beq_iff_eq.mpr c8
        have c8b1 : (t406 != t409) = false := bne_eq_false_iff_eq.mpr c8
        clear c8
        by_cases c9 : t410.toList = t412.toList
        · rw [if_pos c9] at H
          have c9b0 : (t410.toList == t412.toList) = true := beq_iff_eq.mpr c9
          have c9b1 : (t410.toList != t412.toList) = false := bne_eq_false_iff_eq.mpr c9
          clear c9
          obtain rfl := Option.some.inj H
          go_enter Tryd.func45, Tryd.ntmps45
          go_wp2_with (first | ((with_reducible refine gate_callee (f := 23) rfl ?_); refine goesL_ (some 15) rfl rfl Tryd.func23 (by kernel_rfl) rfl #[.int .i64 a0] rfl (by (try simp only [List.map_toArray, List.map_cons, List.map_nil]); first | done | rfl | (simp only [List.length_drop, List.length_take]; rfl)) ?_; (with_reducible refine (civil_Split.calls a0 t404 t405 t406 _ A2.out).mono ?_); rintro e w' ⟨rfl, ⟨nd, rfl⟩⟩; refine ⟨_, rfl, ?_⟩) | ((with_reducible refine gate_callee (f := 66) rfl ?_); refine goesL_ (some 21) rfl rfl Tryd.func66 (by kernel_rfl) rfl #[.int .i64 a0] rfl (by (try simp only [List.map_toArray, List.map_cons, List.map_nil]); first | done | rfl | (simp only [List.length_drop, List.length_take]; rfl)) ?_; (with_reducible refine (letterbagref01_Split.calls a0 t407 t408 t409 _ A3.out).mono ?_); rintro e w' ⟨rfl, ⟨nd, rfl⟩⟩; refine ⟨_, rfl, ?_⟩) | ((with_reducible refine gate_callee (f := 24) rfl ?_); refine goesL_ (some 27) rfl rfl Tryd.func24 (by kernel_rfl) rfl #[.int .i64 a0] rfl (by (try simp only [List.map_toArray, List.map_cons, List.map_nil]); first | done | rfl | (simp only [List.length_drop, List.length_take]; rfl)) ?_; (with_reducible refine (civil_TimeText.calls k a0 t410 t411 _ ?tabG A4.out).mono ?_); (case tabG => (first | exact hg | exact ⟨hg.out.below (by repeat (first | (with_reducible first | exact HB.out | apply below_alloc | apply pw_below_drewN | apply below_drew1) | exact HB.out))⟩)); rintro e w10 ⟨rfl, hb⟩; refine ⟨_, rfl, ?_⟩; have n0_ := Aside0.mk (below_step (by repeat (first | (with_reducible first | exact HB.out | apply below_alloc | apply pw_below_drewN | apply below_drew1) | exact HB.out)) hb); clear HB; have HB := n0_; clear n0_; (try clear hb); (try clear hb2); (try clear hk); (try clear hi)) | ((with_reducible refine gate_callee (f := 67) rfl ?_); refine goesL_ (some 32) rfl rfl Tryd.func67 (by kernel_rfl) rfl #[.int .i64 a0] rfl (by (try simp only [List.map_toArray, List.map_cons, List.map_nil]); first | done | rfl | (simp only [List.length_drop, List.length_take]; rfl)) ?_; (with_reducible refine (letterbagref01_TimeText.calls k a0 t412 t413 _ A5.out).mono ?_); rintro e w11 ⟨rfl, hb⟩; refine ⟨_, rfl, ?_⟩; have n0_ := Aside0.mk (below_step (by repeat (first | (with_reducible first | exact HB.out | apply below_alloc | apply pw_below_drewN | apply below_drew1) | exact HB.out)) hb); clear HB; have HB := n0_; clear n0_; (try clear hb); (try clear hb2); (try clear hk); (try clear hi)))
          go_ret
          exact ⟨by first | rfl | (simp [errW_none, errW_some] <;> rfl) | (simp [*, errW_none, errW_some] <;> rfl), by repeat (first | (with_reducible first | exact HB.out | apply below_alloc | apply pw_below_drewN | apply below_drew1) | exact HB.out)⟩
        · rw [if_neg c9] at H
          have c9b0 : (t410.toList == t412.toList) = false := beq_eq_false_iff_ne.mpr c9
          have c9b1 : (t410.toList != t412.toList) = true := bne_iff_ne.mpr c9
          obtain rfl := Option.some.inj H
          go_enter Tryd.func45, Tryd.ntmps45
          go_wp2_with (first | ((with_reducible refine gate_callee (f := 23) rfl ?_); refine goesL_ (some 15) rfl rfl Tryd.func23 (by kernel_rfl) rfl #[.int .i64 a0] rfl (by (try simp only [List.map_toArray, List.map_cons, List.map_nil]); first | done | rfl | (simp only [List.length_drop, List.length_take]; rfl)) ?_; (with_reducible refine (civil_Split.calls a0 t404 t405 t406 _ A2.out).mono ?_); rintro e w' ⟨rfl, ⟨nd, rfl⟩⟩; refine ⟨_, rfl, ?_⟩) | ((with_reducible refine gate_callee (f := 66) rfl ?_); refine goesL_ (some 21) rfl rfl Tryd.func66 (by kernel_rfl) rfl #[.int .i64 a0] rfl (by (try simp only [List.map_toArray, List.map_cons, List.map_nil]); first | done | rfl | (simp only [List.length_drop, List.length_take]; rfl)) ?_; (with_reducible refine (letterbagref01_Split.calls a0 t407 t408 t409 _ A3.out).mono ?_); rintro e w' ⟨rfl, ⟨nd, rfl⟩⟩; refine ⟨_, rfl, ?_⟩) | ((with_reducible refine gate_callee (f := 24) rfl ?_); refine goesL_ (some 27) rfl rfl Tryd.func24 (by kernel_rfl) rfl #[.int .i64 a0] rfl (by (try simp only [List.map_toArray, List.map_cons, List.map_nil]); first | done | rfl | (simp only [List.length_drop, List.length_take]; rfl)) ?_; (with_reducible refine (civil_TimeText.calls k a0 t410 t411 _ ?tabG A4.out).mono ?_); (case tabG => (first | exact hg | exact ⟨hg.out.below (by repeat (first | (with_reducible first | exact HB.out | apply below_alloc | apply pw_below_drewN | apply below_drew1) | exact HB.out))⟩)); rintro e w12 ⟨rfl, hb⟩; refine ⟨_, rfl, ?_⟩; have n0_ := Aside0.mk (below_step (by repeat (first | (with_reducible first | exact HB.out | apply below_alloc | apply pw_below_drewN | apply below_drew1) | exact HB.out)) hb); clear HB; have HB := n0_; clear n0_; (try clear hb); (try clear hb2); (try clear hk); (try clear hi)) | ((with_reducible refine gate_callee (f := 67) rfl ?_); refine goesL_ (some 32) rfl rfl Tryd.func67 (by kernel_rfl) rfl #[.int .i64 a0] rfl (by (try simp only [List.map_toArray, List.map_cons, List.map_nil]); first | done | rfl | (simp only [List.length_drop, List.length_take]; rfl)) ?_; (with_reducible refine (letterbagref01_TimeText.calls k a0 t412 t413 _ A5.out).mono ?_); rintro e w13 ⟨rfl, hb⟩; refine ⟨_, rfl, ?_⟩; have n0_ := Aside0.mk (below_step (by repeat (first | (with_reducible first | exact HB.out | apply below_alloc | apply pw_below_drewN | apply below_drew1) | exact HB.out)) hb); clear HB; have HB := n0_; clear n0_; (try clear hb); (try clear hb2); (try clear hk); (try clear hi)))
          go_ret
          exact ⟨by first | rfl | (simp [errW_none, errW_some] <;> rfl) | (simp [*, errW_none, errW_some] <;> rfl), by repeat (first | (with_reducible first | exact HB.out | apply below_alloc | apply pw_below_drewN | apply below_drew1) | exact HB.out)⟩
      · rw [if_neg c8] at H
        have c8b0 : (t406 == t409) = false := beq_eq_false_iff_ne.mpr c8
        have c8b1 : (t406 != t409) = true := bne_iff_ne.mpr c8
        obtain rfl := Option.some.inj H
        go_enter Tryd.func45, Tryd.ntmps45
        go_wp2_with (first | ((with_reducible refine gate_callee (f := 23) rfl ?_); refine goesL_ (some 15) rfl rfl Tryd.func23 (by kernel_rfl) rfl #[.int .i64 a0] rfl (by (try simp only [List.map_toArray, List.map_cons, List.map_nil]); first | done | rfl | (simp only [List.length_drop, List.length_take]; rfl)) ?_; (with_reducible refine (civil_Split.calls a0 t404 t405 t406 _ A2.out).mono ?_); rintro e w' ⟨rfl, ⟨nd, rfl⟩⟩; refine ⟨_, rfl, ?_⟩) | ((with_reducible refine gate_callee (f := 66) rfl ?_); refine goesL_ (some 21) rfl rfl Tryd.func66 (by kernel_rfl) rfl #[.int .i64 a0] rfl (by (try simp only [List.map_toArray, List.map_cons, List.map_nil]); first | done | rfl | (simp only [List.length_drop, List.length_take]; rfl)) ?_; (with_reducible refine (letterbagref01_Split.calls a0 t407 t408 t409 _ A3.out).mono ?_); rintro e w' ⟨rfl, ⟨nd, rfl⟩⟩; refine ⟨_, rfl, ?_⟩) | ((with_reducible refine gate_callee (f := 24) rfl ?_); refine goesL_ (some 27) rfl rfl Tryd.func24 (by kernel_rfl) rfl #[.int .i64 a0] rfl (by (try simp only [List.map_toArray, List.map_cons, List.map_nil]); first | done | rfl | (simp only [List.length_drop, List.length_take]; rfl)) ?_; (with_reducible refine (civil_TimeText.calls k a0 t410 t411 _ ?tabG A4.out).mono ?_); (case tabG => (first | exact hg | exact ⟨hg.out.below (by repeat (first | (with_reducible first | exact HB.out | apply below_alloc | apply pw_below_drewN | apply below_drew1) | exact HB.out))⟩)); rintro e w14 ⟨rfl, hb⟩; refine ⟨_, rfl, ?_⟩; have n0_ := Aside0.mk (below_step (by repeat (first | (with_reducible first | exact HB.out | apply below_alloc | apply pw_below_drewN | apply below_drew1) | exact HB.out)) hb); clear HB; have HB := n0_; clear n0_; (try clear hb); (try clear hb2); (try clear hk); (try clear hi)) | ((with_reducible refine gate_callee (f := 67) rfl ?_); refine goesL_ (some 32) rfl rfl Tryd.func67 (by kernel_rfl) rfl #[.int .i64 a0] rfl (by (try simp only [List.map_toArray, List.map_cons, List.map_nil]); first | done | rfl | (simp only [List.length_drop, List.length_take]; rfl)) ?_; (with_reducible refine (letterbagref01_TimeText.calls k a0 t412 t413 _ A5.out).mono ?_); rintro e w15 ⟨rfl, hb⟩; refine ⟨_, rfl, ?_⟩; have n0_ := Aside0.mk (below_step (by repeat (first | (with_reducible first | exact HB.out | apply below_alloc | apply pw_below_drewN | apply below_drew1) | exact HB.out)) hb); clear HB; have HB := n0_; clear n0_; (try clear hb); (try clear hb2); (try clear hk); (try clear hi)))
        go_ret
        exact ⟨by first | rfl | (simp [errW_none, errW_some] <;> rfl) | (simp [*, errW_none, errW_some] <;> rfl), by repeat (first | (with_reducible first | exact HB.out | apply below_alloc | apply pw_below_drewN | apply below_drew1) | exact HB.out)⟩
    · rw [if_neg c7] at H
      have c7b0 : (t405 == t408) = false := beq_eq_false_iff_ne.mpr c7
      have c7b1 : (t405 != t408) = true := bne_iff_ne.mpr c7
      obtain rfl := Option.some.inj H
      go_enter Tryd.func45, Tryd.ntmps45
      go_wp2_with (first | ((with_reducible refine gate_callee (f := 23) rfl ?_); refine goesL_ (some 15) rfl rfl Tryd.func23 (by kernel_rfl) rfl #[.int .i64 a0] rfl (by (try simp only [List.map_toArray, List.map_cons, List.map_nil]); first | done | rfl | (simp only [List.length_drop, List.length_take]; rfl)) ?_; (with_reducible refine (civil_Split.calls a0 t404 t405 t406 _ A2.out).mono ?_); rintro e w' ⟨rfl, ⟨nd, rfl⟩⟩; refine ⟨_, rfl, ?_⟩) | ((with_reducible refine gate_callee (f := 66) rfl ?_); refine goesL_ (some 21) rfl rfl Tryd.func66 (by kernel_rfl) rfl #[.int .i64 a0] rfl (by (try simp only [List.map_toArray, List.map_cons, List.map_nil]); first | done | rfl | (simp only [List.length_drop, List.length_take]; rfl)) ?_; (with_reducible refine (letterbagref01_Split.calls a0 t407 t408 t409 _ A3.out).mono ?_); rintro e w' ⟨rfl, ⟨nd, rfl⟩⟩; refine ⟨_, rfl, ?_⟩) | ((with_reducible refine gate_callee (f := 24) rfl ?_); refine goesL_ (some 27) rfl rfl Tryd.func24 (by kernel_rfl) rfl #[.int .i64 a0] rfl (by (try simp only [List.map_toArray, List.map_cons, List.map_nil]); first | done | rfl | (simp only [List.length_drop, List.length_take]; rfl)) ?_; (with_reducible refine (civil_TimeText.calls k a0 t410 t411 _ ?tabG A4.out).mono ?_); (case tabG => (first | exact hg | exact ⟨hg.out.below (by repeat (first | (with_reducible first | exact HB.out | apply below_alloc | apply pw_below_drewN | apply below_drew1) | exact HB.out))⟩)); rintro e w16 ⟨rfl, hb⟩; refine ⟨_, rfl, ?_⟩; have n0_ := Aside0.mk (below_step (by repeat (first | (with_reducible first | exact HB.out | apply below_alloc | apply pw_below_drewN | apply below_drew1) | exact HB.out)) hb); clear HB; have HB := n0_; clear n0_; (try clear hb); (try clear hb2); (try clear hk); (try clear hi)) | ((with_reducible refine gate_callee (f := 67) rfl ?_); refine goesL_ (some 32) rfl rfl Tryd.func67 (by kernel_rfl) rfl #[.int .i64 a0] rfl (by (try simp only [List.map_toArray, List.map_cons, List.map_nil]); first | done | rfl | (simp only [List.length_drop, List.length_take]; rfl)) ?_; (with_reducible refine (letterbagref01_TimeText.calls k a0 t412 t413 _ A5.out).mono ?_); rintro e w17 ⟨rfl, hb⟩; refine ⟨_, rfl, ?_⟩; have n0_ := Aside0.mk (below_step (by repeat (first | (with_reducible first | exact HB.out | apply below_alloc | apply pw_below_drewN | apply below_drew1) | exact HB.out)) hb); clear HB; have HB := n0_; clear n0_; (try clear hb); (try clear hb2); (try clear hk); (try clear hi)))
      go_ret
      exact ⟨by first | rfl | (simp [errW_none, errW_some] <;> rfl) | (simp [*, errW_none, errW_some] <;> rfl), by repeat (first | (with_reducible first | exact HB.out | apply below_alloc | apply pw_below_drewN | apply below_drew1) | exact HB.out)⟩
  · rw [if_neg c6] at H
    have c6b0 : (t404 == t407) = false := beq_eq_false_iff_ne.mpr c6
    have c6b1 : (t404 != t407) = true := bne_iff_ne.mpr c6
    obtain rfl := Option.some.inj H
    go_enter Tryd.func45, Tryd.ntmps45
    go_wp2_with (first | ((with_reducible refine gate_callee (f := 23) rfl ?_); refine goesL_ (some 15) rfl rfl Tryd.func23 (by kernel_rfl) rfl #[.int .i64 a0] rfl (by (try simp only [List.map_toArray, List.map_cons, List.map_nil]); first | done | rfl | (simp only [List.length_drop, List.length_take]; rfl)) ?_; (with_reducible refine (civil_Split.calls a0 t404 t405 t406 _ A2.out).mono ?_); rintro e w' ⟨rfl, ⟨nd, rfl⟩⟩; refine ⟨_, rfl, ?_⟩) | ((with_reducible refine gate_callee (f := 66) rfl ?_); refine goesL_ (some 21) rfl rfl Tryd.func66 (by kernel_rfl) rfl #[.int .i64 a0] rfl (by (try simp only [List.map_toArray, List.map_cons, List.map_nil]); first | done | rfl | (simp only [List.length_drop, List.length_take]; rfl)) ?_; (with_reducible refine (letterbagref01_Split.calls a0 t407 t408 t409 _ A3.out).mono ?_); rintro e w' ⟨rfl, ⟨nd, rfl⟩⟩; refine ⟨_, rfl, ?_⟩) | ((with_reducible refine gate_callee (f := 24) rfl ?_); refine goesL_ (some 27) rfl rfl Tryd.func24 (by kernel_rfl) rfl #[.int .i64 a0] rfl (by (try simp only [List.map_toArray, List.map_cons, List.map_nil]); first | done | rfl | (simp only [List.length_drop, List.length_take]; rfl)) ?_; (with_reducible refine (civil_TimeText.calls k a0 t410 t411 _ ?tabG A4.out).mono ?_); (case tabG => (first | exact hg | exact ⟨hg.out.below (by repeat (first | (with_reducible first | exact HB.out | apply below_alloc | apply pw_below_drewN | apply below_drew1) | exact HB.out))⟩)); rintro e w18 ⟨rfl, hb⟩; refine ⟨_, rfl, ?_⟩; have n0_ := Aside0.mk (below_step (by repeat (first | (with_reducible first | exact HB.out | apply below_alloc | apply pw_below_drewN | apply below_drew1) | exact HB.out)) hb); clear HB; have HB := n0_; clear n0_; (try clear hb); (try clear hb2); (try clear hk); (try clear hi)) | ((with_reducible refine gate_callee (f := 67) rfl ?_); refine goesL_ (some 32) rfl rfl Tryd.func67 (by kernel_rfl) rfl #[.int .i64 a0] rfl (by (try simp only [List.map_toArray, List.map_cons, List.map_nil]); first | done | rfl | (simp only [List.length_drop, List.length_take]; rfl)) ?_; (with_reducible refine (letterbagref01_TimeText.calls k a0 t412 t413 _ A5.out).mono ?_); rintro e w19 ⟨rfl, hb⟩; refine ⟨_, rfl, ?_⟩; have n0_ := Aside0.mk (below_step (by repeat (first | (with_reducible first | exact HB.out | apply below_alloc | apply pw_below_drewN | apply below_drew1) | exact HB.out)) hb); clear HB; have HB := n0_; clear n0_; (try clear hb); (try clear hb2); (try clear hk); (try clear hi)))
    go_ret
    exact ⟨by first | rfl | (simp [errW_none, errW_some] <;> rfl) | (simp [*, errW_none, errW_some] <;> rfl), by repeat (first | (with_reducible first | exact HB.out | apply below_alloc | apply pw_below_drewN | apply below_drew1) | exact HB.out)⟩

/-! ### letterbaglaw01_date: function 14 -/
mutual
def letterbaglaw01_date.j0 : Nat → Int → Int → Bool → Option (Bool)
  | 0, _, _, _ => none
  | k + 1, x0, x1, x52 => if x52 = true then (some false) else ((civil_Weekday.f x0).bind fun bt422 => ((letterbagref01_Weekday.f x0).bind fun bt424 => ((civil_Text.f k x0).bind fun bt426 => ((letterbagref01_Text.f k x0).bind fun bt428 => (if bt422.1 = bt424.1 then (if bt422.2 = bt424.2 then (if bt426.1.toList = bt428.1.toList then (letterbaglaw01_date.j1 k x0 x1 (bt426.2 != bt428.2)) else (letterbaglaw01_date.j1 k x0 x1 true)) else (letterbaglaw01_date.j1 k x0 x1 true)) else (letterbaglaw01_date.j1 k x0 x1 true))))))
def letterbaglaw01_date.j1 : Nat → Int → Int → Bool → Option (Bool)
  | 0, _, _, _ => none
  | k + 1, x0, x1, x90 => if x90 = true then (some false) else ((civil_Time.f k x0 x1).bind fun bt430 => ((letterbagref01_Time.f k x0 x1).bind fun bt432 => (if bt430.1 = bt432.1 then (if bt430.2 = bt432.2 then ((letterbaglaw01_split.f k bt430.1).bind fun t434 => (if t434 = true then ((letterbaglaw01_split.f k x0).bind fun t435 => (if t435 = true then ((letterbaglaw01_split.f k x1).bind fun t436 => (some t436)) else (some false))) else (some false))) else (some false)) else (some false))))
end
def letterbaglaw01_date.f (k : Nat) (a0 : Int) (a1 : Int) : Option (Bool) := (civil_Date.f k a0).bind fun bt414 => ((letterbagref01_Date.f k a0).bind fun bt418 => (if bt414.1 = bt418.1 then (if bt414.2.1 = bt418.2.1 then (if bt414.2.2.1 = bt418.2.2.1 then (letterbaglaw01_date.j0 k a0 a1 (bt414.2.2.2 != bt418.2.2.2)) else (letterbaglaw01_date.j0 k a0 a1 true)) else (letterbaglaw01_date.j0 k a0 a1 true)) else (letterbaglaw01_date.j0 k a0 a1 true)))
theorem letterbaglaw01_date.mono_l : ∀ k, (∀ y0 y1 y2, LeO (letterbaglaw01_date.j0 k y0 y1 y2) (letterbaglaw01_date.j0 (k + 1) y0 y1 y2)) ∧ (∀ y0 y1 y2, LeO (letterbaglaw01_date.j1 k y0 y1 y2) (letterbaglaw01_date.j1 (k + 1) y0 y1 y2))
  | 0 => ⟨fun _ _ _ r h => by simp [letterbaglaw01_date.j0] at h, fun _ _ _ r h => by simp [letterbaglaw01_date.j1] at h⟩
  | k + 1 => by
    obtain ⟨ih0, ih1⟩ := letterbaglaw01_date.mono_l k
    refine ⟨?_, ?_⟩
    · intro y0 y1 y2
      unfold letterbaglaw01_date.j0
      repeat' first
      | (with_reducible exact ih0 _ _ _)
      | (with_reducible exact ih1 _ _ _)
      | (with_reducible exact civil_Date.mono _ _)
      | (with_reducible exact civil_Text.mono _ _)
      | (with_reducible exact civil_Time.mono _ _ _)
      | (with_reducible exact letterbaglaw01_split.mono _ _)
      | (with_reducible exact letterbagref01_Date.mono _ _)
      | (with_reducible exact letterbagref01_Text.mono _ _)
      | (with_reducible exact letterbagref01_Time.mono _ _ _)
      | (with_reducible exact LeO.refl _)
      | (with_reducible exact LeO.none _)
      | (with_reducible refine LeO.ite ?_ ?_)
      | (with_reducible refine LeO.bind ?_ (fun _ => ?_))
      | exact ih0 _ _ _
      | exact ih1 _ _ _
      | exact civil_Date.mono _ _
      | exact civil_Text.mono _ _
      | exact civil_Time.mono _ _ _
      | exact letterbaglaw01_split.mono _ _
      | exact letterbagref01_Date.mono _ _
      | exact letterbagref01_Text.mono _ _
      | exact letterbagref01_Time.mono _ _ _
      | exact LeO.none _
      | refine LeO.ite ?_ ?_
      | refine LeO.bind ?_ (fun _ => ?_)
    · intro y0 y1 y2
      unfold letterbaglaw01_date.j1
      repeat' first
      | (with_reducible exact ih0 _ _ _)
      | (with_reducible exact ih1 _ _ _)
      | (with_reducible exact civil_Date.mono _ _)
      | (with_reducible exact civil_Text.mono _ _)
      | (with_reducible exact civil_Time.mono _ _ _)
      | (with_reducible exact letterbaglaw01_split.mono _ _)
      | (with_reducible exact letterbagref01_Date.mono _ _)
      | (with_reducible exact letterbagref01_Text.mono _ _)
      | (with_reducible exact letterbagref01_Time.mono _ _ _)
      | (with_reducible exact LeO.refl _)
      | (with_reducible exact LeO.none _)
      | (with_reducible refine LeO.ite ?_ ?_)
      | (with_reducible refine LeO.bind ?_ (fun _ => ?_))
      | exact ih0 _ _ _
      | exact ih1 _ _ _
      | exact civil_Date.mono _ _
      | exact civil_Text.mono _ _
      | exact civil_Time.mono _ _ _
      | exact letterbaglaw01_split.mono _ _
      | exact letterbagref01_Date.mono _ _
      | exact letterbagref01_Text.mono _ _
      | exact letterbagref01_Time.mono _ _ _
      | exact LeO.none _
      | refine LeO.ite ?_ ?_
      | refine LeO.bind ?_ (fun _ => ?_)
theorem letterbaglaw01_date.mono : ∀ a0 a1 k, LeO (letterbaglaw01_date.f k a0 a1) (letterbaglaw01_date.f (k + 1) a0 a1) := by
  intro a0 a1 k
  obtain ⟨ih0, ih1⟩ := letterbaglaw01_date.mono_l k
  unfold letterbaglaw01_date.f
  repeat' first
      | (with_reducible exact ih0 _ _ _)
      | (with_reducible exact ih1 _ _ _)
      | (with_reducible exact civil_Date.mono _ _)
      | (with_reducible exact civil_Text.mono _ _)
      | (with_reducible exact civil_Time.mono _ _ _)
      | (with_reducible exact letterbaglaw01_split.mono _ _)
      | (with_reducible exact letterbagref01_Date.mono _ _)
      | (with_reducible exact letterbagref01_Text.mono _ _)
      | (with_reducible exact letterbagref01_Time.mono _ _ _)
      | (with_reducible exact LeO.refl _)
      | (with_reducible exact LeO.none _)
      | (with_reducible refine LeO.ite ?_ ?_)
      | (with_reducible refine LeO.bind ?_ (fun _ => ?_))
      | exact ih0 _ _ _
      | exact ih1 _ _ _
      | exact civil_Date.mono _ _
      | exact civil_Text.mono _ _
      | exact civil_Time.mono _ _ _
      | exact letterbaglaw01_split.mono _ _
      | exact letterbagref01_Date.mono _ _
      | exact letterbagref01_Text.mono _ _
      | exact letterbagref01_Time.mono _ _ _
      | exact LeO.none _
      | refine LeO.ite ?_ ?_
      | refine LeO.bind ?_ (fun _ => ?_)
set_option maxHeartbeats 8000000 in
set_option maxRecDepth 100000 in
theorem letterbaglaw01_date.calls (k : Nat) (a0 : Int) (a1 : Int) (r : Bool) (w : World) (hg : Aside0 (Tab w)) (h : letterbaglaw01_date.f k a0 a1 = some r) :
    Calls Tryd.prog 14 #[.int .i64 a0, .int .i64 a1] w fun e w' => e = .returned (.bool r) ∧ Below w.heap.size w w' := by
  have HB := Aside0.mk (Below.refl w.heap.size w)
  have H : ((civil_Date.f k a0).bind fun bt414 => ((letterbagref01_Date.f k a0).bind fun bt418 => (if bt414.1 = bt418.1 then (if bt414.2.1 = bt418.2.1 then (if bt414.2.2.1 = bt418.2.2.1 then (letterbaglaw01_date.j0 k a0 a1 (bt414.2.2.2 != bt418.2.2.2)) else (letterbaglaw01_date.j0 k a0 a1 true)) else (letterbaglaw01_date.j0 k a0 a1 true)) else (letterbaglaw01_date.j0 k a0 a1 true)))) = some r := h
  clear h
  replace H := Option.bind_eq_some_iff.mp H
  obtain ⟨⟨t414, t415, t416, t417⟩, A30, H⟩ := H
  replace H : ((letterbagref01_Date.f k a0).bind fun bt418 => (if t414 = bt418.1 then (if t415 = bt418.2.1 then (if t416 = bt418.2.2.1 then (letterbaglaw01_date.j0 k a0 a1 (t417 != bt418.2.2.2)) else (letterbaglaw01_date.j0 k a0 a1 true)) else (letterbaglaw01_date.j0 k a0 a1 true)) else (letterbaglaw01_date.j0 k a0 a1 true))) = some r := H
  have A3 := Aside0.mk A30
  clear A30
  replace H := Option.bind_eq_some_iff.mp H
  obtain ⟨⟨t418, t419, t420, t421⟩, A40, H⟩ := H
  replace H : (if t414 = t418 then (if t415 = t419 then (if t416 = t420 then (letterbaglaw01_date.j0 k a0 a1 (t417 != t421)) else (letterbaglaw01_date.j0 k a0 a1 true)) else (letterbaglaw01_date.j0 k a0 a1 true)) else (letterbaglaw01_date.j0 k a0 a1 true)) = some r := H
  have A4 := Aside0.mk A40
  clear A40
  have HC5 := Aside0.mk H
  clear H
  go_enter Tryd.func14, Tryd.ntmps14
  go_upto_region 3 with (first | ((with_reducible refine gate_callee (f := 19) rfl ?_); refine goesL_ (some 23) rfl rfl Tryd.func19 (by kernel_rfl) rfl #[.int .i64 a0] rfl (by (try simp only [List.map_toArray, List.map_cons, List.map_nil]); first | done | rfl | (simp only [List.length_drop, List.length_take]; rfl)) ?_; (with_reducible refine (civil_Date.calls k a0 t414 t415 t416 t417 _ ?tabG A3.out).mono ?_); (case tabG => (first | exact hg | exact ⟨hg.out.below (by repeat (first | (with_reducible first | exact HB.out | apply below_alloc | apply pw_below_drewN | apply below_drew1) | exact HB.out))⟩)); rintro e w6 ⟨rfl, hb⟩; refine ⟨_, rfl, ?_⟩; have n0_ := Aside0.mk (below_step (by repeat (first | (with_reducible first | exact HB.out | apply below_alloc | apply pw_below_drewN | apply below_drew1) | exact HB.out)) hb); clear HB; have HB := n0_; clear n0_; (try clear hb); (try clear hb2); (try clear hk); (try clear hi)) | ((with_reducible refine gate_callee (f := 41) rfl ?_); refine goesL_ (some 30) rfl rfl Tryd.func41 (by kernel_rfl) rfl #[.int .i64 a0] rfl (by (try simp only [List.map_toArray, List.map_cons, List.map_nil]); first | done | rfl | (simp only [List.length_drop, List.length_take]; rfl)) ?_; (with_reducible refine (letterbagref01_Date.calls k a0 t418 t419 t420 t421 _ A4.out).mono ?_); rintro e w' ⟨rfl, ⟨nd, rfl⟩⟩; refine ⟨_, rfl, ?_⟩))
  (try simp only [Act.put, List.setIfInBounds_toArray, List.set_cons_zero, List.set_cons_succ])
  go_cut [52] (fun v52 wc => ∃ (kq : Nat) (x52_4 : Bool), v52 = .bool x52_4 ∧ Aside0 (letterbaglaw01_date.j0 kq a0 a1 x52_4 = some r) ∧ Aside0 (kq ≤ k) ∧ Aside0 (Below w.heap.size w wc))
  case first =>
    have H := HC5.out
    clear HC5
    by_cases c7 : t414 = t418
    · rw [if_pos c7] at H
      have c7b0 : (t414 == t418) = true := beq_iff_eq.mpr c7
      have c7b1 : (t414 != t418) = false := bne_eq_false_iff_eq.mpr c7
      clear c7
      (first | rw [c7b0] | (simp only [i64_w, i32_w]; rw [c7b0]) | skip)
      by_cases c8 : t415 = t419
      · rw [if_pos c8] at H
        have c8b0 : (t415 == t419) = true := beq_iff_eq.mpr c8
        have c8b1 : (t415 != t419) = false := bne_eq_false_iff_eq.mpr c8
        clear c8
        by_cases c9 : t416 = t420
        · rw [if_pos c9] at H
          have c9b0 : (t416 == t420) = true := beq_iff_eq.mpr c9
          have c9b1 : (t416 != t420) = false := bne_eq_false_iff_eq.mpr c9
          clear c9
          have H' := Aside0.mk H
          clear H
          go_wp2
          go_meet
          case rel => exact ⟨_, ((t417 != t421)), (by first | rfl | (simp; done) | (simp [*]; done) | (simp; exact (show ∀ a_ b_ : Bool, (a_ == b_) = (!(a_ != b_)) from by decide) _ _) | (rw [Bool.eq_iff_iff]; simp; done) | (simp; rw [Bool.eq_iff_iff]; simp; done)), H', ⟨by first | omega | exact Nat.le_refl _⟩, ⟨by repeat (first | (with_reducible first | exact HB.out | apply below_alloc | apply pw_below_drewN | apply below_drew1) | exact HB.out)⟩⟩
        · rw [if_neg c9] at H
          have c9b0 : (t416 == t420) = false := beq_eq_false_iff_ne.mpr c9
          have c9b1 : (t416 != t420) = true := bne_iff_ne.mpr c9
          have H' := Aside0.mk H
          clear H
          go_wp2
          go_meet
          case rel => exact ⟨_, (true), (by first | rfl | (simp; done) | (simp [*]; done) | (simp; exact (show ∀ a_ b_ : Bool, (a_ == b_) = (!(a_ != b_)) from by decide) _ _) | (rw [Bool.eq_iff_iff]; simp; done) | (simp; rw [Bool.eq_iff_iff]; simp; done)), H', ⟨by first | omega | exact Nat.le_refl _⟩, ⟨by repeat (first | (with_reducible first | exact HB.out | apply below_alloc | apply pw_below_drewN | apply below_drew1) | exact HB.out)⟩⟩
      · rw [if_neg c8] at H
        have c8b0 : (t415 == t419) = false := beq_eq_false_iff_ne.mpr c8
        have c8b1 : (t415 != t419) = true := bne_iff_ne.mpr c8
        have H' := Aside0.mk H
        clear H
        go_wp2
        go_meet
        case rel => exact ⟨_, (true), (by first | rfl | (simp; done) | (simp [*]; done) | (simp; exact (show ∀ a_ b_ : Bool, (a_ == b_) = (!(a_ != b_)) from by decide) _ _) | (rw [Bool.eq_iff_iff]; simp; done) | (simp; rw [Bool.eq_iff_iff]; simp; done)), H', ⟨by first | omega | exact Nat.le_refl _⟩, ⟨by repeat (first | (with_reducible first | exact HB.out | apply below_alloc | apply pw_below_drewN | apply below_drew1) | exact HB.out)⟩⟩
    · rw [if_neg c7] at H
      have c7b0 : (t414 == t418) = false := beq_eq_false_iff_ne.mpr c7
      have c7b1 : (t414 != t418) = true := bne_iff_ne.mpr c7
      (first | rw [c7b0] | (simp only [i64_w, i32_w]; rw [c7b0]) | skip)
      have H' := Aside0.mk H
      clear H
      go_wp2
      go_meet
      case rel => exact ⟨_, (true), (by first | rfl | (simp; done) | (simp [*]; done) | (simp; exact (show ∀ a_ b_ : Bool, (a_ == b_) = (!(a_ != b_)) from by decide) _ _) | (rw [Bool.eq_iff_iff]; simp; done) | (simp; rw [Bool.eq_iff_iff]; simp; done)), H', ⟨by first | omega | exact Nat.le_refl _⟩, ⟨by repeat (first | (with_reducible first | exact HB.out | apply below_alloc | apply pw_below_drewN | apply below_drew1) | exact HB.out)⟩⟩
  case rest =>
    clear HC5
    try clear c1
    try clear p2
    try clear c4
    try clear c7
    try clear c7b0
    try clear c7b1
    try clear c8
    try clear c8b0
    try clear c8b1
    try clear c9
    try clear c9b0
    try clear c9b1
    obtain ⟨kq, x52_4, rfl, HA, HJ4, HB⟩ := hcut
    cases kq with
    | zero => exact absurd HA.out (by simp [letterbaglaw01_date.j0])
    | succ kj4 =>
      have H := HA.out
      clear HA
      simp only [letterbaglaw01_date.j0] at H
      by_cases c10 : x52_4 = true
      · subst c10
        have H1 : (some false) = some r := by rw [if_pos rfl] at H; exact H
        clear H
        have H := H1
        clear H1
        obtain rfl := Option.some.inj H
        go_wp2
        go_ret
        exact ⟨by first | rfl | (simp [errW_none, errW_some] <;> rfl) | (simp [*, errW_none, errW_some] <;> rfl), by repeat (first | (with_reducible first | exact HB.out | apply below_alloc | apply pw_below_drewN | apply below_drew1) | exact HB.out)⟩
      · replace c10 := Bool.eq_false_iff.mpr c10
        subst c10
        have H1 : ((civil_Weekday.f a0).bind fun bt422 => ((letterbagref01_Weekday.f a0).bind fun bt424 => ((civil_Text.f kj4 a0).bind fun bt426 => ((letterbagref01_Text.f kj4 a0).bind fun bt428 => (if bt422.1 = bt424.1 then (if bt422.2 = bt424.2 then (if bt426.1.toList = bt428.1.toList then (letterbaglaw01_date.j1 kj4 a0 a1 (bt426.2 != bt428.2)) else (letterbaglaw01_date.j1 kj4 a0 a1 true)) else (letterbaglaw01_date.j1 kj4 a0 a1 true)) else (letterbaglaw01_date.j1 kj4 a0 a1 true)))))) = some r := by rw [if_neg (show ¬ (false = true) by decide)] at H; exact H
        clear H
        have H := H1
        clear H1
        replace H := Option.bind_eq_some_iff.mp H
        obtain ⟨⟨t422, t423⟩, A110, H⟩ := H
        replace H : ((letterbagref01_Weekday.f a0).bind fun bt424 => ((civil_Text.f kj4 a0).bind fun bt426 => ((letterbagref01_Text.f kj4 a0).bind fun bt428 => (if t422 = bt424.1 then (if t423 = bt424.2 then (if bt426.1.toList = bt428.1.toList then (letterbaglaw01_date.j1 kj4 a0 a1 (bt426.2 != bt428.2)) else (letterbaglaw01_date.j1 kj4 a0 a1 true)) else (letterbaglaw01_date.j1 kj4 a0 a1 true)) else (letterbaglaw01_date.j1 kj4 a0 a1 true))))) = some r := H
        have A11 := Aside0.mk A110
        clear A110
        replace H := Option.bind_eq_some_iff.mp H
        obtain ⟨⟨t424, t425⟩, A120, H⟩ := H
        replace H : ((civil_Text.f kj4 a0).bind fun bt426 => ((letterbagref01_Text.f kj4 a0).bind fun bt428 => (if t422 = t424 then (if t423 = t425 then (if bt426.1.toList = bt428.1.toList then (letterbaglaw01_date.j1 kj4 a0 a1 (bt426.2 != bt428.2)) else (letterbaglaw01_date.j1 kj4 a0 a1 true)) else (letterbaglaw01_date.j1 kj4 a0 a1 true)) else (letterbaglaw01_date.j1 kj4 a0 a1 true)))) = some r := H
        have A12 := Aside0.mk A120
        clear A120
        replace H := Option.bind_eq_some_iff.mp H
        obtain ⟨⟨t426, t427⟩, A130, H⟩ := H
        replace H : ((letterbagref01_Text.f kj4 a0).bind fun bt428 => (if t422 = t424 then (if t423 = t425 then (if t426.toList = bt428.1.toList then (letterbaglaw01_date.j1 kj4 a0 a1 (t427 != bt428.2)) else (letterbaglaw01_date.j1 kj4 a0 a1 true)) else (letterbaglaw01_date.j1 kj4 a0 a1 true)) else (letterbaglaw01_date.j1 kj4 a0 a1 true))) = some r := H
        have A13 := Aside0.mk A130
        clear A130
        replace H := Option.bind_eq_some_iff.mp H
        obtain ⟨⟨t428, t429⟩, A140, H⟩ := H
        replace H : (if t422 = t424 then (if t423 = t425 then (if t426.toList = t428.toList then (letterbaglaw01_date.j1 kj4 a0 a1 (t427 != t429)) else (letterbaglaw01_date.j1 kj4 a0 a1 true)) else (letterbaglaw01_date.j1 kj4 a0 a1 true)) else (letterbaglaw01_date.j1 kj4 a0 a1 true)) = some r := H
        have A14 := Aside0.mk A140
        clear A140
        have HC15 := Aside0.mk H
        clear H
        go_upto_region 9 with (first | ((with_reducible refine gate_callee (f := 20) rfl ?_); refine goesL_ (some 55) rfl rfl Tryd.func20 (by kernel_rfl) rfl #[.int .i64 a0] rfl (by (try simp only [List.map_toArray, List.map_cons, List.map_nil]); first | done | rfl | (simp only [List.length_drop, List.length_take]; rfl)) ?_; (with_reducible refine (civil_Weekday.calls a0 t422 t423 _ A11.out).mono ?_); rintro e w' ⟨rfl, ⟨nd, rfl⟩⟩; refine ⟨_, rfl, ?_⟩) | ((with_reducible refine gate_callee (f := 42) rfl ?_); refine goesL_ (some 60) rfl rfl Tryd.func42 (by kernel_rfl) rfl #[.int .i64 a0] rfl (by (try simp only [List.map_toArray, List.map_cons, List.map_nil]); first | done | rfl | (simp only [List.length_drop, List.length_take]; rfl)) ?_; (with_reducible refine (letterbagref01_Weekday.calls a0 t424 t425 _ A12.out).mono ?_); rintro e w' ⟨rfl, ⟨nd, rfl⟩⟩; refine ⟨_, rfl, ?_⟩) | ((with_reducible refine gate_callee (f := 21) rfl ?_); refine goesL_ (some 65) rfl rfl Tryd.func21 (by kernel_rfl) rfl #[.int .i64 a0] rfl (by (try simp only [List.map_toArray, List.map_cons, List.map_nil]); first | done | rfl | (simp only [List.length_drop, List.length_take]; rfl)) ?_; (with_reducible refine (civil_Text.calls kj4 a0 t426 t427 _ ?tabG A13.out).mono ?_); (case tabG => (first | exact hg | exact ⟨hg.out.below (by repeat (first | (with_reducible first | exact HB.out | apply below_alloc | apply pw_below_drewN | apply below_drew1) | exact HB.out))⟩)); rintro e w16 ⟨rfl, hb⟩; refine ⟨_, rfl, ?_⟩; have n0_ := Aside0.mk (below_step (by repeat (first | (with_reducible first | exact HB.out | apply below_alloc | apply pw_below_drewN | apply below_drew1) | exact HB.out)) hb); clear HB; have HB := n0_; clear n0_; (try clear hb); (try clear hb2); (try clear hk); (try clear hi)) | ((with_reducible refine gate_callee (f := 43) rfl ?_); refine goesL_ (some 70) rfl rfl Tryd.func43 (by kernel_rfl) rfl #[.int .i64 a0] rfl (by (try simp only [List.map_toArray, List.map_cons, List.map_nil]); first | done | rfl | (simp only [List.length_drop, List.length_take]; rfl)) ?_; (with_reducible refine (letterbagref01_Text.calls kj4 a0 t428 t429 _ A14.out).mono ?_); rintro e w17 ⟨rfl, hb⟩; refine ⟨_, rfl, ?_⟩; have n0_ := Aside0.mk (below_step (by repeat (first | (with_reducible first | exact HB.out | apply below_alloc | apply pw_below_drewN | apply below_drew1) | exact HB.out)) hb); clear HB; have HB := n0_; clear n0_; (try clear hb); (try clear hb2); (try clear hk); (try clear hi)))
        (try simp only [Act.put, List.setIfInBounds_toArray, List.set_cons_zero, List.set_cons_succ])
        go_cut [90] (fun v90 wc => ∃ (kq : Nat) (x90_14 : Bool), v90 = .bool x90_14 ∧ Aside0 (letterbaglaw01_date.j1 kq a0 a1 x90_14 = some r) ∧ Aside0 (kq ≤ kj4) ∧ Aside0 (Below w.heap.size w wc))
        case first =>
          have H := HC15.out
          clear HC15
          by_cases c18 : t422 = t424
          · rw [if_pos c18] at H
            have c18b0 : (t422 == t424) = true := beq_iff_eq.mpr c18
            have c18b1 : (t422 != t424) = false := bne_eq_false_iff_eq.mpr c18
            clear c18
            (first | rw [c18b0] | (simp only [i64_w, i32_w]; rw [c18b0]) | skip)
            by_cases c19 : t423 = t425
            · rw [if_pos c19] at H
              have c19b0 : (t423 == t425) = true := beq_iff_eq.mpr c19
              have c19b1 : (t423 != t425) = false := bne_eq_false_iff_eq.mpr c19
              clear c19
              by_cases c20 : t426.toList = t428.toList
              · rw [if_pos c20] at H
                have c20b0 : (t426.toList == t428.toList) = true := beq_iff_eq.mpr c20
                have c20b1 : (t426.toList != t428.toList) = false := bne_eq_false_iff_eq.mpr c20
                clear c20
                have H' := Aside0.mk H
                clear H
                go_wp2
                go_meet
                case rel => exact ⟨_, ((t427 != t429)), (by first | rfl | (simp; done) | (simp [*]; done) | (simp; exact (show ∀ a_ b_ : Bool, (a_ == b_) = (!(a_ != b_)) from by decide) _ _) | (rw [Bool.eq_iff_iff]; simp; done) | (simp; rw [Bool.eq_iff_iff]; simp; done)), H', ⟨by have := HJ4.out; first | omega | exact Nat.le_refl _⟩, ⟨by repeat (first | (with_reducible first | exact HB.out | apply below_alloc | apply pw_below_drewN | apply below_drew1) | exact HB.out)⟩⟩
              · rw [if_neg c20] at H
                have c20b0 : (t426.toList == t428.toList) = false := beq_eq_false_iff_ne.mpr c20
                have c20b1 : (t426.toList != t428.toList) = true := bne_iff_ne.mpr c20
                have H' := Aside0.mk H
                clear H
                go_wp2
                go_meet
                case rel => exact ⟨_, (true), (by first | rfl | (simp; done) | (simp [*]; done) | (simp; exact (show ∀ a_ b_ : Bool, (a_ == b_) = (!(a_ != b_)) from by decide) _ _) | (rw [Bool.eq_iff_iff]; simp; done) | (simp; rw [Bool.eq_iff_iff]; simp; done)), H', ⟨by have := HJ4.out; first | omega | exact Nat.le_refl _⟩, ⟨by repeat (first | (with_reducible first | exact HB.out | apply below_alloc | apply pw_below_drewN | apply below_drew1) | exact HB.out)⟩⟩
            · rw [if_neg c19] at H
              have c19b0 : (t423 == t425) = false := beq_eq_false_iff_ne.mpr c19
              have c19b1 : (t423 != t425) = true := bne_iff_ne.mpr c19
              have H' := Aside0.mk H
              clear H
              go_wp2
              go_meet
              case rel => exact ⟨_, (true), (by first | rfl | (simp; done) | (simp [*]; done) | (simp; exact (show ∀ a_ b_ : Bool, (a_ == b_) = (!(a_ != b_)) from by decide) _ _) | (rw [Bool.eq_iff_iff]; simp; done) | (simp; rw [Bool.eq_iff_iff]; simp; done)), H', ⟨by have := HJ4.out; first | omega | exact Nat.le_refl _⟩, ⟨by repeat (first | (with_reducible first | exact HB.out | apply below_alloc | apply pw_below_drewN | apply below_drew1) | exact HB.out)⟩⟩
          · rw [if_neg c18] at H
            have c18b0 : (t422 == t424) = false := beq_eq_false_iff_ne.mpr c18
            have c18b1 : (t422 != t424) = true := bne_iff_ne.mpr c18
            (first | rw [c18b0] | (simp only [i64_w, i32_w]; rw [c18b0]) | skip)
            have H' := Aside0.mk H
            clear H
            go_wp2
            go_meet
            case rel => exact ⟨_, (true), (by first | rfl | (simp; done) | (simp [*]; done) | (simp; exact (show ∀ a_ b_ : Bool, (a_ == b_) = (!(a_ != b_)) from by decide) _ _) | (rw [Bool.eq_iff_iff]; simp; done) | (simp; rw [Bool.eq_iff_iff]; simp; done)), H', ⟨by have := HJ4.out; first | omega | exact Nat.le_refl _⟩, ⟨by repeat (first | (with_reducible first | exact HB.out | apply below_alloc | apply pw_below_drewN | apply below_drew1) | exact HB.out)⟩⟩
        case rest =>
          clear HC15
          try clear c1
          try clear c2
          try clear p2
          try clear c4
          try clear c7
          try clear c7b0
          try clear c7b1
          try clear c8
          try clear c8b0
          try clear c8b1
          try clear c9
          try clear c9b0
          try clear c9b1
          try clear c10
          try clear c14
          try clear c18
          try clear c18b0
          try clear c18b1
          try clear c19
          try clear c19b0
          try clear c19b1
          try clear c20
          try clear c20b0
          try clear c20b1
          try clear p2
          obtain ⟨kq, x90_14, rfl, HA, HJ14, HB⟩ := hcut
          cases kq with
          | zero => exact absurd HA.out (by simp [letterbaglaw01_date.j1])
          | succ kj14 =>
            have H := HA.out
            clear HA
            simp only [letterbaglaw01_date.j1] at H
            by_cases c21 : x90_14 = true
            · subst c21
              have H1 : (some false) = some r := by rw [if_pos rfl] at H; exact H
              clear H
              have H := H1
              clear H1
              obtain rfl := Option.some.inj H
              go_wp2
              go_ret
              exact ⟨by first | rfl | (simp [errW_none, errW_some] <;> rfl) | (simp [*, errW_none, errW_some] <;> rfl), by repeat (first | (with_reducible first | exact HB.out | apply below_alloc | apply pw_below_drewN | apply below_drew1) | exact HB.out)⟩
            · replace c21 := Bool.eq_false_iff.mpr c21
              subst c21
              have H1 : ((civil_Time.f kj14 a0 a1).bind fun bt430 => ((letterbagref01_Time.f kj14 a0 a1).bind fun bt432 => (if bt430.1 = bt432.1 then (if bt430.2 = bt432.2 then ((letterbaglaw01_split.f kj14 bt430.1).bind fun t434 => (if t434 = true then ((letterbaglaw01_split.f kj14 a0).bind fun t435 => (if t435 = true then ((letterbaglaw01_split.f kj14 a1).bind fun t436 => (some t436)) else (some false))) else (some false))) else (some false)) else (some false)))) = some r := by rw [if_neg (show ¬ (false = true) by decide)] at H; exact H
              clear H
              have H := H1
              clear H1
              replace H := Option.bind_eq_some_iff.mp H
              obtain ⟨⟨t430, t431⟩, A220, H⟩ := H
              replace H : ((letterbagref01_Time.f kj14 a0 a1).bind fun bt432 => (if t430 = bt432.1 then (if t431 = bt432.2 then ((letterbaglaw01_split.f kj14 t430).bind fun t434 => (if t434 = true then ((letterbaglaw01_split.f kj14 a0).bind fun t435 => (if t435 = true then ((letterbaglaw01_split.f kj14 a1).bind fun t436 => (some t436)) else (some false))) else (some false))) else (some false)) else (some false))) = some r := H
              have A22 := Aside0.mk A220
              clear A220
              replace H := Option.bind_eq_some_iff.mp H
              obtain ⟨⟨t432, t433⟩, A230, H⟩ := H
              replace H : (if t430 = t432 then (if t431 = t433 then ((letterbaglaw01_split.f kj14 t430).bind fun t434 => (if t434 = true then ((letterbaglaw01_split.f kj14 a0).bind fun t435 => (if t435 = true then ((letterbaglaw01_split.f kj14 a1).bind fun t436 => (some t436)) else (some false))) else (some false))) else (some false)) else (some false)) = some r := H
              have A23 := Aside0.mk A230
              clear A230
              by_cases c24 : t430 = t432
              · rw [if_pos c24] at H
                have c24b0 : (t430 == t432) = true := beq_iff_eq.mpr c24
                have c24b1 : (t430 != t432) = false := bne_eq_false_iff_eq.mpr c24
                clear c24
                by_cases c25 : t431 = t433
                · rw [if_pos c25] at H
                  have c25b0 : (t431 == t433) = true := beq_iff_eq.mpr c25
                  have c25b1 : (t431 != t433) = false := bne_eq_false_iff_eq.mpr c25
                  clear c25
                  replace H := Option.bind_eq_some_iff.mp H
                  obtain ⟨t434, A260, H⟩ := H
                  replace H : (if t434 = true then ((letterbaglaw01_split.f kj14 a0).bind fun t435 => (if t435 = true then ((letterbaglaw01_split.f kj14 a1).bind fun t436 => (some t436)) else (some false))) else (some false)) = some r := H
                  have A26 := Aside0.mk A260
                  clear A260
                  by_cases c27 : t434 = true
                  · subst c27
                    have H1 : ((letterbaglaw01_split.f kj14 a0).bind fun t435 => (if t435 = true then ((letterbaglaw01_split.f kj14 a1).bind fun t436 => (some t436)) else (some false))) = some r := by rw [if_pos rfl] at H; exact H
                    clear H
                    have H := H1
                    clear H1
                    replace H := Option.bind_eq_some_iff.mp H
                    obtain ⟨t435, A280, H⟩ := H
                    replace H : (if t435 = true then ((letterbaglaw01_split.f kj14 a1).bind fun t436 => (some t436)) else (some false)) = some r := H
                    have A28 := Aside0.mk A280
                    clear A280
                    by_cases c29 : t435 = true
                    · subst c29
                      have H1 : ((letterbaglaw01_split.f kj14 a1).bind fun t436 => (some t436)) = some r := by rw [if_pos rfl] at H; exact H
                      clear H
                      have H := H1
                      clear H1
                      replace H := Option.bind_eq_some_iff.mp H
                      obtain ⟨t436, A300, H⟩ := H
                      replace H : (some t436) = some r := H
                      have A30 := Aside0.mk A300
                      clear A300
                      obtain rfl := Option.some.inj H
                      go_wp2_with (first | ((with_reducible refine gate_callee (f := 22) rfl ?_); refine goesL_ (some 94) rfl rfl Tryd.func22 (by kernel_rfl) rfl #[.int .i64 a0, .int .i64 a1] rfl (by (try simp only [List.map_toArray, List.map_cons, List.map_nil]); first | done | rfl | (simp only [List.length_drop, List.length_take]; rfl)) ?_; (with_reducible refine (civil_Time.calls kj14 a0 a1 t430 t431 _ A22.out).mono ?_); rintro e w' ⟨rfl, ⟨nd, rfl⟩⟩; refine ⟨_, rfl, ?_⟩) | ((with_reducible refine gate_callee (f := 44) rfl ?_); refine goesL_ (some 100) rfl rfl Tryd.func44 (by kernel_rfl) rfl #[.int .i64 a0, .int .i64 a1] rfl (by (try simp only [List.map_toArray, List.map_cons, List.map_nil]); first | done | rfl | (simp only [List.length_drop, List.length_take]; rfl)) ?_; (with_reducible refine (letterbagref01_Time.calls kj14 a0 a1 t432 t433 _ A23.out).mono ?_); rintro e w' ⟨rfl, ⟨nd, rfl⟩⟩; refine ⟨_, rfl, ?_⟩) | (go_at_call 45; (with_reducible refine (letterbaglaw01_split.calls kj14 t430 true _ ?tabG A26.out).mono ?_); (case tabG => (first | exact hg | exact ⟨hg.out.below (by repeat (first | (with_reducible first | exact HB.out | apply below_alloc | apply pw_below_drewN | apply below_drew1) | exact HB.out))⟩)); rintro e w31 ⟨rfl, hb⟩; have n0_ := Aside0.mk (below_step (by repeat (first | (with_reducible first | exact HB.out | apply below_alloc | apply pw_below_drewN | apply below_drew1) | exact HB.out)) hb); clear HB; have HB := n0_; clear n0_; (try clear hb); (try clear hb2); (try clear hk); (try clear hi)) | (go_at_call 45; (with_reducible refine (letterbaglaw01_split.calls kj14 a0 true _ ?tabG A28.out).mono ?_); (case tabG => (first | exact hg | exact ⟨hg.out.below (by repeat (first | (with_reducible first | exact HB.out | apply below_alloc | apply pw_below_drewN | apply below_drew1) | exact HB.out))⟩)); rintro e w32 ⟨rfl, hb⟩; have n0_ := Aside0.mk (below_step (by repeat (first | (with_reducible first | exact HB.out | apply below_alloc | apply pw_below_drewN | apply below_drew1) | exact HB.out)) hb); clear HB; have HB := n0_; clear n0_; (try clear hb); (try clear hb2); (try clear hk); (try clear hi)) | (go_at_call 45; (with_reducible refine (letterbaglaw01_split.calls kj14 a1 t436 _ ?tabG A30.out).mono ?_); (case tabG => (first | exact hg | exact ⟨hg.out.below (by repeat (first | (with_reducible first | exact HB.out | apply below_alloc | apply pw_below_drewN | apply below_drew1) | exact HB.out))⟩)); rintro e w33 ⟨rfl, hb⟩; have n0_ := Aside0.mk (below_step (by repeat (first | (with_reducible first | exact HB.out | apply below_alloc | apply pw_below_drewN | apply below_drew1) | exact HB.out)) hb); clear HB; have HB := n0_; clear n0_; (try clear hb); (try clear hb2); (try clear hk); (try clear hi)))
                      go_ret
                      exact ⟨by first | rfl | (simp [errW_none, errW_some] <;> rfl) | (simp [*, errW_none, errW_some] <;> rfl), by repeat (first | (with_reducible first | exact HB.out | apply below_alloc | apply pw_below_drewN | apply below_drew1) | exact HB.out)⟩
                    · replace c29 := Bool.eq_false_iff.mpr c29
                      subst c29
                      have H1 : (some false) = some r := by rw [if_neg (show ¬ (false = true) by decide)] at H; exact H
                      clear H
                      have H := H1
                      clear H1
                      obtain rfl := Option.some.inj H
                      go_wp2_with (first | ((with_reducible refine gate_callee (f := 22) rfl ?_); refine goesL_ (some 94) rfl rfl Tryd.func22 (by kernel_rfl) rfl #[.int .i64 a0, .int .i64 a1] rfl (by (try simp only [List.map_toArray, List.map_cons, List.map_nil]); first | done | rfl | (simp only [List.length_drop, List.length_take]; rfl)) ?_; (with_reducible refine (civil_Time.calls kj14 a0 a1 t430 t431 _ A22.out).mono ?_); rintro e w' ⟨rfl, ⟨nd, rfl⟩⟩; refine ⟨_, rfl, ?_⟩) | ((with_reducible refine gate_callee (f := 44) rfl ?_); refine goesL_ (some 100) rfl rfl Tryd.func44 (by kernel_rfl) rfl #[.int .i64 a0, .int .i64 a1] rfl (by (try simp only [List.map_toArray, List.map_cons, List.map_nil]); first | done | rfl | (simp only [List.length_drop, List.length_take]; rfl)) ?_; (with_reducible refine (letterbagref01_Time.calls kj14 a0 a1 t432 t433 _ A23.out).mono ?_); rintro e w' ⟨rfl, ⟨nd, rfl⟩⟩; refine ⟨_, rfl, ?_⟩) | (go_at_call 45; (with_reducible refine (letterbaglaw01_split.calls kj14 t430 true _ ?tabG A26.out).mono ?_); (case tabG => (first | exact hg | exact ⟨hg.out.below (by repeat (first | (with_reducible first | exact HB.out | apply below_alloc | apply pw_below_drewN | apply below_drew1) | exact HB.out))⟩)); rintro e w34 ⟨rfl, hb⟩; have n0_ := Aside0.mk (below_step (by repeat (first | (with_reducible first | exact HB.out | apply below_alloc | apply pw_below_drewN | apply below_drew1) | exact HB.out)) hb); clear HB; have HB := n0_; clear n0_; (try clear hb); (try clear hb2); (try clear hk); (try clear hi)) | (go_at_call 45; (with_reducible refine (letterbaglaw01_split.calls kj14 a0 false _ ?tabG A28.out).mono ?_); (case tabG => (first | exact hg | exact ⟨hg.out.below (by repeat (first | (with_reducible first | exact HB.out | apply below_alloc | apply pw_below_drewN | apply below_drew1) | exact HB.out))⟩)); rintro e w35 ⟨rfl, hb⟩; have n0_ := Aside0.mk (below_step (by repeat (first | (with_reducible first | exact HB.out | apply below_alloc | apply pw_below_drewN | apply below_drew1) | exact HB.out)) hb); clear HB; have HB := n0_; clear n0_; (try clear hb); (try clear hb2); (try clear hk); (try clear hi)))
                      go_ret
                      exact ⟨by first | rfl | (simp [errW_none, errW_some] <;> rfl) | (simp [*, errW_none, errW_some] <;> rfl), by repeat (first | (with_reducible first | exact HB.out | apply below_alloc | apply pw_below_drewN | apply below_drew1) | exact HB.out)⟩
                  · replace c27 := Bool.eq_false_iff.mpr c27
                    subst c27
                    have H1 : (some false) = some r := by rw [if_neg (show ¬ (false = true) by decide)] at H; exact H
                    clear H
                    have H := H1
                    clear H1
                    obtain rfl := Option.some.inj H
                    go_wp2_with (first | ((with_reducible refine gate_callee (f := 22) rfl ?_); refine goesL_ (some 94) rfl rfl Tryd.func22 (by kernel_rfl) rfl #[.int .i64 a0, .int .i64 a1] rfl (by (try simp only [List.map_toArray, List.map_cons, List.map_nil]); first | done | rfl | (simp only [List.length_drop, List.length_take]; rfl)) ?_; (with_reducible refine (civil_Time.calls kj14 a0 a1 t430 t431 _ A22.out).mono ?_); rintro e w' ⟨rfl, ⟨nd, rfl⟩⟩; refine ⟨_, rfl, ?_⟩) | ((with_reducible refine gate_callee (f := 44) rfl ?_); refine goesL_ (some 100) rfl rfl Tryd.func44 (by kernel_rfl) rfl #[.int .i64 a0, .int .i64 a1] rfl (by (try simp only [List.map_toArray, List.map_cons, List.map_nil]); first | done | rfl | (simp only [List.length_drop, List.length_take]; rfl)) ?_; (with_reducible refine (letterbagref01_Time.calls kj14 a0 a1 t432 t433 _ A23.out).mono ?_); rintro e w' ⟨rfl, ⟨nd, rfl⟩⟩; refine ⟨_, rfl, ?_⟩) | (go_at_call 45; (with_reducible refine (letterbaglaw01_split.calls kj14 t430 false _ ?tabG A26.out).mono ?_); (case tabG => (first | exact hg | exact ⟨hg.out.below (by repeat (first | (with_reducible first | exact HB.out | apply below_alloc | apply pw_below_drewN | apply below_drew1) | exact HB.out))⟩)); rintro e w36 ⟨rfl, hb⟩; have n0_ := Aside0.mk (below_step (by repeat (first | (with_reducible first | exact HB.out | apply below_alloc | apply pw_below_drewN | apply below_drew1) | exact HB.out)) hb); clear HB; have HB := n0_; clear n0_; (try clear hb); (try clear hb2); (try clear hk); (try clear hi)))
                    go_ret
                    exact ⟨by first | rfl | (simp [errW_none, errW_some] <;> rfl) | (simp [*, errW_none, errW_some] <;> rfl), by repeat (first | (with_reducible first | exact HB.out | apply below_alloc | apply pw_below_drewN | apply below_drew1) | exact HB.out)⟩
                · rw [if_neg c25] at H
                  have c25b0 : (t431 == t433) = false := beq_eq_false_iff_ne.mpr c25
                  have c25b1 : (t431 != t433) = true := bne_iff_ne.mpr c25
                  obtain rfl := Option.some.inj H
                  go_wp2_with (first | ((with_reducible refine gate_callee (f := 22) rfl ?_); refine goesL_ (some 94) rfl rfl Tryd.func22 (by kernel_rfl) rfl #[.int .i64 a0, .int .i64 a1] rfl (by (try simp only [List.map_toArray, List.map_cons, List.map_nil]); first | done | rfl | (simp only [List.length_drop, List.length_take]; rfl)) ?_; (with_reducible refine (civil_Time.calls kj14 a0 a1 t430 t431 _ A22.out).mono ?_); rintro e w' ⟨rfl, ⟨nd, rfl⟩⟩; refine ⟨_, rfl, ?_⟩) | ((with_reducible refine gate_callee (f := 44) rfl ?_); refine goesL_ (some 100) rfl rfl Tryd.func44 (by kernel_rfl) rfl #[.int .i64 a0, .int .i64 a1] rfl (by (try simp only [List.map_toArray, List.map_cons, List.map_nil]); first | done | rfl | (simp only [List.length_drop, List.length_take]; rfl)) ?_; (with_reducible refine (letterbagref01_Time.calls kj14 a0 a1 t432 t433 _ A23.out).mono ?_); rintro e w' ⟨rfl, ⟨nd, rfl⟩⟩; refine ⟨_, rfl, ?_⟩))
                  go_ret
                  exact ⟨by first | rfl | (simp [errW_none, errW_some] <;> rfl) | (simp [*, errW_none, errW_some] <;> rfl), by repeat (first | (with_reducible first | exact HB.out | apply below_alloc | apply pw_below_drewN | apply below_drew1) | exact HB.out)⟩
              · rw [if_neg c24] at H
                have c24b0 : (t430 == t432) = false := beq_eq_false_iff_ne.mpr c24
                have c24b1 : (t430 != t432) = true := bne_iff_ne.mpr c24
                obtain rfl := Option.some.inj H
                go_wp2_with (first | ((with_reducible refine gate_callee (f := 22) rfl ?_); refine goesL_ (some 94) rfl rfl Tryd.func22 (by kernel_rfl) rfl #[.int .i64 a0, .int .i64 a1] rfl (by (try simp only [List.map_toArray, List.map_cons, List.map_nil]); first | done | rfl | (simp only [List.length_drop, List.length_take]; rfl)) ?_; (with_reducible refine (civil_Time.calls kj14 a0 a1 t430 t431 _ A22.out).mono ?_); rintro e w' ⟨rfl, ⟨nd, rfl⟩⟩; refine ⟨_, rfl, ?_⟩) | ((with_reducible refine gate_callee (f := 44) rfl ?_); refine goesL_ (some 100) rfl rfl Tryd.func44 (by kernel_rfl) rfl #[.int .i64 a0, .int .i64 a1] rfl (by (try simp only [List.map_toArray, List.map_cons, List.map_nil]); first | done | rfl | (simp only [List.length_drop, List.length_take]; rfl)) ?_; (with_reducible refine (letterbagref01_Time.calls kj14 a0 a1 t432 t433 _ A23.out).mono ?_); rintro e w' ⟨rfl, ⟨nd, rfl⟩⟩; refine ⟨_, rfl, ?_⟩))
                go_ret
                exact ⟨by first | rfl | (simp [errW_none, errW_some] <;> rfl) | (simp [*, errW_none, errW_some] <;> rfl), by repeat (first | (with_reducible first | exact HB.out | apply below_alloc | apply pw_below_drewN | apply below_drew1) | exact HB.out)⟩

/-! ### letterbaglaw01_CivilTells: function 13 -/
def letterbaglaw01_CivilTells.f (k : Nat) (a0 : Int) (a1 : Int) (a2 : Int) (a3 : Int) (a4 : Int) : Option (Bool) := (civil_Day.f a0 a1 a2).bind fun bt437 => ((letterbagref01_Day.f k a0 a1 a2).bind fun bt439 => ((civil_Leap.f a0).bind fun t441 => ((letterbagref01_Leap.f a0).bind fun t442 => (if (t441 == t442) = true then (if bt437.1 = bt439.1 then (if bt437.2 = bt439.2 then ((letterbaglaw01_date.f k a3 a4).bind fun t443 => (if t443 = true then ((letterbaglaw01_awake.f k).bind fun t444 => (some t444)) else (some false))) else (some false)) else (some false)) else (some false)))))
theorem letterbaglaw01_CivilTells.mono : ∀ a0 a1 a2 a3 a4 k, LeO (letterbaglaw01_CivilTells.f k a0 a1 a2 a3 a4) (letterbaglaw01_CivilTells.f (k + 1) a0 a1 a2 a3 a4) := by
  intro a0 a1 a2 a3 a4 k
  unfold letterbaglaw01_CivilTells.f
  repeat' first
      | (with_reducible exact letterbaglaw01_awake.mono _)
      | (with_reducible exact letterbaglaw01_date.mono _ _ _)
      | (with_reducible exact letterbagref01_Day.mono _ _ _ _)
      | (with_reducible exact LeO.refl _)
      | (with_reducible exact LeO.none _)
      | (with_reducible refine LeO.ite ?_ ?_)
      | (with_reducible refine LeO.bind ?_ (fun _ => ?_))
      | exact letterbaglaw01_awake.mono _
      | exact letterbaglaw01_date.mono _ _ _
      | exact letterbagref01_Day.mono _ _ _ _
      | exact LeO.none _
      | refine LeO.ite ?_ ?_
      | refine LeO.bind ?_ (fun _ => ?_)
set_option maxHeartbeats 8000000 in
set_option maxRecDepth 100000 in
theorem letterbaglaw01_CivilTells.calls (k : Nat) (a0 : Int) (a1 : Int) (a2 : Int) (a3 : Int) (a4 : Int) (w : World) (hg : Aside0 (Tab w)) (h : letterbaglaw01_CivilTells.f k a0 a1 a2 a3 a4 = some true) :
    Calls Tryd.prog 13 #[.int .i64 a0, .int .i64 a1, .int .i64 a2, .int .i64 a3, .int .i64 a4] w fun e w' => e = .returned (.bool true) ∧ Below w.heap.size w w' := by
  have HB := Aside0.mk (Below.refl w.heap.size w)
  have H : ((civil_Day.f a0 a1 a2).bind fun bt437 => ((letterbagref01_Day.f k a0 a1 a2).bind fun bt439 => ((civil_Leap.f a0).bind fun t441 => ((letterbagref01_Leap.f a0).bind fun t442 => (if (t441 == t442) = true then (if bt437.1 = bt439.1 then (if bt437.2 = bt439.2 then ((letterbaglaw01_date.f k a3 a4).bind fun t443 => (if t443 = true then ((letterbaglaw01_awake.f k).bind fun t444 => (some t444)) else (some false))) else (some false)) else (some false)) else (some false)))))) = some true := h
  clear h
  replace H := Option.bind_eq_some_iff.mp H
  obtain ⟨⟨t437, t438⟩, A60, H⟩ := H
  replace H : ((letterbagref01_Day.f k a0 a1 a2).bind fun bt439 => ((civil_Leap.f a0).bind fun t441 => ((letterbagref01_Leap.f a0).bind fun t442 => (if (t441 == t442) = true then (if t437 = bt439.1 then (if t438 = bt439.2 then ((letterbaglaw01_date.f k a3 a4).bind fun t443 => (if t443 = true then ((letterbaglaw01_awake.f k).bind fun t444 => (some t444)) else (some false))) else (some false)) else (some false)) else (some false))))) = some true := H
  have A6 := Aside0.mk A60
  clear A60
  replace H := Option.bind_eq_some_iff.mp H
  obtain ⟨⟨t439, t440⟩, A70, H⟩ := H
  replace H : ((civil_Leap.f a0).bind fun t441 => ((letterbagref01_Leap.f a0).bind fun t442 => (if (t441 == t442) = true then (if t437 = t439 then (if t438 = t440 then ((letterbaglaw01_date.f k a3 a4).bind fun t443 => (if t443 = true then ((letterbaglaw01_awake.f k).bind fun t444 => (some t444)) else (some false))) else (some false)) else (some false)) else (some false)))) = some true := H
  have A7 := Aside0.mk A70
  clear A70
  replace H := Option.bind_eq_some_iff.mp H
  obtain ⟨t441, A80, H⟩ := H
  replace H : ((letterbagref01_Leap.f a0).bind fun t442 => (if (t441 == t442) = true then (if t437 = t439 then (if t438 = t440 then ((letterbaglaw01_date.f k a3 a4).bind fun t443 => (if t443 = true then ((letterbaglaw01_awake.f k).bind fun t444 => (some t444)) else (some false))) else (some false)) else (some false)) else (some false))) = some true := H
  have A8 := Aside0.mk A80
  clear A80
  replace H := Option.bind_eq_some_iff.mp H
  obtain ⟨t442, A90, H⟩ := H
  replace H : (if (t441 == t442) = true then (if t437 = t439 then (if t438 = t440 then ((letterbaglaw01_date.f k a3 a4).bind fun t443 => (if t443 = true then ((letterbaglaw01_awake.f k).bind fun t444 => (some t444)) else (some false))) else (some false)) else (some false)) else (some false)) = some true := H
  have A9 := Aside0.mk A90
  clear A90
  by_cases c10 : (t441 == t442) = true
  · rw [if_pos c10] at H
    have c10b0 : (t441 == t442) = true := c10
    (try (have c10b1 : decide (t441 = t442) = true := by simpa using c10))
    (try (have c10b2 : (t441 == t442) = true := by simpa using c10))
    clear c10
    by_cases c11 : t437 = t439
    · rw [if_pos c11] at H
      have c11b0 : (t437 == t439) = true := beq_iff_eq.mpr c11
      have c11b1 : (t437 != t439) = false := bne_eq_false_iff_eq.mpr c11
      clear c11
      by_cases c12 : t438 = t440
      · rw [if_pos c12] at H
        have c12b0 : (t438 == t440) = true := beq_iff_eq.mpr c12
        have c12b1 : (t438 != t440) = false := bne_eq_false_iff_eq.mpr c12
        clear c12
        replace H := Option.bind_eq_some_iff.mp H
        obtain ⟨t443, A130, H⟩ := H
        replace H : (if t443 = true then ((letterbaglaw01_awake.f k).bind fun t444 => (some t444)) else (some false)) = some true := H
        have A13 := Aside0.mk A130
        clear A130
        by_cases c14 : t443 = true
        · subst c14
          have H1 : ((letterbaglaw01_awake.f k).bind fun t444 => (some t444)) = some true := by rw [if_pos rfl] at H; exact H
          clear H
          have H := H1
          clear H1
          replace H := Option.bind_eq_some_iff.mp H
          obtain ⟨t444, A150, H⟩ := H
          replace H : (some t444) = some true := H
          have A15 := Aside0.mk A150
          clear A150
          have HT_ := Aside0.mk (Option.some.inj H)
          go_enter Tryd.func13, Tryd.ntmps13
          go_wp2_with (first | ((with_reducible refine gate_callee (f := 34) rfl ?_); refine goesL_ (some 19) rfl rfl Tryd.func34 (by kernel_rfl) rfl #[.int .i64 a0, .int .i64 a1, .int .i64 a2] rfl (by (try simp only [List.map_toArray, List.map_cons, List.map_nil]); first | done | rfl | (simp only [List.length_drop, List.length_take]; rfl)) ?_; (with_reducible refine (civil_Day.calls a0 a1 a2 t437 t438 _ ?tabG A6.out).mono ?_); (case tabG => (first | exact hg | exact ⟨hg.out.below (by repeat (first | (with_reducible first | exact HB.out | apply below_alloc | apply pw_below_drewN | apply below_drew1) | exact HB.out))⟩)); rintro e w' ⟨rfl, ⟨nd, rfl⟩⟩; refine ⟨_, rfl, ?_⟩) | ((with_reducible refine gate_callee (f := 39) rfl ?_); refine goesL_ (some 26) rfl rfl Tryd.func39 (by kernel_rfl) rfl #[.int .i64 a0, .int .i64 a1, .int .i64 a2] rfl (by (try simp only [List.map_toArray, List.map_cons, List.map_nil]); first | done | rfl | (simp only [List.length_drop, List.length_take]; rfl)) ?_; (with_reducible refine (letterbagref01_Day.calls k a0 a1 a2 t439 t440 _ A7.out).mono ?_); rintro e w' ⟨rfl, ⟨nd, rfl⟩⟩; refine ⟨_, rfl, ?_⟩) | ((with_reducible refine gate_callee (f := 35) rfl ?_); refine goesL_ (some 30) rfl rfl Tryd.func35 (by kernel_rfl) rfl #[.int .i64 a0] rfl (by (try simp only [List.map_toArray, List.map_cons, List.map_nil]); first | done | rfl | (simp only [List.length_drop, List.length_take]; rfl)) ?_; (with_reducible refine (civil_Leap.calls a0 t441 _ A8.out).mono ?_); rintro e w' ⟨rfl, ⟨nd, rfl⟩⟩; refine ⟨_, rfl, ?_⟩) | ((with_reducible refine gate_callee (f := 40) rfl ?_); refine goesL_ (some 32) rfl rfl Tryd.func40 (by kernel_rfl) rfl #[.int .i64 a0] rfl (by (try simp only [List.map_toArray, List.map_cons, List.map_nil]); first | done | rfl | (simp only [List.length_drop, List.length_take]; rfl)) ?_; (with_reducible refine (letterbagref01_Leap.calls a0 t442 _ A9.out).mono ?_); rintro e w' ⟨rfl, ⟨nd, rfl⟩⟩; refine ⟨_, rfl, ?_⟩) | (go_at_call 14; (with_reducible refine (letterbaglaw01_date.calls k a3 a4 true _ ?tabG A13.out).mono ?_); (case tabG => (first | exact hg | exact ⟨hg.out.below (by repeat (first | (with_reducible first | exact HB.out | apply below_alloc | apply pw_below_drewN | apply below_drew1) | exact HB.out))⟩)); rintro e w16 ⟨rfl, hb⟩; have n0_ := Aside0.mk (below_step (by repeat (first | (with_reducible first | exact HB.out | apply below_alloc | apply pw_below_drewN | apply below_drew1) | exact HB.out)) hb); clear HB; have HB := n0_; clear n0_; (try clear hb); (try clear hb2); (try clear hk); (try clear hi)) | (go_at_call 17; (with_reducible refine (letterbaglaw01_awake.calls k  t444 _ ?tabG A15.out).mono ?_); (case tabG => (first | exact hg | exact ⟨hg.out.below (by repeat (first | (with_reducible first | exact HB.out | apply below_alloc | apply pw_below_drewN | apply below_drew1) | exact HB.out))⟩)); rintro e w17 ⟨rfl, hb⟩; have n0_ := Aside0.mk (below_step (by repeat (first | (with_reducible first | exact HB.out | apply below_alloc | apply pw_below_drewN | apply below_drew1) | exact HB.out)) hb); clear HB; have HB := n0_; clear n0_; (try clear hb); (try clear hb2); (try clear hk); (try clear hi)))
          go_ret
          exact ⟨by first | rfl | (rw [HT_.out]; done) | (rw [HT_.out]; rfl) | (have e_ := HT_.out; simp only [e_]; done) | (have e_ := HT_.out; simp only [e_]; rfl) | (have e_ := HT_.out; simp at e_ ⊢; exact e_) | (have e_ := HT_.out; simp_all; done) | (simp [errW_none, errW_some] <;> rfl) | (simp [*, errW_none, errW_some] <;> rfl), by repeat (first | (with_reducible first | exact HB.out | apply below_alloc | apply pw_below_drewN | apply below_drew1) | exact HB.out)⟩
        · replace c14 := Bool.eq_false_iff.mpr c14
          subst c14
          have H1 : (some false) = some true := by rw [if_neg (show ¬ (false = true) by decide)] at H; exact H
          clear H
          have H := H1
          clear H1
          exact absurd H (by simp)
      · rw [if_neg c12] at H
        have c12b0 : (t438 == t440) = false := beq_eq_false_iff_ne.mpr c12
        have c12b1 : (t438 != t440) = true := bne_iff_ne.mpr c12
        exact absurd H (by simp)
    · rw [if_neg c11] at H
      have c11b0 : (t437 == t439) = false := beq_eq_false_iff_ne.mpr c11
      have c11b1 : (t437 != t439) = true := bne_iff_ne.mpr c11
      exact absurd H (by simp)
  · rw [if_neg c10] at H
    have c10b0 : (t441 == t442) = false := by simpa using c10
    (try (have c10b1 : decide (t441 = t442) = false := by simpa using c10))
    (try (have c10b2 : (t441 == t442) = false := by simpa using c10))
    (try (have c10b3 : ¬ (t441 = t442) := by simpa using c10))
    clear c10
    exact absurd H (by simp)

/-- THE ONE PURE STATEMENT of letterbaglaw01_CivilTells: yours. -/
def letterbaglaw01_CivilTells.Pure : Prop := ∀ (a0 : Int) (a1 : Int) (a2 : Int) (a3 : Int) (a4 : Int), (Lit.int .i64 a0).wf = true → (Lit.int .i64 a1).wf = true → (Lit.int .i64 a2).wf = true → (Lit.int .i64 a3).wf = true → (Lit.int .i64 a4).wf = true → ∃ k, letterbaglaw01_CivilTells.f k a0 a1 a2 a3 a4 = some true
end Go.Proofs.YtehnhedifhpalaaDoor.Cp
