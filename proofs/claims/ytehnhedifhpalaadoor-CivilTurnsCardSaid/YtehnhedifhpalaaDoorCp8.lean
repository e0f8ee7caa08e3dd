/- Functions of the given program as plain Lean functions, and proofs that the machine's calls do what these say; written by a program of this session (myprint.py, over the kit's print). -/
import Derived.Test.YtehnhedifhpalaaDoorCp0
import Derived.Test.YtehnhedifhpalaaDoorCp1
import Derived.Test.YtehnhedifhpalaaDoorCp3
namespace Go.Proofs.YtehnhedifhpalaaDoor.Cp
open Go.RowKit Go.Proofs.YtehnhedifhpalaaDoorW.PrintWords Go.Proofs.YtehnhedifhpalaaDoorW.PrintLast Go.Proofs.YtehnhedifhpalaaDoorW.PrintMore
attribute [local go_sem] max2_int min2_int max_two min_two max_three min_three max_four min_four   -- for this text's walks alone
set_option linter.unusedVariables false
set_option linter.unusedSimpArgs false

/-! ### letterbaglaw01_CivilGoes: function 6 -/
mutual
def letterbaglaw01_CivilGoes.j0 : Nat → Int → Int → Int → Int → Int → Int → Int → Bool → Option (Bool)
  | 0, _, _, _, _, _, _, _, _ => none
  | k + 1, x3, x4, x5, x6, x8, x9, x10, x63 => if x63 = true then (some false) else ((civil_Day.f x4 x5 x6).bind fun bt279 => ((civil_Day.f x4 x5 (wrap64 (x6 + 1))).bind fun bt281 => (if bt279.2 = 0 then (letterbaglaw01_CivilGoes.j1 k x4 x5 x6 x8 x9 x10 bt281.2 (bt279.1 != x3)) else (letterbaglaw01_CivilGoes.j1 k x4 x5 x6 x8 x9 x10 bt281.2 true))))
def letterbaglaw01_CivilGoes.j1 : Nat → Int → Int → Int → Int → Int → Int → Int → Bool → Option (Bool)
  | 0, _, _, _, _, _, _, _, _ => none
  | k + 1, x4, x5, x6, x8, x9, x10, x18, x85 => if x85 = true then (some false) else (if x18 = 0 then (if x8 = x4 then (if x9 = x5 then (some (x10 == (wrap64 (x6 + 1)))) else (some false)) else (some false)) else (if x10 = 1 then (if x8 = x4 then (if x9 = (wrap64 (x5 + 1)) then (if x5 < 12 then (some true) else (if x8 = (wrap64 (x4 + 1)) then (if x9 = 1 then (some (x5 == 12)) else (some false)) else (some false))) else (if x8 = (wrap64 (x4 + 1)) then (if x9 = 1 then (some (x5 == 12)) else (some false)) else (some false))) else (if x8 = (wrap64 (x4 + 1)) then (if x9 = 1 then (some (x5 == 12)) else (some false)) else (some false))) else (some false)))
end
def letterbaglaw01_CivilGoes.f (k : Nat) (a0 : Int) : Option (Bool) := (letterbaglaw01_awake.f k).bind fun t265 => (if t265 = true then ((letterbagkit_Pick.f a0 730484).bind fun t266 => ((civil_Date.f k t266).bind fun bt267 => ((civil_Date.f k (wrap64 (t266 + 1))).bind fun bt271 => ((civil_Weekday.f t266).bind fun bt275 => ((civil_Weekday.f (wrap64 (t266 + 1))).bind fun bt277 => (if (wrap64 ((wrap64 ((wrap64 (bt267.2.2.2 + bt271.2.2.2)) + bt275.2)) + bt277.2)) = 0 then (letterbaglaw01_CivilGoes.j0 k t266 bt267.1 bt267.2.1 bt267.2.2.1 bt271.1 bt271.2.1 bt271.2.2.1 (bt277.1 != (Int.tmod (wrap64 (bt275.1 + 1)) 7))) else (letterbaglaw01_CivilGoes.j0 k t266 bt267.1 bt267.2.1 bt267.2.2.1 bt271.1 bt271.2.1 bt271.2.2.1 true))))))) else (some false))
theorem letterbaglaw01_CivilGoes.mono_l : ∀ k, (∀ y0 y1 y2 y3 y4 y5 y6 y7, LeO (letterbaglaw01_CivilGoes.j0 k y0 y1 y2 y3 y4 y5 y6 y7) (letterbaglaw01_CivilGoes.j0 (k + 1) y0 y1 y2 y3 y4 y5 y6 y7)) ∧ (∀ y0 y1 y2 y3 y4 y5 y6 y7, LeO (letterbaglaw01_CivilGoes.j1 k y0 y1 y2 y3 y4 y5 y6 y7) (letterbaglaw01_CivilGoes.j1 (k + 1) y0 y1 y2 y3 y4 y5 y6 y7))
  | 0 => ⟨fun _ _ _ _ _ _ _ _ r h => by simp [letterbaglaw01_CivilGoes.j0] at h, fun _ _ _ _ _ _ _ _ r h => by simp [letterbaglaw01_CivilGoes.j1] at h⟩
  | k + 1 => by
    obtain ⟨ih0, ih1⟩ := letterbaglaw01_CivilGoes.mono_l k
    refine ⟨?_, ?_⟩
    · intro y0 y1 y2 y3 y4 y5 y6 y7
      unfold letterbaglaw01_CivilGoes.j0
      repeat' first
      | (with_reducible exact ih0 _ _ _ _ _ _ _ _)
      | (with_reducible exact ih1 _ _ _ _ _ _ _ _)
      | (with_reducible exact civil_Date.mono _ _)
      | (with_reducible exact letterbaglaw01_awake.mono _)
      | (with_reducible exact LeO.refl _)
      | (with_reducible exact LeO.none _)
      | (with_reducible refine LeO.ite ?_ ?_)
      | (with_reducible refine LeO.bind ?_ (fun _ => ?_))
      | exact ih0 _ _ _ _ _ _ _ _
      | exact ih1 _ _ _ _ _ _ _ _
      | exact civil_Date.mono _ _
      | exact letterbaglaw01_awake.mono _
      | exact LeO.none _
      | refine LeO.ite ?_ ?_
      | refine LeO.bind ?_ (fun _ => ?_)
    · intro y0 y1 y2 y3 y4 y5 y6 y7
      unfold letterbaglaw01_CivilGoes.j1
      repeat' first
      | (with_reducible exact ih0 _ _ _ _ _ _ _ _)
      | (with_reducible exact ih1 _ _ _ _ _ _ _ _)
      | (with_reducible exact civil_Date.mono _ _)
      | (with_reducible exact letterbaglaw01_awake.mono _)
      | (with_reducible exact LeO.refl _)
      | (with_reducible exact LeO.none _)
      | (with_reducible refine LeO.ite ?_ ?_)
      | (with_reducible refine LeO.bind ?_ (fun _ => ?_))
      | exact ih0 _ _ _ _ _ _ _ _
      | exact ih1 _ _ _ _ _ _ _ _
      | exact civil_Date.mono _ _
      | exact letterbaglaw01_awake.mono _
      | exact LeO.none _
      | refine LeO.ite ?_ ?_
      | refine LeO.bind ?_ (fun _ => ?_)
theorem letterbaglaw01_CivilGoes.mono : ∀ a0 k, LeO (letterbaglaw01_CivilGoes.f k a0) (letterbaglaw01_CivilGoes.f (k + 1) a0) := by
  intro a0 k
  obtain ⟨ih0, ih1⟩ := letterbaglaw01_CivilGoes.mono_l k
  unfold letterbaglaw01_CivilGoes.f
  repeat' first
      | (with_reducible exact ih0 _ _ _ _ _ _ _ _)
      | (with_reducible exact ih1 _ _ _ _ _ _ _ _)
      | (with_reducible exact civil_Date.mono _ _)
      | (with_reducible exact letterbaglaw01_awake.mono _)
      | (with_reducible exact LeO.refl _)
      | (with_reducible exact LeO.none _)
      | (with_reducible refine LeO.ite ?_ ?_)
      | (with_reducible refine LeO.bind ?_ (fun _ => ?_))
      | exact ih0 _ _ _ _ _ _ _ _
      | exact ih1 _ _ _ _ _ _ _ _
      | exact civil_Date.mono _ _
      | exact letterbaglaw01_awake.mono _
      | exact LeO.none _
      | refine LeO.ite ?_ ?_
      | refine LeO.bind ?_ (fun _ => ?_)
set_option maxHeartbeats 8000000 in
set_option maxRecDepth 100000 in
theorem letterbaglaw01_CivilGoes.calls (k : Nat) (a0 : Int) (w : World) (hg : Aside0 (Tab w)) (h : letterbaglaw01_CivilGoes.f k a0 = some true) :
    Calls Tryd.prog 6 #[.int .i64 a0] w fun e w' => e = .returned (.bool true) ∧ Below w.heap.size w w' := by
  have HB := Aside0.mk (Below.refl w.heap.size w)
  have H : ((letterbaglaw01_awake.f k).bind fun t265 => (if t265 = true then ((letterbagkit_Pick.f a0 730484).bind fun t266 => ((civil_Date.f k t266).bind fun bt267 => ((civil_Date.f k (wrap64 (t266 + 1))).bind fun bt271 => ((civil_Weekday.f t266).bind fun bt275 => ((civil_Weekday.f (wrap64 (t266 + 1))).bind fun bt277 => (if (wrap64 ((wrap64 ((wrap64 (bt267.2.2.2 + bt271.2.2.2)) + bt275.2)) + bt277.2)) = 0 then (letterbaglaw01_CivilGoes.j0 k t266 bt267.1 bt267.2.1 bt267.2.2.1 bt271.1 bt271.2.1 bt271.2.2.1 (bt277.1 != (Int.tmod (wrap64 (bt275.1 + 1)) 7))) else (letterbaglaw01_CivilGoes.j0 k t266 bt267.1 bt267.2.1 bt267.2.2.1 bt271.1 bt271.2.1 bt271.2.2.1 true))))))) else (some false))) = some true := h
  clear h
  replace H := Option.bind_eq_some_iff.mp H
  obtain ⟨t265, A20, H⟩ := H
  replace H : (if t265 = true then ((letterbagkit_Pick.f a0 730484).bind fun t266 => ((civil_Date.f k t266).bind fun bt267 => ((civil_Date.f k (wrap64 (t266 + 1))).bind fun bt271 => ((civil_Weekday.f t266).bind fun bt275 => ((civil_Weekday.f (wrap64 (t266 + 1))).bind fun bt277 => (if (wrap64 ((wrap64 ((wrap64 (bt267.2.2.2 + bt271.2.2.2)) + bt275.2)) + bt277.2)) = 0 then (letterbaglaw01_CivilGoes.j0 k t266 bt267.1 bt267.2.1 bt267.2.2.1 bt271.1 bt271.2.1 bt271.2.2.1 (bt277.1 != (Int.tmod (wrap64 (bt275.1 + 1)) 7))) else (letterbaglaw01_CivilGoes.j0 k t266 bt267.1 bt267.2.1 bt267.2.2.1 bt271.1 bt271.2.1 bt271.2.2.1 true))))))) else (some false)) = some true := H
  have A2 := Aside0.mk A20
  clear A20
  by_cases c3 : t265 = true
  · subst c3
    have H1 : ((letterbagkit_Pick.f a0 730484).bind fun t266 => ((civil_Date.f k t266).bind fun bt267 => ((civil_Date.f k (wrap64 (t266 + 1))).bind fun bt271 => ((civil_Weekday.f t266).bind fun bt275 => ((civil_Weekday.f (wrap64 (t266 + 1))).bind fun bt277 => (if (wrap64 ((wrap64 ((wrap64 (bt267.2.2.2 + bt271.2.2.2)) + bt275.2)) + bt277.2)) = 0 then (letterbaglaw01_CivilGoes.j0 k t266 bt267.1 bt267.2.1 bt267.2.2.1 bt271.1 bt271.2.1 bt271.2.2.1 (bt277.1 != (Int.tmod (wrap64 (bt275.1 + 1)) 7))) else (letterbaglaw01_CivilGoes.j0 k t266 bt267.1 bt267.2.1 bt267.2.2.1 bt271.1 bt271.2.1 bt271.2.2.1 true))))))) = some true := by rw [if_pos rfl] at H; exact H
    clear H
    have H := H1
    clear H1
    replace H := Option.bind_eq_some_iff.mp H
    obtain ⟨t266, A40, H⟩ := H
    replace H : ((civil_Date.f k t266).bind fun bt267 => ((civil_Date.f k (wrap64 (t266 + 1))).bind fun bt271 => ((civil_Weekday.f t266).bind fun bt275 => ((civil_Weekday.f (wrap64 (t266 + 1))).bind fun bt277 => (if (wrap64 ((wrap64 ((wrap64 (bt267.2.2.2 + bt271.2.2.2)) + bt275.2)) + bt277.2)) = 0 then (letterbaglaw01_CivilGoes.j0 k t266 bt267.1 bt267.2.1 bt267.2.2.1 bt271.1 bt271.2.1 bt271.2.2.1 (bt277.1 != (Int.tmod (wrap64 (bt275.1 + 1)) 7))) else (letterbaglaw01_CivilGoes.j0 k t266 bt267.1 bt267.2.1 bt267.2.2.1 bt271.1 bt271.2.1 bt271.2.2.1 true)))))) = some true := H
    have A4 := Aside0.mk A40
    clear A40
    replace H := Option.bind_eq_some_iff.mp H
    obtain ⟨⟨t267, t268, t269, t270⟩, A50, H⟩ := H
    replace H : ((civil_Date.f k (wrap64 (t266 + 1))).bind fun bt271 => ((civil_Weekday.f t266).bind fun bt275 => ((civil_Weekday.f (wrap64 (t266 + 1))).bind fun bt277 => (if (wrap64 ((wrap64 ((wrap64 (t270 + bt271.2.2.2)) + bt275.2)) + bt277.2)) = 0 then (letterbaglaw01_CivilGoes.j0 k t266 t267 t268 t269 bt271.1 bt271.2.1 bt271.2.2.1 (bt277.1 != (Int.tmod (wrap64 (bt275.1 + 1)) 7))) else (letterbaglaw01_CivilGoes.j0 k t266 t267 t268 t269 bt271.1 bt271.2.1 bt271.2.2.1 true))))) = some true := H
    have A5 := Aside0.mk A50
    clear A50
    replace H := Option.bind_eq_some_iff.mp H
    obtain ⟨⟨t271, t272, t273, t274⟩, A60, H⟩ := H
    replace H : ((civil_Weekday.f t266).bind fun bt275 => ((civil_Weekday.f (wrap64 (t266 + 1))).bind fun bt277 => (if (wrap64 ((wrap64 ((wrap64 (t270 + t274)) + bt275.2)) + bt277.2)) = 0 then (letterbaglaw01_CivilGoes.j0 k t266 t267 t268 t269 t271 t272 t273 (bt277.1 != (Int.tmod (wrap64 (bt275.1 + 1)) 7))) else (letterbaglaw01_CivilGoes.j0 k t266 t267 t268 t269 t271 t272 t273 true)))) = some true := H
    have A6 := Aside0.mk A60
    clear A60
    replace H := Option.bind_eq_some_iff.mp H
    obtain ⟨⟨t275, t276⟩, A70, H⟩ := H
    replace H : ((civil_Weekday.f (wrap64 (t266 + 1))).bind fun bt277 => (if (wrap64 ((wrap64 ((wrap64 (t270 + t274)) + t276)) + bt277.2)) = 0 then (letterbaglaw01_CivilGoes.j0 k t266 t267 t268 t269 t271 t272 t273 (bt277.1 != (Int.tmod (wrap64 (t275 + 1)) 7))) else (letterbaglaw01_CivilGoes.j0 k t266 t267 t268 t269 t271 t272 t273 true))) = some true := H
    have A7 := Aside0.mk A70
    clear A70
    replace H := Option.bind_eq_some_iff.mp H
    obtain ⟨⟨t277, t278⟩, A80, H⟩ := H
    replace H : (if (wrap64 ((wrap64 ((wrap64 (t270 + t274)) + t276)) + t278)) = 0 then (letterbaglaw01_CivilGoes.j0 k t266 t267 t268 t269 t271 t272 t273 (t277 != (Int.tmod (wrap64 (t275 + 1)) 7))) else (letterbaglaw01_CivilGoes.j0 k t266 t267 t268 t269 t271 t272 t273 true)) = some true := H
    have A8 := Aside0.mk A80
    clear A80
    have HC9 := Aside0.mk H
    clear H
    go_enter Tryd.func6, Tryd.ntmps6
    go_upto_region 8 with (first | ((with_reducible refine gate_callee (f := 17) rfl ?_); refine goesL_ (some 19) rfl rfl Tryd.func17 (by kernel_rfl) rfl #[] rfl (by (try simp only [List.map_toArray, List.map_cons, List.map_nil]); first | done | rfl | (simp only [List.length_drop, List.length_take]; rfl)) ?_; (with_reducible refine (letterbaglaw01_awake.calls k  true _ ?tabG A2.out).mono ?_); (case tabG => (first | exact hg | exact ⟨hg.out.below (by repeat (first | (with_reducible first | exact HB.out | apply below_alloc | apply pw_below_drewN | apply below_drew1) | exact HB.out))⟩)); rintro e w10 ⟨rfl, hb⟩; refine ⟨_, rfl, ?_⟩; have n0_ := Aside0.mk (below_step (by repeat (first | (with_reducible first | exact HB.out | apply below_alloc | apply pw_below_drewN | apply below_drew1) | exact HB.out)) hb); clear HB; have HB := n0_; clear n0_; (try clear hb); (try clear hb2); (try clear hk); (try clear hi)) | ((with_reducible refine gate_callee (f := 18) rfl ?_); refine goesL_ (some 22) rfl rfl Tryd.func18 (by kernel_rfl) rfl #[.int .i64 a0, .int .i64 730484] rfl (by (try simp only [List.map_toArray, List.map_cons, List.map_nil]); first | done | rfl | (simp only [List.length_drop, List.length_take]; rfl)) ?_; (with_reducible refine (letterbagkit_Pick.calls a0 730484 t266 _ A4.out).mono ?_); rintro e w' ⟨rfl, ⟨nd, rfl⟩⟩; refine ⟨_, rfl, ?_⟩) | ((with_reducible refine gate_callee (f := 19) rfl ?_); refine goesL_ (some 25) rfl rfl Tryd.func19 (by kernel_rfl) rfl #[.int .i64 t266] rfl (by (try simp only [List.map_toArray, List.map_cons, List.map_nil]); first | done | rfl | (simp only [List.length_drop, List.length_take]; rfl)) ?_; (with_reducible refine (civil_Date.calls k t266 t267 t268 t269 t270 _ ?tabG A5.out).mono ?_); (case tabG => (first | exact hg | exact ⟨hg.out.below (by repeat (first | (with_reducible first | exact HB.out | apply below_alloc | apply pw_below_drewN | apply below_drew1) | exact HB.out))⟩)); rintro e w11 ⟨rfl, hb⟩; refine ⟨_, rfl, ?_⟩; have n0_ := Aside0.mk (below_step (by repeat (first | (with_reducible first | exact HB.out | apply below_alloc | apply pw_below_drewN | apply below_drew1) | exact HB.out)) hb); clear HB; have HB := n0_; clear n0_; (try clear hb); (try clear hb2); (try clear hk); (try clear hi)) | ((with_reducible refine gate_callee (f := 19) rfl ?_); refine goesL_ (some 33) rfl rfl Tryd.func19 (by kernel_rfl) rfl #[.int .i64 (wrap64 (t266 + 1))] rfl (by (try simp only [List.map_toArray, List.map_cons, List.map_nil]); first | done | rfl | (simp only [List.length_drop, List.length_take]; rfl)) ?_; (with_reducible refine (civil_Date.calls k (wrap64 (t266 + 1)) t271 t272 t273 t274 _ ?tabG A6.out).mono ?_); (case tabG => (first | exact hg | exact ⟨hg.out.below (by repeat (first | (with_reducible first | exact HB.out | apply below_alloc | apply pw_below_drewN | apply below_drew1) | exact HB.out))⟩)); rintro e w12 ⟨rfl, hb⟩; refine ⟨_, rfl, ?_⟩; have n0_ := Aside0.mk (below_step (by repeat (first | (with_reducible first | exact HB.out | apply below_alloc | apply pw_below_drewN | apply below_drew1) | exact HB.out)) hb); clear HB; have HB := n0_; clear n0_; (try clear hb); (try clear hb2); (try clear hk); (try clear hi)) | ((with_reducible refine gate_callee (f := 20) rfl ?_); refine goesL_ (some 40) rfl rfl Tryd.func20 (by kernel_rfl) rfl #[.int .i64 t266] rfl (by (try simp only [List.map_toArray, List.map_cons, List.map_nil]); first | done | rfl | (simp only [List.length_drop, List.length_take]; rfl)) ?_; (with_reducible refine (civil_Weekday.calls t266 t275 t276 _ A7.out).mono ?_); rintro e w' ⟨rfl, ⟨nd, rfl⟩⟩; refine ⟨_, rfl, ?_⟩) | ((with_reducible refine gate_callee (f := 20) rfl ?_); refine goesL_ (some 46) rfl rfl Tryd.func20 (by kernel_rfl) rfl #[.int .i64 (wrap64 (t266 + 1))] rfl (by (try simp only [List.map_toArray, List.map_cons, List.map_nil]); first | done | rfl | (simp only [List.length_drop, List.length_take]; rfl)) ?_; (with_reducible refine (civil_Weekday.calls (wrap64 (t266 + 1)) t277 t278 _ A8.out).mono ?_); rintro e w' ⟨rfl, ⟨nd, rfl⟩⟩; refine ⟨_, rfl, ?_⟩))
    (try simp only [Act.put, List.setIfInBounds_toArray, List.set_cons_zero, List.set_cons_succ])
    go_cut [63] (fun v63 wc => ∃ (kq : Nat) (x63_8 : Bool), v63 = .bool x63_8 ∧ Aside0 (letterbaglaw01_CivilGoes.j0 kq t266 t267 t268 t269 t271 t272 t273 x63_8 = some true) ∧ Aside0 (kq ≤ k) ∧ Aside0 (Below w.heap.size w wc))
    case first =>
      have H := HC9.out
      clear HC9
      by_cases c13 : (wrap64 ((wrap64 ((wrap64 (t270 + t274)) + t276)) + t278)) = 0
      · rw [if_pos c13] at H
        have c13b0 : ((wrap64 ((wrap64 ((wrap64 (t270 + t274)) + t276)) + t278)) == 0) = true := beq_iff_eq.mpr c13
        have c13b1 : ((wrap64 ((wrap64 ((wrap64 (t270 + t274)) + t276)) + t278)) != 0) = false := bne_eq_false_iff_eq.mpr c13
        clear c13
        (first | rw [c13b0] | (simp only [i64_w, i32_w]; rw [c13b0]) | skip)
        have H' := Aside0.mk H
        clear H
        go_wp2
        go_meet
        case rel => exact ⟨_, ((t277 != (Int.tmod (wrap64 (t275 + 1)) 7))), (by first | rfl | (simp; done) | (simp [*]; done) | (simp; exact (show ∀ a_ b_ : Bool, (a_ == b_) = (!(a_ != b_)) from by decide) _ _) | (rw [Bool.eq_iff_iff]; simp; done) | (simp; rw [Bool.eq_iff_iff]; simp; done)), H', ⟨by first | omega | exact Nat.le_refl _⟩, ⟨by repeat (first | (with_reducible first | exact HB.out | apply below_alloc | apply pw_below_drewN | apply below_drew1) | exact HB.out)⟩⟩
      · rw [if_neg c13] at H
        have c13b0 : ((wrap64 ((wrap64 ((wrap64 (t270 + t274)) + t276)) + t278)) == 0) = false := beq_eq_false_iff_ne.mpr c13
        have c13b1 : ((wrap64 ((wrap64 ((wrap64 (t270 + t274)) + t276)) + t278)) != 0) = true := bne_iff_ne.mpr c13
        (first | rw [c13b0] | (simp only [i64_w, i32_w]; rw [c13b0]) | skip)
        have H' := Aside0.mk H
        clear H
        go_wp2
        go_meet
        case rel => exact ⟨_, (true), (by first | rfl | (simp; done) | (simp [*]; done) | (simp; exact (show ∀ a_ b_ : Bool, (a_ == b_) = (!(a_ != b_)) from by decide) _ _) | (rw [Bool.eq_iff_iff]; simp; done) | (simp; rw [Bool.eq_iff_iff]; simp; done)), H', ⟨by first | omega | exact Nat.le_refl _⟩, ⟨by repeat (first | (with_reducible first | exact HB.out | apply below_alloc | apply pw_below_drewN | apply below_drew1) | exact HB.out)⟩⟩
    case rest =>
      clear HC9
      try clear c1
      try clear c2
      try clear p2
      try clear c3
      try clear c6
      try clear p6
      try clear c13
      try clear c13b0
      try clear c13b1
      obtain ⟨kq, x63_8, rfl, HA, HJ8, HB⟩ := hcut
      cases kq with
      | zero => exact absurd HA.out (by simp [letterbaglaw01_CivilGoes.j0])
      | succ kj8 =>
        have H := HA.out
        clear HA
        simp only [letterbaglaw01_CivilGoes.j0] at H
        by_cases c14 : x63_8 = true
        · subst c14
          have H1 : (some false) = some true := by rw [if_pos rfl] at H; exact H
          clear H
          have H := H1
          clear H1
          exact absurd H (by simp)
        · replace c14 := Bool.eq_false_iff.mpr c14
          subst c14
          have H1 : ((civil_Day.f t267 t268 t269).bind fun bt279 => ((civil_Day.f t267 t268 (wrap64 (t269 + 1))).bind fun bt281 => (if bt279.2 = 0 then (letterbaglaw01_CivilGoes.j1 kj8 t267 t268 t269 t271 t272 t273 bt281.2 (bt279.1 != t266)) else (letterbaglaw01_CivilGoes.j1 kj8 t267 t268 t269 t271 t272 t273 bt281.2 true)))) = some true := by rw [if_neg (show ¬ (false = true) by decide)] at H; exact H
          clear H
          have H := H1
          clear H1
          replace H := Option.bind_eq_some_iff.mp H
          obtain ⟨⟨t279, t280⟩, A150, H⟩ := H
          replace H : ((civil_Day.f t267 t268 (wrap64 (t269 + 1))).bind fun bt281 => (if t280 = 0 then (letterbaglaw01_CivilGoes.j1 kj8 t267 t268 t269 t271 t272 t273 bt281.2 (t279 != t266)) else (letterbaglaw01_CivilGoes.j1 kj8 t267 t268 t269 t271 t272 t273 bt281.2 true))) = some true := H
          have A15 := Aside0.mk A150
          clear A150
          replace H := Option.bind_eq_some_iff.mp H
          obtain ⟨⟨t281, t282⟩, A160, H⟩ := H
          replace H : (if t280 = 0 then (letterbaglaw01_CivilGoes.j1 kj8 t267 t268 t269 t271 t272 t273 t282 (t279 != t266)) else (letterbaglaw01_CivilGoes.j1 kj8 t267 t268 t269 t271 t272 t273 t282 true)) = some true := H
          have A16 := Aside0.mk A160
          clear A160
          have HC17 := Aside0.mk H
          clear H
          go_upto_region 12 with (first | ((with_reducible refine gate_callee (f := 34) rfl ?_); refine goesL_ (some 68) rfl rfl Tryd.func34 (by kernel_rfl) rfl #[.int .i64 t267, .int .i64 t268, .int .i64 t269] rfl (by (try simp only [List.map_toArray, List.map_cons, List.map_nil]); first | done | rfl | (simp only [List.length_drop, List.length_take]; rfl)) ?_; (with_reducible refine (civil_Day.calls t267 t268 t269 t279 t280 _ ?tabG A15.out).mono ?_); (case tabG => (first | exact hg | exact ⟨hg.out.below (by repeat (first | (with_reducible first | exact HB.out | apply below_alloc | apply pw_below_drewN | apply below_drew1) | exact HB.out))⟩ | exact hg | exact ⟨hg.out.drewN _⟩ | exact ⟨(hg.out.drewN _).drewN _⟩ | exact ⟨hg.out.drawn (by assumption)⟩)); rintro e w' ⟨rfl, ⟨nd, rfl⟩⟩; refine ⟨_, rfl, ?_⟩) | ((with_reducible refine gate_callee (f := 34) rfl ?_); refine goesL_ (some 76) rfl rfl Tryd.func34 (by kernel_rfl) rfl #[.int .i64 t267, .int .i64 t268, .int .i64 (wrap64 (t269 + 1))] rfl (by (try simp only [List.map_toArray, List.map_cons, List.map_nil]); first | done | rfl | (simp only [List.length_drop, List.length_take]; rfl)) ?_; (with_reducible refine (civil_Day.calls t267 t268 (wrap64 (t269 + 1)) t281 t282 _ ?tabG A16.out).mono ?_); (case tabG => (first | exact hg | exact ⟨hg.out.below (by repeat (first | (with_reducible first | exact HB.out | apply below_alloc | apply pw_below_drewN | apply below_drew1) | exact HB.out))⟩ | exact hg | exact ⟨hg.out.drewN _⟩ | exact ⟨(hg.out.drewN _).drewN _⟩ | exact ⟨hg.out.drawn (by assumption)⟩)); rintro e w' ⟨rfl, ⟨nd, rfl⟩⟩; refine ⟨_, rfl, ?_⟩))
          (try simp only [Act.put, List.setIfInBounds_toArray, List.set_cons_zero, List.set_cons_succ])
          go_cut [85] (fun v85 wc => ∃ (kq : Nat) (x85_16 : Bool), v85 = .bool x85_16 ∧ Aside0 (letterbaglaw01_CivilGoes.j1 kq t267 t268 t269 t271 t272 t273 t282 x85_16 = some true) ∧ Aside0 (kq ≤ kj8) ∧ Aside0 (Below w.heap.size w wc))
          case first =>
            have H := HC17.out
            clear HC17
            by_cases c18 : t280 = 0
            · rw [if_pos c18] at H
              have c18b0 : (t280 == 0) = true := beq_iff_eq.mpr c18
              have c18b1 : (t280 != 0) = false := bne_eq_false_iff_eq.mpr c18
              clear c18
              (first | rw [c18b0] | (simp only [i64_w, i32_w]; rw [c18b0]) | skip)
              have H' := Aside0.mk H
              clear H
              go_wp2
              go_meet
              case rel => exact ⟨_, ((t279 != t266)), (by first | rfl | (simp; done) | (simp [*]; done) | (simp; exact (show ∀ a_ b_ : Bool, (a_ == b_) = (!(a_ != b_)) from by decide) _ _) | (rw [Bool.eq_iff_iff]; simp; done) | (simp; rw [Bool.eq_iff_iff]; simp; done)), H', ⟨by have := HJ8.out; first | omega | exact Nat.le_refl _⟩, ⟨by repeat (first | (with_reducible first | exact HB.out | apply below_alloc | apply pw_below_drewN | apply below_drew1) | exact HB.out)⟩⟩
            · rw [if_neg c18] at H
              have c18b0 : (t280 == 0) = false := beq_eq_false_iff_ne.mpr c18
              have c18b1 : (t280 != 0) = true := bne_iff_ne.mpr c18
              (first | rw [c18b0] | (simp only [i64_w, i32_w]; rw [c18b0]) | skip)
              have H' := Aside0.mk H
              clear H
              go_wp2
              go_meet
              case rel => exact ⟨_, (true), (by first | rfl | (simp; done) | (simp [*]; done) | (simp; exact (show ∀ a_ b_ : Bool, (a_ == b_) = (!(a_ != b_)) from by decide) _ _) | (rw [Bool.eq_iff_iff]; simp; done) | (simp; rw [Bool.eq_iff_iff]; simp; done)), H', ⟨by have := HJ8.out; first | omega | exact Nat.le_refl _⟩, ⟨by repeat (first | (with_reducible first | exact HB.out | apply below_alloc | apply pw_below_drewN | apply below_drew1) | exact HB.out)⟩⟩
          case rest =>
            clear HC17
            try clear c1
            try clear c2
            try clear p2
            try clear c3
            try clear c6
            try clear p6
            try clear c13
            try clear c13b0
            try clear c13b1
            try clear c14
            try clear c17
            try clear c18
            try clear c18b0
            try clear c18b1
            try clear p2
            try clear p6
            obtain ⟨kq, x85_16, rfl, HA, HJ16, HB⟩ := hcut
            cases kq with
            | zero => exact absurd HA.out (by simp [letterbaglaw01_CivilGoes.j1])
            | succ kj16 =>
              have H := HA.out
              clear HA
              simp only [letterbaglaw01_CivilGoes.j1] at H
              by_cases c19 : x85_16 = true
              · subst c19
                have H1 : (some false) = some true := by rw [if_pos rfl] at H; exact H
                clear H
                have H := H1
                clear H1
                exact absurd H (by simp)
              · replace c19 := Bool.eq_false_iff.mpr c19
                subst c19
                have H1 : (if t282 = 0 then (if t271 = t267 then (if t272 = t268 then (some (t273 == (wrap64 (t269 + 1)))) else (some false)) else (some false)) else (if t273 = 1 then (if t271 = t267 then (if t272 = (wrap64 (t268 + 1)) then (if t268 < 12 then (some true) else (if t271 = (wrap64 (t267 + 1)) then (if t272 = 1 then (some (t268 == 12)) else (some false)) else (some false))) else (if t271 = (wrap64 (t267 + 1)) then (if t272 = 1 then (some (t268 == 12)) else (some false)) else (some false))) else (if t271 = (wrap64 (t267 + 1)) then (if t272 = 1 then (some (t268 == 12)) else (some false)) else (some false))) else (some false))) = some true := by rw [if_neg (show ¬ (false = true) by decide)] at H; exact H
                clear H
                have H := H1
                clear H1
                by_cases c20 : t282 = 0
                · rw [if_pos c20] at H
                  have c20b0 : (t282 == 0) = true := beq_iff_eq.mpr c20
                  have c20b1 : (t282 != 0) = false := bne_eq_false_iff_eq.mpr c20
                  clear c20
                  by_cases c21 : t271 = t267
                  · rw [if_pos c21] at H
                    have c21b0 : (t271 == t267) = true := beq_iff_eq.mpr c21
                    have c21b1 : (t271 != t267) = false := bne_eq_false_iff_eq.mpr c21
                    clear c21
                    by_cases c22 : t272 = t268
                    · rw [if_pos c22] at H
                      have c22b0 : (t272 == t268) = true := beq_iff_eq.mpr c22
                      have c22b1 : (t272 != t268) = false := bne_eq_false_iff_eq.mpr c22
                      clear c22
                      have HT_ := Aside0.mk (Option.some.inj H)
                      go_wp2
                      go_ret
                      exact ⟨by first | rfl | (rw [HT_.out]; done) | (rw [HT_.out]; rfl) | (have e_ := HT_.out; simp only [e_]; done) | (have e_ := HT_.out; simp only [e_]; rfl) | (have e_ := HT_.out; simp at e_ ⊢; exact e_) | (have e_ := HT_.out; simp_all; done) | (simp [errW_none, errW_some] <;> rfl) | (simp [*, errW_none, errW_some] <;> rfl), by repeat (first | (with_reducible first | exact HB.out | apply below_alloc | apply pw_below_drewN | apply below_drew1) | exact HB.out)⟩
                    · rw [if_neg c22] at H
                      have c22b0 : (t272 == t268) = false := beq_eq_false_iff_ne.mpr c22
                      have c22b1 : (t272 != t268) = true := bne_iff_ne.mpr c22
                      exact absurd H (by simp)
                  · rw [if_neg c21] at H
                    have c21b0 : (t271 == t267) = false := beq_eq_false_iff_ne.mpr c21
                    have c21b1 : (t271 != t267) = true := bne_iff_ne.mpr c21
                    exact absurd H (by simp)
                · rw [if_neg c20] at H
                  have c20b0 : (t282 == 0) = false := beq_eq_false_iff_ne.mpr c20
                  have c20b1 : (t282 != 0) = true := bne_iff_ne.mpr c20
                  by_cases c23 : t273 = 1
                  · rw [if_pos c23] at H
                    have c23b0 : (t273 == 1) = true := beq_iff_eq.mpr c23
                    have c23b1 : (t273 != 1) = false := bne_eq_false_iff_eq.mpr c23
                    clear c23
                    by_cases c24 : t271 = t267
                    · rw [if_pos c24] at H
                      have c24b0 : (t271 == t267) = true := beq_iff_eq.mpr c24
                      have c24b1 : (t271 != t267) = false := bne_eq_false_iff_eq.mpr c24
                      clear c24
                      by_cases c25 : t272 = (wrap64 (t268 + 1))
                      · rw [if_pos c25] at H
                        have c25b0 : (t272 == (wrap64 (t268 + 1))) = true := beq_iff_eq.mpr c25
                        have c25b1 : (t272 != (wrap64 (t268 + 1))) = false := bne_eq_false_iff_eq.mpr c25
                        clear c25
                        by_cases c26 : t268 < 12
                        · rw [if_pos c26] at H
                          have c26b0 : decide (t268 < 12) = true := decide_eq_true c26
                          clear c26
                          have HT_ := Aside0.mk (Option.some.inj H)
                          go_wp2
                          go_ret
                          exact ⟨by first | rfl | (rw [HT_.out]; done) | (rw [HT_.out]; rfl) | (have e_ := HT_.out; simp only [e_]; done) | (have e_ := HT_.out; simp only [e_]; rfl) | (have e_ := HT_.out; simp at e_ ⊢; exact e_) | (have e_ := HT_.out; simp_all; done) | (simp [errW_none, errW_some] <;> rfl) | (simp [*, errW_none, errW_some] <;> rfl), by repeat (first | (with_reducible first | exact HB.out | apply below_alloc | apply pw_below_drewN | apply below_drew1) | exact HB.out)⟩
                        · rw [if_neg c26] at H
                          have c26b0 : decide (t268 < 12) = false := decide_eq_false c26
                          clear c26
                          by_cases c27 : t271 = (wrap64 (t267 + 1))
                          · rw [if_pos c27] at H
                            have c27b0 : (t271 == (wrap64 (t267 + 1))) = true := beq_iff_eq.mpr c27
                            have c27b1 : (t271 != (wrap64 (t267 + 1))) = false := bne_eq_false_iff_eq.mpr c27
                            clear c27
                            by_cases c28 : t272 = 1
                            · rw [if_pos c28] at H
                              have c28b0 : (t272 == 1) = true := beq_iff_eq.mpr c28
                              have c28b1 : (t272 != 1) = false := bne_eq_false_iff_eq.mpr c28
                              clear c28
                              have HT_ := Aside0.mk (Option.some.inj H)
                              go_wp2
                              go_ret
                              exact ⟨by first | rfl | (rw [HT_.out]; done) | (rw [HT_.out]; rfl) | (have e_ := HT_.out; simp only [e_]; done) | (have e_ := HT_.out; simp only [e_]; rfl) | (have e_ := HT_.out; simp at e_ ⊢; exact e_) | (have e_ := HT_.out; simp_all; done) | (simp [errW_none, errW_some] <;> rfl) | (simp [*, errW_none, errW_some] <;> rfl), by repeat (first | (with_reducible first | exact HB.out | apply below_alloc | apply pw_below_drewN | apply below_drew1) | exact HB.out)⟩
                            · rw [if_neg c28] at H
                              have c28b0 : (t272 == 1) = false := beq_eq_false_iff_ne.mpr c28
                              have c28b1 : (t272 != 1) = true := bne_iff_ne.mpr c28
                              exact absurd H (by simp)
                          · rw [if_neg c27] at H
                            have c27b0 : (t271 == (wrap64 (t267 + 1))) = false := beq_eq_false_iff_ne.mpr c27
                            have c27b1 : (t271 != (wrap64 (t267 + 1))) = true := bne_iff_ne.mpr c27
                            exact absurd H (by simp)
                      · rw [if_neg c25] at H
                        have c25b0 : (t272 == (wrap64 (t268 + 1))) = false := beq_eq_false_iff_ne.mpr c25
                        have c25b1 : (t272 != (wrap64 (t268 + 1))) = true := bne_iff_ne.mpr c25
                        by_cases c29 : t271 = (wrap64 (t267 + 1))
                        · rw [if_pos c29] at H
                          have c29b0 : (t271 == (wrap64 (t267 + 1))) = true := beq_iff_eq.mpr c29
                          have c29b1 : (t271 != (wrap64 (t267 + 1))) = false := bne_eq_false_iff_eq.mpr c29
                          clear c29
                          by_cases c30 : t272 = 1
                          · rw [if_pos c30] at H
                            have c30b0 : (t272 == 1) = true := beq_iff_eq.mpr c30
                            have c30b1 : (t272 != 1) = false := bne_eq_false_iff_eq.mpr c30
                            clear c30
                            have HT_ := Aside0.mk (Option.some.inj H)
                            go_wp2
                            go_ret
                            exact ⟨by first | rfl | (rw [HT_.out]; done) | (rw [HT_.out]; rfl) | (have e_ := HT_.out; simp only [e_]; done) | (have e_ := HT_.out; simp only [e_]; rfl) | (have e_ := HT_.out; simp at e_ ⊢; exact e_) | (have e_ := HT_.out; simp_all; done) | (simp [errW_none, errW_some] <;> rfl) | (simp [*, errW_none, errW_some] <;> rfl), by repeat (first | (with_reducible first | exact HB.out | apply below_alloc | apply pw_below_drewN | apply below_drew1) | exact HB.out)⟩
                          · rw [if_neg c30] at H
                            have c30b0 : (t272 == 1) = false := beq_eq_false_iff_ne.mpr c30
                            have c30b1 : (t272 != 1) = true := bne_iff_ne.mpr c30
                            exact absurd H (by simp)
                        · rw [if_neg c29] at H
                          have c29b0 : (t271 == (wrap64 (t267 + 1))) = false := beq_eq_false_iff_ne.mpr c29
                          have c29b1 : (t271 != (wrap64 (t267 + 1))) = true := bne_iff_ne.mpr c29
                          exact absurd H (by simp)
                    · rw [if_neg c24] at H
                      have c24b0 : (t271 == t267) = false := beq_eq_false_iff_ne.mpr c24
                      have c24b1 : (t271 != t267) = true := bne_iff_ne.mpr c24
                      by_cases c31 : t271 = (wrap64 (t267 + 1))
                      · rw [if_pos c31] at H
                        have c31b0 : (t271 == (wrap64 (t267 + 1))) = true := beq_iff_eq.mpr c31
                        have c31b1 : (t271 != (wrap64 (t267 + 1))) = false := bne_eq_false_iff_eq.mpr c31
                        clear c31
                        by_cases c32 : t272 = 1
                        · rw [if_pos c32] at H
                          have c32b0 : (t272 == 1) = true := beq_iff_eq.mpr c32
                          have c32b1 : (t272 != 1) = false := bne_eq_false_iff_eq.mpr c32
                          clear c32
                          have HT_ := Aside0.mk (Option.some.inj H)
                          go_wp2
                          go_ret
                          exact ⟨by first | rfl | (rw [HT_.out]; done) | (rw [HT_.out]; rfl) | (have e_ := HT_.out; simp only [e_]; done) | (have e_ := HT_.out; simp only [e_]; rfl) | (have e_ := HT_.out; simp at e_ ⊢; exact e_) | (have e_ := HT_.out; simp_all; done) | (simp [errW_none, errW_some] <;> rfl) | (simp [*, errW_none, errW_some] <;> rfl), by repeat (first | (with_reducible first | exact HB.out | apply below_alloc | apply pw_below_drewN | apply below_drew1) | exact HB.out)⟩
                        · rw [if_neg c32] at H
                          have c32b0 : (t272 == 1) = false := beq_eq_false_iff_ne.mpr c32
                          have c32b1 : (t272 != 1) = true := bne_iff_ne.mpr c32
                          exact absurd H (by simp)
                      · rw [if_neg c31] at H
                        have c31b0 : (t271 == (wrap64 (t267 + 1))) = false := beq_eq_false_iff_ne.mpr c31
                        have c31b1 : (t271 != (wrap64 (t267 + 1))) = true := bne_iff_ne.mpr c31
                        exact absurd H (by simp)
                  · rw [if_neg c23] at H
                    have c23b0 : (t273 == 1) = false := beq_eq_false_iff_ne.mpr c23
                    have c23b1 : (t273 != 1) = true := bne_iff_ne.mpr c23
                    exact absurd H (by simp)
  · replace c3 := Bool.eq_false_iff.mpr c3
    subst c3
    have H1 : (some false) = some true := by rw [if_neg (show ¬ (false = true) by decide)] at H; exact H
    clear H
    have H := H1
    clear H1
    exact absurd H (by simp)

/-- THE ONE PURE STATEMENT of letterbaglaw01_CivilGoes: yours. -/
def letterbaglaw01_CivilGoes.Pure : Prop := ∀ (a0 : Int), (Lit.int .i64 a0).wf = true → ∃ k, letterbaglaw01_CivilGoes.f k a0 = some true
/-! ### letterbaglaw01_CivilTurns: function 7 -/
def letterbaglaw01_CivilTurns.f (k : Nat) (a0 : Int) : Option (Bool) := (letterbaglaw01_awake.f k).bind fun t283 => (if t283 = true then ((letterbagkit_Pick.f a0 584388).bind fun t284 => ((civil_Date.f k t284).bind fun bt285 => ((civil_Date.f k (wrap64 (t284 + 146097))).bind fun bt289 => ((civil_Weekday.f t284).bind fun bt293 => ((civil_Weekday.f (wrap64 (t284 + 146097))).bind fun bt295 => (if (wrap64 ((wrap64 ((wrap64 (bt285.2.2.2 + bt289.2.2.2)) + bt293.2)) + bt295.2)) = 0 then (if bt289.1 = (wrap64 (bt285.1 + 400)) then (if bt289.2.1 = bt285.2.1 then (if bt289.2.2.1 = bt285.2.2.1 then (if bt293.1 = bt295.1 then ((civil_Leap.f bt285.1).bind fun t297 => ((civil_Leap.f bt289.1).bind fun t298 => (some (t297 == t298)))) else (some false)) else (some false)) else (some false)) else (some false)) else (some false))))))) else (some false))
theorem letterbaglaw01_CivilTurns.mono : ∀ a0 k, LeO (letterbaglaw01_CivilTurns.f k a0) (letterbaglaw01_CivilTurns.f (k + 1) a0) := by
  intro a0 k
  unfold letterbaglaw01_CivilTurns.f
  repeat' first
      | (with_reducible exact civil_Date.mono _ _)
      | (with_reducible exact letterbaglaw01_awake.mono _)
      | (with_reducible exact LeO.refl _)
      | (with_reducible exact LeO.none _)
      | (with_reducible refine LeO.ite ?_ ?_)
      | (with_reducible refine LeO.bind ?_ (fun _ => ?_))
      | exact civil_Date.mono _ _
      | exact letterbaglaw01_awake.mono _
      | exact LeO.none _
      | refine LeO.ite ?_ ?_
      | refine LeO.bind ?_ (fun _ => ?_)
set_option maxHeartbeats 8000000 in
set_option maxRecDepth 100000 in
theorem letterbaglaw01_CivilTurns.calls (k : Nat) (a0 : Int) (w : World) (hg : Aside0 (Tab w)) (h : letterbaglaw01_CivilTurns.f k a0 = some true) :
    Calls Tryd.prog 7 #[.int .i64 a0] w fun e w' => e = .returned (.bool true) ∧ Below w.heap.size w w' := by
  have HB := Aside0.mk (Below.refl w.heap.size w)
  have H : ((letterbaglaw01_awake.f k).bind fun t283 => (if t283 = true then ((letterbagkit_Pick.f a0 584388).bind fun t284 => ((civil_Date.f k t284).bind fun bt285 => ((civil_Date.f k (wrap64 (t284 + 146097))).bind fun bt289 => ((civil_Weekday.f t284).bind fun bt293 => ((civil_Weekday.f (wrap64 (t284 + 146097))).bind fun bt295 => (if (wrap64 ((wrap64 ((wrap64 (bt285.2.2.2 + bt289.2.2.2)) + bt293.2)) + bt295.2)) = 0 then (if bt289.1 = (wrap64 (bt285.1 + 400)) then (if bt289.2.1 = bt285.2.1 then (if bt289.2.2.1 = bt285.2.2.1 then (if bt293.1 = bt295.1 then ((civil_Leap.f bt285.1).bind fun t297 => ((civil_Leap.f bt289.1).bind fun t298 => (some (t297 == t298)))) else (some false)) else (some false)) else (some false)) else (some false)) else (some false))))))) else (some false))) = some true := h
  clear h
  replace H := Option.bind_eq_some_iff.mp H
  obtain ⟨t283, A20, H⟩ := H
  replace H : (if t283 = true then ((letterbagkit_Pick.f a0 584388).bind fun t284 => ((civil_Date.f k t284).bind fun bt285 => ((civil_Date.f k (wrap64 (t284 + 146097))).bind fun bt289 => ((civil_Weekday.f t284).bind fun bt293 => ((civil_Weekday.f (wrap64 (t284 + 146097))).bind fun bt295 => (if (wrap64 ((wrap64 ((wrap64 (bt285.2.2.2 + bt289.2.2.2)) + bt293.2)) + bt295.2)) = 0 then (if bt289.1 = (wrap64 (bt285.1 + 400)) then (if bt289.2.1 = bt285.2.1 then (if bt289.2.2.1 = bt285.2.2.1 then (if bt293.1 = bt295.1 then ((civil_Leap.f bt285.1).bind fun t297 => ((civil_Leap.f bt289.1).bind fun t298 => (some (t297 == t298)))) else (some false)) else (some false)) else (some false)) else (some false)) else (some false))))))) else (some false)) = some true := H
  have A2 := Aside0.mk A20
  clear A20
  by_cases c3 : t283 = true
  · subst c3
    have H1 : ((letterbagkit_Pick.f a0 584388).bind fun t284 => ((civil_Date.f k t284).bind fun bt285 => ((civil_Date.f k (wrap64 (t284 + 146097))).bind fun bt289 => ((civil_Weekday.f t284).bind fun bt293 => ((civil_Weekday.f (wrap64 (t284 + 146097))).bind fun bt295 => (if (wrap64 ((wrap64 ((wrap64 (bt285.2.2.2 + bt289.2.2.2)) + bt293.2)) + bt295.2)) = 0 then (if bt289.1 = (wrap64 (bt285.1 + 400)) then (if bt289.2.1 = bt285.2.1 then (if bt289.2.2.1 = bt285.2.2.1 then (if bt293.1 = bt295.1 then ((civil_Leap.f bt285.1).bind fun t297 => ((civil_Leap.f bt289.1).bind fun t298 => (some (t297 == t298)))) else (some false)) else (some false)) else (some false)) else (some false)) else (some false))))))) = some true := by rw [if_pos rfl] at H; exact H
    clear H
    have H := H1
    clear H1
    replace H := Option.bind_eq_some_iff.mp H
    obtain ⟨t284, A40, H⟩ := H
    replace H : ((civil_Date.f k t284).bind fun bt285 => ((civil_Date.f k (wrap64 (t284 + 146097))).bind fun bt289 => ((civil_Weekday.f t284).bind fun bt293 => ((civil_Weekday.f (wrap64 (t284 + 146097))).bind fun bt295 => (if (wrap64 ((wrap64 ((wrap64 (bt285.2.2.2 + bt289.2.2.2)) + bt293.2)) + bt295.2)) = 0 then (if bt289.1 = (wrap64 (bt285.1 + 400)) then (if bt289.2.1 = bt285.2.1 then (if bt289.2.2.1 = bt285.2.2.1 then (if bt293.1 = bt295.1 then ((civil_Leap.f bt285.1).bind fun t297 => ((civil_Leap.f bt289.1).bind fun t298 => (some (t297 == t298)))) else (some false)) else (some false)) else (some false)) else (some false)) else (some false)))))) = some true := H
    have A4 := Aside0.mk A40
    clear A40
    replace H := Option.bind_eq_some_iff.mp H
    obtain ⟨⟨t285, t286, t287, t288⟩, A50, H⟩ := H
    replace H : ((civil_Date.f k (wrap64 (t284 + 146097))).bind fun bt289 => ((civil_Weekday.f t284).bind fun bt293 => ((civil_Weekday.f (wrap64 (t284 + 146097))).bind fun bt295 => (if (wrap64 ((wrap64 ((wrap64 (t288 + bt289.2.2.2)) + bt293.2)) + bt295.2)) = 0 then (if bt289.1 = (wrap64 (t285 + 400)) then (if bt289.2.1 = t286 then (if bt289.2.2.1 = t287 then (if bt293.1 = bt295.1 then ((civil_Leap.f t285).bind fun t297 => ((civil_Leap.f bt289.1).bind fun t298 => (some (t297 == t298)))) else (some false)) else (some false)) else (some false)) else (some false)) else (some false))))) = some true := H
    have A5 := Aside0.mk A50
    clear A50
    replace H := Option.bind_eq_some_iff.mp H
    obtain ⟨⟨t289, t290, t291, t292⟩, A60, H⟩ := H
    replace H : ((civil_Weekday.f t284).bind fun bt293 => ((civil_Weekday.f (wrap64 (t284 + 146097))).bind fun bt295 => (if (wrap64 ((wrap64 ((wrap64 (t288 + t292)) + bt293.2)) + bt295.2)) = 0 then (if t289 = (wrap64 (t285 + 400)) then (if t290 = t286 then (if t291 = t287 then (if bt293.1 = bt295.1 then ((civil_Leap.f t285).bind fun t297 => ((civil_Leap.f t289).bind fun t298 => (some (t297 == t298)))) else (some false)) else (some false)) else (some false)) else (some false)) else (some false)))) = some true := H
    have A6 := Aside0.mk A60
    clear A60
    replace H := Option.bind_eq_some_iff.mp H
    obtain ⟨⟨t293, t294⟩, A70, H⟩ := H
    replace H : ((civil_Weekday.f (wrap64 (t284 + 146097))).bind fun bt295 => (if (wrap64 ((wrap64 ((wrap64 (t288 + t292)) + t294)) + bt295.2)) = 0 then (if t289 = (wrap64 (t285 + 400)) then (if t290 = t286 then (if t291 = t287 then (if t293 = bt295.1 then ((civil_Leap.f t285).bind fun t297 => ((civil_Leap.f t289).bind fun t298 => (some (t297 == t298)))) else (some false)) else (some false)) else (some false)) else (some false)) else (some false))) = some true := H
    have A7 := Aside0.mk A70
    clear A70
    replace H := Option.bind_eq_some_iff.mp H
    obtain ⟨⟨t295, t296⟩, A80, H⟩ := H
    replace H : (if (wrap64 ((wrap64 ((wrap64 (t288 + t292)) + t294)) + t296)) = 0 then (if t289 = (wrap64 (t285 + 400)) then (if t290 = t286 then (if t291 = t287 then (if t293 = t295 then ((civil_Leap.f t285).bind fun t297 => ((civil_Leap.f t289).bind fun t298 => (some (t297 == t298)))) else (some false)) else (some false)) else (some false)) else (some false)) else (some false)) = some true := H
    have A8 := Aside0.mk A80
    clear A80
    by_cases c9 : (wrap64 ((wrap64 ((wrap64 (t288 + t292)) + t294)) + t296)) = 0
    · rw [if_pos c9] at H
      have c9b0 : ((wrap64 ((wrap64 ((wrap64 (t288 + t292)) + t294)) + t296)) == 0) = true := beq_iff_eq.mpr c9
      have c9b1 : ((wrap64 ((wrap64 ((wrap64 (t288 + t292)) + t294)) + t296)) != 0) = false := bne_eq_false_iff_eq.mpr c9
      clear c9
      by_cases c10 : t289 = (wrap64 (t285 + 400))
      · rw [if_pos c10] at H
        have c10b0 : (t289 == (wrap64 (t285 + 400))) = true := beq_iff_eq.mpr c10
        have c10b1 : (t289 != (wrap64 (t285 + 400))) = false := bne_eq_false_iff_eq.mpr c10
        clear c10
        by_cases c11 : t290 = t286
        · rw [if_pos c11] at H
          have c11b0 : (t290 == t286) = true := beq_iff_eq.mpr c11
          have c11b1 : (t290 != t286) = false := bne_eq_false_iff_eq.mpr c11
          clear c11
          by_cases c12 : t291 = t287
          · rw [if_pos c12] at H
            have c12b0 : (t291 == t287) = true := beq_iff_eq.mpr c12
            have c12b1 : (t291 != t287) = false := bne_eq_false_iff_eq.mpr c12
            clear c12
            by_cases c13 : t293 = t295
            · rw [if_pos c13] at H
              have c13b0 : (t293 == t295) = true := beq_iff_eq.mpr c13
              have c13b1 : (t293 != t295) = false := bne_eq_false_iff_eq.mpr c13
              clear c13
              replace H := Option.bind_eq_some_iff.mp H
              obtain ⟨t297, A140, H⟩ := H
              replace H : ((civil_Leap.f t289).bind fun t298 => (some (t297 == t298))) = some true := H
              have A14 := Aside0.mk A140
              clear A140
              replace H := Option.bind_eq_some_iff.mp H
              obtain ⟨t298, A150, H⟩ := H
              replace H : (some (t297 == t298)) = some true := H
              have A15 := Aside0.mk A150
              clear A150
              have HT_ := Aside0.mk (Option.some.inj H)
              go_enter Tryd.func7, Tryd.ntmps7
              go_wp2_with (first | ((with_reducible refine gate_callee (f := 17) rfl ?_); refine goesL_ (some 16) rfl rfl Tryd.func17 (by kernel_rfl) rfl #[] rfl (by (try simp only [List.map_toArray, List.map_cons, List.map_nil]); first | done | rfl | (simp only [List.length_drop, List.length_take]; rfl)) ?_; (with_reducible refine (letterbaglaw01_awake.calls k  true _ ?tabG A2.out).mono ?_); (case tabG => (first | exact hg | exact ⟨hg.out.below (by repeat (first | (with_reducible first | exact HB.out | apply below_alloc | apply pw_below_drewN | apply below_drew1) | exact HB.out))⟩)); rintro e w16 ⟨rfl, hb⟩; refine ⟨_, rfl, ?_⟩; have n0_ := Aside0.mk (below_step (by repeat (first | (with_reducible first | exact HB.out | apply below_alloc | apply pw_below_drewN | apply below_drew1) | exact HB.out)) hb); clear HB; have HB := n0_; clear n0_; (try clear hb); (try clear hb2); (try clear hk); (try clear hi)) | ((with_reducible refine gate_callee (f := 18) rfl ?_); refine goesL_ (some 19) rfl rfl Tryd.func18 (by kernel_rfl) rfl #[.int .i64 a0, .int .i64 584388] rfl (by (try simp only [List.map_toArray, List.map_cons, List.map_nil]); first | done | rfl | (simp only [List.length_drop, List.length_take]; rfl)) ?_; (with_reducible refine (letterbagkit_Pick.calls a0 584388 t284 _ A4.out).mono ?_); rintro e w' ⟨rfl, ⟨nd, rfl⟩⟩; refine ⟨_, rfl, ?_⟩) | ((with_reducible refine gate_callee (f := 19) rfl ?_); refine goesL_ (some 22) rfl rfl Tryd.func19 (by kernel_rfl) rfl #[.int .i64 t284] rfl (by (try simp only [List.map_toArray, List.map_cons, List.map_nil]); first | done | rfl | (simp only [List.length_drop, List.length_take]; rfl)) ?_; (with_reducible refine (civil_Date.calls k t284 t285 t286 t287 t288 _ ?tabG A5.out).mono ?_); (case tabG => (first | exact hg | exact ⟨hg.out.below (by repeat (first | (with_reducible first | exact HB.out | apply below_alloc | apply pw_below_drewN | apply below_drew1) | exact HB.out))⟩)); rintro e w17 ⟨rfl, hb⟩; refine ⟨_, rfl, ?_⟩; have n0_ := Aside0.mk (below_step (by repeat (first | (with_reducible first | exact HB.out | apply below_alloc | apply pw_below_drewN | apply below_drew1) | exact HB.out)) hb); clear HB; have HB := n0_; clear n0_; (try clear hb); (try clear hb2); (try clear hk); (try clear hi)) | ((with_reducible refine gate_callee (f := 19) rfl ?_); refine goesL_ (some 30) rfl rfl Tryd.func19 (by kernel_rfl) rfl #[.int .i64 (wrap64 (t284 + 146097))] rfl (by (try simp only [List.map_toArray, List.map_cons, List.map_nil]); first | done | rfl | (simp only [List.length_drop, List.length_take]; rfl)) ?_; (with_reducible refine (civil_Date.calls k (wrap64 (t284 + 146097)) t289 t290 t291 t292 _ ?tabG A6.out).mono ?_); (case tabG => (first | exact hg | exact ⟨hg.out.below (by repeat (first | (with_reducible first | exact HB.out | apply below_alloc | apply pw_below_drewN | apply below_drew1) | exact HB.out))⟩)); rintro e w18 ⟨rfl, hb⟩; refine ⟨_, rfl, ?_⟩; have n0_ := Aside0.mk (below_step (by repeat (first | (with_reducible first | exact HB.out | apply below_alloc | apply pw_below_drewN | apply below_drew1) | exact HB.out)) hb); clear HB; have HB := n0_; clear n0_; (try clear hb); (try clear hb2); (try clear hk); (try clear hi)) | ((with_reducible refine gate_callee (f := 20) rfl ?_); refine goesL_ (some 37) rfl rfl Tryd.func20 (by kernel_rfl) rfl #[.int .i64 t284] rfl (by (try simp only [List.map_toArray, List.map_cons, List.map_nil]); first | done | rfl | (simp only [List.length_drop, List.length_take]; rfl)) ?_; (with_reducible refine (civil_Weekday.calls t284 t293 t294 _ A7.out).mono ?_); rintro e w' ⟨rfl, ⟨nd, rfl⟩⟩; refine ⟨_, rfl, ?_⟩) | ((with_reducible refine gate_callee (f := 20) rfl ?_); refine goesL_ (some 43) rfl rfl Tryd.func20 (by kernel_rfl) rfl #[.int .i64 (wrap64 (t284 + 146097))] rfl (by (try simp only [List.map_toArray, List.map_cons, List.map_nil]); first | done | rfl | (simp only [List.length_drop, List.length_take]; rfl)) ?_; (with_reducible refine (civil_Weekday.calls (wrap64 (t284 + 146097)) t295 t296 _ A8.out).mono ?_); rintro e w' ⟨rfl, ⟨nd, rfl⟩⟩; refine ⟨_, rfl, ?_⟩) | (go_at_call 35; (with_reducible refine (civil_Leap.calls t285 t297 _ A14.out).mono ?_); rintro e w' ⟨rfl, ⟨nd, rfl⟩⟩) | (go_at_call 35; (with_reducible refine (civil_Leap.calls t289 t298 _ A15.out).mono ?_); rintro e w' ⟨rfl, ⟨nd, rfl⟩⟩))
              go_ret
              exact ⟨by first | rfl | (rw [HT_.out]; done) | (rw [HT_.out]; rfl) | (have e_ := HT_.out; simp only [e_]; done) | (have e_ := HT_.out; simp only [e_]; rfl) | (have e_ := HT_.out; simp at e_ ⊢; exact e_) | (have e_ := HT_.out; simp_all; done) | (simp [errW_none, errW_some] <;> rfl) | (simp [*, errW_none, errW_some] <;> rfl), by repeat (first | (with_reducible first | exact HB.out | apply below_alloc | apply pw_below_drewN | apply below_drew1) | exact HB.out)⟩
            · rw [if_neg c13] at H
              have c13b0 : (t293 == t295) = false := beq_eq_false_iff_ne.mpr c13
              have c13b1 : (t293 != t295) = true := bne_iff_ne.mpr c13
              exact absurd H (by simp)
          · rw [if_neg c12] at H
            have c12b0 : (t291 == t287) = false := beq_eq_false_iff_ne.mpr c12
            have c12b1 : (t291 != t287) = true := bne_iff_ne.mpr c12
            exact absurd H (by simp)
        · rw [if_neg c11] at H
          have c11b0 : (t290 == t286) = false := beq_eq_false_iff_ne.mpr c11
          have c11b1 : (t290 != t286) = true := bne_iff_ne.mpr c11
          exact absurd H (by simp)
      · rw [if_neg c10] at H
        have c10b0 : (t289 == (wrap64 (t285 + 400))) = false := beq_eq_false_iff_ne.mpr c10
        have c10b1 : (t289 != (wrap64 (t285 + 400))) = true := bne_iff_ne.mpr c10
        exact absurd H (by simp)
    · rw [if_neg c9] at H
      have c9b0 : ((wrap64 ((wrap64 ((wrap64 (t288 + t292)) + t294)) + t296)) == 0) = false := beq_eq_false_iff_ne.mpr c9
      have c9b1 : ((wrap64 ((wrap64 ((wrap64 (t288 + t292)) + t294)) + t296)) != 0) = true := bne_iff_ne.mpr c9
      exact absurd H (by simp)
  · replace c3 := Bool.eq_false_iff.mpr c3
    subst c3
    have H1 : (some false) = some true := by rw [if_neg (show ¬ (false = true) by decide)] at H; exact H
    clear H
    have H := H1
    clear H1
    exact absurd H (by simp)

/-- THE ONE PURE STATEMENT of letterbaglaw01_CivilTurns: yours. -/
def letterbaglaw01_CivilTurns.Pure : Prop := ∀ (a0 : Int), (Lit.int .i64 a0).wf = true → ∃ k, letterbaglaw01_CivilTurns.f k a0 = some true
/-! ### letterbaglaw01_day: function 37 -/
def letterbaglaw01_day.f (a0 : Int) : Option (Int) := (letterbagkit_Pick.f a0 730485).bind fun t299 => (some t299)
set_option maxHeartbeats 8000000 in
set_option maxRecDepth 100000 in
theorem letterbaglaw01_day.calls (a0 : Int) (r : Int) (w : World) (h : letterbaglaw01_day.f a0 = some r) :
    Calls Tryd.prog 37 #[.int .i64 a0] w fun e w' => e = .returned (.int .i64 r) ∧ Drawn0 w w' := by
  have H : ((letterbagkit_Pick.f a0 730485).bind fun t299 => (some t299)) = some r := h
  clear h
  replace H := Option.bind_eq_some_iff.mp H
  obtain ⟨t299, A20, H⟩ := H
  replace H : (some t299) = some r := H
  have A2 := Aside0.mk A20
  clear A20
  obtain rfl := Option.some.inj H
  go_enter Tryd.func37, Tryd.ntmps37
  go_wp2_with (first | ((with_reducible refine gate_callee (f := 18) rfl ?_); refine goesL_ (some 4) rfl rfl Tryd.func18 (by kernel_rfl) rfl #[.int .i64 a0, .int .i64 730485] rfl (by (try simp only [List.map_toArray, List.map_cons, List.map_nil]); first | done | rfl | (simp only [List.length_drop, List.length_take]; rfl)) ?_; (with_reducible refine (letterbagkit_Pick.calls a0 730485 t299 _ A2.out).mono ?_); rintro e w' ⟨rfl, ⟨nd, rfl⟩⟩; refine ⟨_, rfl, ?_⟩))
  go_ret
  exact ⟨by first | rfl | (simp; done) | (simp [*]; done) | (simp; exact (show ∀ a_ b_ : Bool, (a_ == b_) = (!(a_ != b_)) from by decide) _ _), by repeat (first | exact Drawn0.refl _ | apply Drawn0.step)⟩

-- NOT PRINTED: function 8 (letterbaglaw01_CivilYearly)

/-! ### letterbaglaw01_few: function 46 -/
def letterbaglaw01_few.f (l0 : List Int) (a1 : Int) (a2 : Int) (a3 : Int) : Option (Bool) := if (l0.length : Int) ≤ 60 then (if a2 ≤ (wrap64 (a1 + 4000)) then (some (decide (a3 ≤ 1000))) else (some false)) else (some false)
set_option maxHeartbeats 8000000 in
set_option maxRecDepth 100000 in
theorem letterbaglaw01_few.calls (A0 : Option Addr) (c0 : Nat) (l0 : List Int) (a1 : Int) (a2 : Int) (a3 : Int) (r : Bool) (w : World) (hr0 : Kd.C (Kd.int .i64) w A0 l0.length l0) (hc0 : l0.length ≤ c0) (h : letterbaglaw01_few.f l0 a1 a2 a3 = some r) :
    Calls Tryd.prog 46 #[.slice A0 l0.length c0, .int .i64 a1, .int .i64 a2, .int .i64 a3] w fun e w' => e = .returned (.bool r) ∧ Drawn0 w w' := by
  have HR0 := Aside0.mk hr0
  have HC0 := Aside0.mk hc0
  clear hr0 hc0
  have H : (if (l0.length : Int) ≤ 60 then (if a2 ≤ (wrap64 (a1 + 4000)) then (some (decide (a3 ≤ 1000))) else (some false)) else (some false)) = some r := h
  clear h
  by_cases c5 : (l0.length : Int) ≤ 60
  · rw [if_pos c5] at H
    have c5b0 : decide ((l0.length : Int) ≤ 60) = true := decide_eq_true c5
    have c5b1 : decide (l0.length ≤ 60) = true := decide_eq_true (by omega)
    clear c5
    by_cases c6 : a2 ≤ (wrap64 (a1 + 4000))
    · rw [if_pos c6] at H
      have c6b0 : decide (a2 ≤ (wrap64 (a1 + 4000))) = true := decide_eq_true c6
      clear c6
      obtain rfl := Option.some.inj H
      go_enter Tryd.func46, Tryd.ntmps46
      go_wp2
      go_ret
      exact ⟨by first | rfl | (simp; done) | (simp [*]; done) | (simp; exact (show ∀ a_ b_ : Bool, (a_ == b_) = (!(a_ != b_)) from by decide) _ _), by repeat (first | exact Drawn0.refl _ | apply Drawn0.step)⟩
    · rw [if_neg c6] at H
      have c6b0 : decide (a2 ≤ (wrap64 (a1 + 4000))) = false := decide_eq_false c6
      clear c6
      obtain rfl := Option.some.inj H
      go_enter Tryd.func46, Tryd.ntmps46
      go_wp2
      go_ret
      exact ⟨by first | rfl | (simp; done) | (simp [*]; done) | (simp; exact (show ∀ a_ b_ : Bool, (a_ == b_) = (!(a_ != b_)) from by decide) _ _), by repeat (first | exact Drawn0.refl _ | apply Drawn0.step)⟩
  · rw [if_neg c5] at H
    have c5b0 : decide ((l0.length : Int) ≤ 60) = false := decide_eq_false c5
    have c5b1 : decide (l0.length ≤ 60) = false := decide_eq_false (by omega)
    clear c5
    obtain rfl := Option.some.inj H
    go_enter Tryd.func46, Tryd.ntmps46
    go_wp2
    go_ret
    exact ⟨by first | rfl | (simp; done) | (simp [*]; done) | (simp; exact (show ∀ a_ b_ : Bool, (a_ == b_) = (!(a_ != b_)) from by decide) _ _), by repeat (first | exact Drawn0.refl _ | apply Drawn0.step)⟩

/-! ### letterbagkit_mark: function 68 -/
def letterbagkit_mark.f (a0 : Int) (a1 : Int) : Option (Int) := some (wrap64 ((wrap64 (1000003 * (wrap64 (a0 + 7)))) + a1))
set_option maxHeartbeats 8000000 in
set_option maxRecDepth 100000 in
theorem letterbagkit_mark.calls (a0 : Int) (a1 : Int) (r : Int) (w : World) (h : letterbagkit_mark.f a0 a1 = some r) :
    Calls Tryd.prog 68 #[.int .i64 a0, .int .i64 a1] w fun e w' => e = .returned (.int .i64 r) ∧ Drawn0 w w' := by
  have H : (some (wrap64 ((wrap64 (1000003 * (wrap64 (a0 + 7)))) + a1))) = some r := h
  clear h
  obtain rfl := Option.some.inj H
  go_enter Tryd.func68, Tryd.ntmps68
  go_wp2
  go_ret
  exact ⟨by first | rfl | (simp; done) | (simp [*]; done) | (simp; exact (show ∀ a_ b_ : Bool, (a_ == b_) = (!(a_ != b_)) from by decide) _ _), by repeat (first | exact Drawn0.refl _ | apply Drawn0.step)⟩

/-! ### letterbagref01_Right: function 49 -/
def letterbagref01_Right.l0 : Nat → List Int → Int → Option (Bool)
  | 0, _, _ => none
  | k + 1, x0, x3 => if x3 < (x0.length : Int) then (if 0 ≤ x3 then (if (rd x0 x3) < 0 then (some false) else (if (rd x0 x3) > 730484 then (some false) else (if x3 > 0 then (if 0 ≤ (wrap64 (x3 - 1)) then (if (wrap64 (x3 - 1)) < (x0.length : Int) then (if (rd x0 (wrap64 (x3 - 1))) ≥ (rd x0 x3) then (some false) else (letterbagref01_Right.l0 k x0 (wrap64 (x3 + 1)))) else (none)) else (none)) else (letterbagref01_Right.l0 k x0 (wrap64 (x3 + 1)))))) else (none)) else (some (decide ((x0.length : Int) ≤ 1000)))
def letterbagref01_Right.f (k : Nat) (l0 : List Int) : Option (Bool) := letterbagref01_Right.l0 k l0 0
theorem letterbagref01_Right.mono_l : ∀ k, (∀ y0 y1, LeO (letterbagref01_Right.l0 k y0 y1) (letterbagref01_Right.l0 (k + 1) y0 y1))
  | 0 => fun _ _ r h => by simp [letterbagref01_Right.l0] at h
  | k + 1 => by
    have ih0 := letterbagref01_Right.mono_l k
    · intro y0 y1
      unfold letterbagref01_Right.l0
      repeat' first
      | (with_reducible exact ih0 _ _)
      | (with_reducible exact LeO.refl _)
      | (with_reducible exact LeO.none _)
      | (with_reducible refine LeO.ite ?_ ?_)
      | (with_reducible refine LeO.bind ?_ (fun _ => ?_))
      | exact ih0 _ _
      | exact LeO.none _
      | refine LeO.ite ?_ ?_
      | refine LeO.bind ?_ (fun _ => ?_)
theorem letterbagref01_Right.mono : ∀ a0 k, LeO (letterbagref01_Right.f k a0) (letterbagref01_Right.f (k + 1) a0) := by
  intro a0 k
  have ih0 := letterbagref01_Right.mono_l k
  unfold letterbagref01_Right.f
  repeat' first
      | (with_reducible exact ih0 _ _)
      | (with_reducible exact LeO.refl _)
      | (with_reducible exact LeO.none _)
      | (with_reducible refine LeO.ite ?_ ?_)
      | (with_reducible refine LeO.bind ?_ (fun _ => ?_))
      | exact ih0 _ _
      | exact LeO.none _
      | refine LeO.ite ?_ ?_
      | refine LeO.bind ?_ (fun _ => ?_)
set_option maxHeartbeats 8000000 in
set_option maxRecDepth 100000 in
theorem letterbagref01_Right.calls (k : Nat) (A0 : Option Addr) (c0 : Nat) (l0 : List Int) (r : Bool) (w : World) (hr0 : Kd.C (Kd.int .i64) w A0 l0.length l0) (hc0 : l0.length ≤ c0) (h : letterbagref01_Right.f k l0 = some r) :
    Calls Tryd.prog 49 #[.slice A0 l0.length c0] w fun e w' => e = .returned (.bool r) ∧ Drawn0 w w' := by
  have HR0 := Aside0.mk hr0
  have HC0 := Aside0.mk hc0
  clear hr0 hc0
  have H : (letterbagref01_Right.l0 k l0 0) = some r := h
  clear h
  have H' := Aside0.mk H
  clear H
  go_enter Tryd.func49, Tryd.ntmps49
  go_wp2
  repeat (go_quiet (fail); try go_wp2)
  go_loopg [3] k (fun kq v3 w' => ∃ (x3_1 : Int), v3 = .int .i64 x3_1 ∧ Aside0 (letterbagref01_Right.l0 kq l0 x3_1 = some r) ∧ Aside0 (kq ≤ k) ∧ Drawn0 w w')
  case atStart => exact ⟨(0), (by first | rfl | (simp; done) | (simp [*]; done) | (simp; exact (show ∀ a_ b_ : Bool, (a_ == b_) = (!(a_ != b_)) from by decide) _ _) | (rw [Bool.eq_iff_iff]; simp; done) | (simp; rw [Bool.eq_iff_iff]; simp; done)), H', ⟨Nat.le_refl _⟩, by repeat (first | exact Drawn0.refl _ | apply Drawn0.step)⟩
  case round =>
    clear H'
    obtain ⟨x3_1, rfl, HA, HK1, ⟨m1, rfl⟩⟩ := hrel
    cases gk with
    | zero => exact absurd HA.out (by simp [letterbagref01_Right.l0])
    | succ k1 =>
      have H := HA.out
      clear HA
      simp only [letterbagref01_Right.l0] at H
      by_cases c2 : x3_1 < (l0.length : Int)
      · rw [if_pos c2] at H
        have c2b0 : decide (x3_1 < (l0.length : Int)) = true := decide_eq_true c2
        clear c2
        by_cases c3 : 0 ≤ x3_1
        · rw [if_pos c3] at H
          have c3b0 : decide (0 ≤ x3_1) = true := decide_eq_true c3
          clear c3
          by_cases c4 : (rd l0 x3_1) < 0
          · rw [if_pos c4] at H
            have c4b0 : decide ((rd l0 x3_1) < 0) = true := decide_eq_true c4
            clear c4
            obtain rfl := Option.some.inj H
            have p301 : 0 ≤ (x3_1 : Int) := of_decide_eq_true (by first | (with_reducible assumption) | assumption)
            have q301 : x3_1 < (l0.length : Int) := of_decide_eq_true (by first | (with_reducible assumption) | assumption)
            obtain ⟨ad301, e301, hx301_0⟩ := Kd.at_int HR0.out x3_1 p301 q301
            cases e301
            replace p301 := eq_true p301
            replace q301 := eq_true q301
            go_wp2
            repeat (go_quiet (fail); try go_wp2)
            go_ret
            exact ⟨by first | rfl | (simp; done) | (simp [*]; done) | (simp; exact (show ∀ a_ b_ : Bool, (a_ == b_) = (!(a_ != b_)) from by decide) _ _), by repeat (first | exact Drawn0.refl _ | apply Drawn0.step)⟩
          · rw [if_neg c4] at H
            have c4b0 : decide ((rd l0 x3_1) < 0) = false := decide_eq_false c4
            clear c4
            by_cases c5 : (rd l0 x3_1) > 730484
            · rw [if_pos c5] at H
              have c5b0 : decide (730484 < (rd l0 x3_1)) = true := decide_eq_true c5
              clear c5
              obtain rfl := Option.some.inj H
              have p301 : 0 ≤ (x3_1 : Int) := of_decide_eq_true (by first | (with_reducible assumption) | assumption)
              have q301 : x3_1 < (l0.length : Int) := of_decide_eq_true (by first | (with_reducible assumption) | assumption)
              obtain ⟨ad301, e301, hx301_0⟩ := Kd.at_int HR0.out x3_1 p301 q301
              cases e301
              replace p301 := eq_true p301
              replace q301 := eq_true q301
              have p302 : 0 ≤ (x3_1 : Int) := of_decide_eq_true (by first | (with_reducible assumption) | assumption)
              have q302 : x3_1 < (l0.length : Int) := of_decide_eq_true (by first | (with_reducible assumption) | assumption)
              obtain ⟨ad302, e302, hx302_0⟩ := Kd.at_int HR0.out x3_1 p302 q302
              obtain rfl : ad301 = ad302 := (by injection e302)
              replace p302 := eq_true p302
              replace q302 := eq_true q302
              go_wp2
              repeat (go_quiet (fail); try go_wp2)
              go_ret
              exact ⟨by first | rfl | (simp; done) | (simp [*]; done) | (simp; exact (show ∀ a_ b_ : Bool, (a_ == b_) = (!(a_ != b_)) from by decide) _ _), by repeat (first | exact Drawn0.refl _ | apply Drawn0.step)⟩
            · rw [if_neg c5] at H
              have c5b0 : decide (730484 < (rd l0 x3_1)) = false := decide_eq_false c5
              clear c5
              by_cases c6 : x3_1 > 0
              · rw [if_pos c6] at H
                have c6b0 : decide (0 < x3_1) = true := decide_eq_true c6
                clear c6
                obtain ⟨ji7, hji7⟩ : ∃ j_ : Int, (wrap64 (x3_1 - 1)) = j_ := ⟨_, rfl⟩
                replace H : (if 0 ≤ (ji7) then (if (ji7) < (l0.length : Int) then (if (rd l0 (ji7)) ≥ (rd l0 x3_1) then (some false) else (letterbagref01_Right.l0 k1 l0 (wrap64 (x3_1 + 1)))) else (none)) else (none)) = some r := by first | (rw [hji7] at H; exact H) | (simp only [hji7] at H ⊢; exact H)
                have hji7w : (IntKind.i64.wrap (x3_1 - 1)) = ji7 := (i64_w _).trans hji7
                by_cases c8 : 0 ≤ (ji7)
                · rw [if_pos c8] at H
                  have c8b0 : decide (0 ≤ (ji7)) = true := decide_eq_true c8
                  clear c8
                  by_cases c9 : (ji7) < (l0.length : Int)
                  · rw [if_pos c9] at H
                    have c9b0 : decide ((ji7) < (l0.length : Int)) = true := decide_eq_true c9
                    clear c9
                    by_cases c10 : (rd l0 (ji7)) ≥ (rd l0 x3_1)
                    · rw [if_pos c10] at H
                      have c10b0 : decide ((rd l0 x3_1) ≤ (rd l0 (ji7))) = true := decide_eq_true c10
                      clear c10
                      obtain rfl := Option.some.inj H
                      have p301 : 0 ≤ (x3_1 : Int) := of_decide_eq_true (by first | (with_reducible assumption) | assumption)
                      have q301 : x3_1 < (l0.length : Int) := of_decide_eq_true (by first | (with_reducible assumption) | assumption)
                      obtain ⟨ad301, e301, hx301_0⟩ := Kd.at_int HR0.out x3_1 p301 q301
                      cases e301
                      replace p301 := eq_true p301
                      replace q301 := eq_true q301
                      have p302 : 0 ≤ (x3_1 : Int) := of_decide_eq_true (by first | (with_reducible assumption) | assumption)
                      have q302 : x3_1 < (l0.length : Int) := of_decide_eq_true (by first | (with_reducible assumption) | assumption)
                      obtain ⟨ad302, e302, hx302_0⟩ := Kd.at_int HR0.out x3_1 p302 q302
                      obtain rfl : ad301 = ad302 := (by injection e302)
                      replace p302 := eq_true p302
                      replace q302 := eq_true q302
                      have p303 : 0 ≤ ((ji7) : Int) := of_decide_eq_true (by first | (with_reducible assumption) | assumption)
                      have q303 : (ji7) < (l0.length : Int) := of_decide_eq_true (by first | (with_reducible assumption) | assumption)
                      obtain ⟨ad303, e303, hx303_0⟩ := Kd.at_int HR0.out (ji7) p303 q303
                      obtain rfl : ad301 = ad303 := (by injection e303)
                      replace p303 := eq_true p303
                      replace q303 := eq_true q303
                      have p304 : 0 ≤ (x3_1 : Int) := of_decide_eq_true (by first | (with_reducible assumption) | assumption)
                      have q304 : x3_1 < (l0.length : Int) := of_decide_eq_true (by first | (with_reducible assumption) | assumption)
                      obtain ⟨ad304, e304, hx304_0⟩ := Kd.at_int HR0.out x3_1 p304 q304
                      obtain rfl : ad301 = ad304 := (by injection e304)
                      replace p304 := eq_true p304
                      replace q304 := eq_true q304
                      go_wp2
                      repeat (go_quiet (fail); try go_wp2)
                      go_ret
                      exact ⟨by first | rfl | (simp; done) | (simp only [← hji7] <;> (first | rfl | simp)) | (simp [*]; done) | (simp; exact (show ∀ a_ b_ : Bool, (a_ == b_) = (!(a_ != b_)) from by decide) _ _), by repeat (first | exact Drawn0.refl _ | apply Drawn0.step)⟩
                    · rw [if_neg c10] at H
                      have c10b0 : decide ((rd l0 x3_1) ≤ (rd l0 (ji7))) = false := decide_eq_false c10
                      clear c10
                      have H' := Aside0.mk H
                      clear H
                      have p301 : 0 ≤ (x3_1 : Int) := of_decide_eq_true (by first | (with_reducible assumption) | assumption)
                      have q301 : x3_1 < (l0.length : Int) := of_decide_eq_true (by first | (with_reducible assumption) | assumption)
                      obtain ⟨ad301, e301, hx301_0⟩ := Kd.at_int HR0.out x3_1 p301 q301
                      cases e301
                      replace p301 := eq_true p301
                      replace q301 := eq_true q301
                      have p302 : 0 ≤ (x3_1 : Int) := of_decide_eq_true (by first | (with_reducible assumption) | assumption)
                      have q302 : x3_1 < (l0.length : Int) := of_decide_eq_true (by first | (with_reducible assumption) | assumption)
                      obtain ⟨ad302, e302, hx302_0⟩ := Kd.at_int HR0.out x3_1 p302 q302
                      obtain rfl : ad301 = ad302 := (by injection e302)
                      replace p302 := eq_true p302
                      replace q302 := eq_true q302
                      have p303 : 0 ≤ ((ji7) : Int) := of_decide_eq_true (by first | (with_reducible assumption) | assumption)
                      have q303 : (ji7) < (l0.length : Int) := of_decide_eq_true (by first | (with_reducible assumption) | assumption)
                      obtain ⟨ad303, e303, hx303_0⟩ := Kd.at_int HR0.out (ji7) p303 q303
                      obtain rfl : ad301 = ad303 := (by injection e303)
                      replace p303 := eq_true p303
                      replace q303 := eq_true q303
                      have p304 : 0 ≤ (x3_1 : Int) := of_decide_eq_true (by first | (with_reducible assumption) | assumption)
                      have q304 : x3_1 < (l0.length : Int) := of_decide_eq_true (by first | (with_reducible assumption) | assumption)
                      obtain ⟨ad304, e304, hx304_0⟩ := Kd.at_int HR0.out x3_1 p304 q304
                      obtain rfl : ad301 = ad304 := (by injection e304)
                      replace p304 := eq_true p304
                      replace q304 := eq_true q304
                      go_wp2
                      repeat (go_quiet (fail); try go_wp2)
                      go_roundg k1
                      case measure => have := HK1.out; omega
                      case rel => exact ⟨(wrap64 (x3_1 + 1)), (by first | rfl | (simp; done) | (simp [*]; done) | (simp; exact (show ∀ a_ b_ : Bool, (a_ == b_) = (!(a_ != b_)) from by decide) _ _) | (rw [Bool.eq_iff_iff]; simp; done) | (simp; rw [Bool.eq_iff_iff]; simp; done)), H', ⟨by have := HK1.out; omega⟩, by repeat (first | exact Drawn0.refl _ | apply Drawn0.step)⟩
                  · rw [if_neg c9] at H
                    exact absurd H (by simp)
                · rw [if_neg c8] at H
                  exact absurd H (by simp)
              · rw [if_neg c6] at H
                have c6b0 : decide (0 < x3_1) = false := decide_eq_false c6
                clear c6
                have H' := Aside0.mk H
                clear H
                have p301 : 0 ≤ (x3_1 : Int) := of_decide_eq_true (by first | (with_reducible assumption) | assumption)
                have q301 : x3_1 < (l0.length : Int) := of_decide_eq_true (by first | (with_reducible assumption) | assumption)
                obtain ⟨ad301, e301, hx301_0⟩ := Kd.at_int HR0.out x3_1 p301 q301
                cases e301
                replace p301 := eq_true p301
                replace q301 := eq_true q301
                have p302 : 0 ≤ (x3_1 : Int) := of_decide_eq_true (by first | (with_reducible assumption) | assumption)
                have q302 : x3_1 < (l0.length : Int) := of_decide_eq_true (by first | (with_reducible assumption) | assumption)
                obtain ⟨ad302, e302, hx302_0⟩ := Kd.at_int HR0.out x3_1 p302 q302
                obtain rfl : ad301 = ad302 := (by injection e302)
                replace p302 := eq_true p302
                replace q302 := eq_true q302
                go_wp2
                repeat (go_quiet (fail); try go_wp2)
                go_roundg k1
                case measure => have := HK1.out; omega
                case rel => exact ⟨(wrap64 (x3_1 + 1)), (by first | rfl | (simp; done) | (simp [*]; done) | (simp; exact (show ∀ a_ b_ : Bool, (a_ == b_) = (!(a_ != b_)) from by decide) _ _) | (rw [Bool.eq_iff_iff]; simp; done) | (simp; rw [Bool.eq_iff_iff]; simp; done)), H', ⟨by have := HK1.out; omega⟩, by repeat (first | exact Drawn0.refl _ | apply Drawn0.step)⟩
        · rw [if_neg c3] at H
          exact absurd H (by simp)
      · rw [if_neg c2] at H
        have c2b0 : decide (x3_1 < (l0.length : Int)) = false := decide_eq_false c2
        clear c2
        obtain rfl := Option.some.inj H
        go_wp2
        repeat (go_quiet (fail); try go_wp2)
        go_ret
        exact ⟨by first | rfl | (simp; done) | (simp [*]; done) | (simp; exact (show ∀ a_ b_ : Bool, (a_ == b_) = (!(a_ != b_)) from by decide) _ _), by repeat (first | exact Drawn0.refl _ | apply Drawn0.step)⟩

end Go.Proofs.YtehnhedifhpalaaDoor.Cp
