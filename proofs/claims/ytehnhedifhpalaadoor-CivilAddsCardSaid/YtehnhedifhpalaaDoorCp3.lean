/- Functions of the given program as plain Lean functions, and proofs that the machine's calls do what these say; written by a program of this session (myprint.py, over the kit's print). -/
import Derived.Test.YtehnhedifhpalaaDoorCp0
import Derived.Test.YtehnhedifhpalaaDoorCp1
import Derived.Test.YtehnhedifhpalaaDoorCp2
import Derived.Test.YtehnhedifhpalaaDoorCt
import Derived.Test.YtehnhedifhpalaaDoorCb
namespace Go.Proofs.YtehnhedifhpalaaDoor.Cp
open Go.RowKit Go.Proofs.YtehnhedifhpalaaDoorW.PrintWords Go.Proofs.YtehnhedifhpalaaDoorW.PrintLast Go.Proofs.YtehnhedifhpalaaDoorW.PrintMore
attribute [local go_sem] max2_int min2_int max_two min_two max_three min_three max_four min_four   -- for this text's walks alone
set_option linter.unusedVariables false
set_option linter.unusedSimpArgs false

/-! ### letterbaglaw01_awake: function 17 -/
mutual
def letterbaglaw01_awake.j0 : Nat → Bool → Option (Bool)
  | 0, _ => none
  | k + 1, x66 => if x66 = true then (some false) else ((civil_Weekday.f 5).bind fun bt142 => ((civil_Text.f k 59).bind fun bt144 => ((civil_ReadTime.f k (⟨#[50, 48, 48, 49, 45, 48, 49, 45, 48, 50, 32, 48, 48, 58, 48, 49]⟩ : ByteArray)).bind fun bt146 => ((civil_Between.f 0 7 (([1] : List Int))).bind fun bt151 => (if bt142.1 = 5 then (if bt144.1.toList = ([50, 48, 48, 49, 45, 48, 51, 45, 48, 49] : List UInt8) then (if bt146.1 = 1441 then (if bt151.1 = 4 then (letterbaglaw01_awake.j1 k ((wrap64 ((wrap64 ((wrap64 (bt142.2 + bt144.2)) + bt146.2)) + bt151.2)) != 0)) else (letterbaglaw01_awake.j1 k true)) else (letterbaglaw01_awake.j1 k true)) else (letterbaglaw01_awake.j1 k true)) else (letterbaglaw01_awake.j1 k true))))))
def letterbaglaw01_awake.j1 : Nat → Bool → Option (Bool)
  | 0, _ => none
  | k + 1, x107 => if x107 = true then (some false) else ((civil_Ahead.f k 0 1 (([1] : List Int))).bind fun bt156 => ((civil_Ahead.f k 5 0 ([] : List Int)).bind fun bt158 => ((civil_Yearly.f k 364 1201 228).bind fun bt160 => ((civil_Yearly.f k 59 1201 228).bind fun bt162 => (if bt156.1 = 2 then (if bt158.1 = 7 then (if bt160.1 = true then (if bt162.1 = true then (some false) else (some ((wrap64 ((wrap64 ((wrap64 (bt156.2 + bt158.2)) + bt160.2)) + bt162.2)) == 0))) else (some false)) else (some false)) else (some false))))))
end
def letterbaglaw01_awake.f (k : Nat)  : Option (Bool) := (civil_Day.f 2001 1 1).bind fun bt132 => ((civil_Day.f 2004 2 29).bind fun bt134 => ((civil_Day.f 2100 2 29).bind fun bt136 => ((civil_Date.f k 1461).bind fun bt138 => (if bt132.1 = 0 then (if bt134.1 = 1154 then (if (wrap64 ((wrap64 (bt132.2 + bt134.2)) + bt138.2.2.2)) = 0 then (if bt136.2 = 10 then (if bt138.1 = 2005 then (if bt138.2.1 = 1 then (letterbaglaw01_awake.j0 k (bt138.2.2.1 != 1)) else (letterbaglaw01_awake.j0 k true)) else (letterbaglaw01_awake.j0 k true)) else (letterbaglaw01_awake.j0 k true)) else (letterbaglaw01_awake.j0 k true)) else (letterbaglaw01_awake.j0 k true)) else (letterbaglaw01_awake.j0 k true)))))
theorem letterbaglaw01_awake.mono_l : ∀ k, (∀ y0, LeO (letterbaglaw01_awake.j0 k y0) (letterbaglaw01_awake.j0 (k + 1) y0)) ∧ (∀ y0, LeO (letterbaglaw01_awake.j1 k y0) (letterbaglaw01_awake.j1 (k + 1) y0))
  | 0 => ⟨fun _ r h => by simp [letterbaglaw01_awake.j0] at h, fun _ r h => by simp [letterbaglaw01_awake.j1] at h⟩
  | k + 1 => by
    obtain ⟨ih0, ih1⟩ := letterbaglaw01_awake.mono_l k
    refine ⟨?_, ?_⟩
    · intro y0
      unfold letterbaglaw01_awake.j0
      repeat' first
      | (with_reducible exact ih0 _)
      | (with_reducible exact ih1 _)
      | (with_reducible exact civil_Ahead.mono _ _ _ _)
      | (with_reducible exact civil_Date.mono _ _)
      | (with_reducible exact civil_ReadTime.mono _ _)
      | (with_reducible exact civil_Text.mono _ _)
      | (with_reducible exact civil_Yearly.mono _ _ _ _)
      | (with_reducible exact LeO.refl _)
      | (with_reducible exact LeO.none _)
      | (with_reducible refine LeO.ite ?_ ?_)
      | (with_reducible refine LeO.bind ?_ (fun _ => ?_))
      | exact ih0 _
      | exact ih1 _
      | exact civil_Ahead.mono _ _ _ _
      | exact civil_Date.mono _ _
      | exact civil_ReadTime.mono _ _
      | exact civil_Text.mono _ _
      | exact civil_Yearly.mono _ _ _ _
      | exact LeO.none _
      | refine LeO.ite ?_ ?_
      | refine LeO.bind ?_ (fun _ => ?_)
    · intro y0
      unfold letterbaglaw01_awake.j1
      repeat' first
      | (with_reducible exact ih0 _)
      | (with_reducible exact ih1 _)
      | (with_reducible exact civil_Ahead.mono _ _ _ _)
      | (with_reducible exact civil_Date.mono _ _)
      | (with_reducible exact civil_ReadTime.mono _ _)
      | (with_reducible exact civil_Text.mono _ _)
      | (with_reducible exact civil_Yearly.mono _ _ _ _)
      | (with_reducible exact LeO.refl _)
      | (with_reducible exact LeO.none _)
      | (with_reducible refine LeO.ite ?_ ?_)
      | (with_reducible refine LeO.bind ?_ (fun _ => ?_))
      | exact ih0 _
      | exact ih1 _
      | exact civil_Ahead.mono _ _ _ _
      | exact civil_Date.mono _ _
      | exact civil_ReadTime.mono _ _
      | exact civil_Text.mono _ _
      | exact civil_Yearly.mono _ _ _ _
      | exact LeO.none _
      | refine LeO.ite ?_ ?_
      | refine LeO.bind ?_ (fun _ => ?_)
theorem letterbaglaw01_awake.mono : ∀ k, LeO (letterbaglaw01_awake.f k ) (letterbaglaw01_awake.f (k + 1) ) := by
  intro  k
  obtain ⟨ih0, ih1⟩ := letterbaglaw01_awake.mono_l k
  unfold letterbaglaw01_awake.f
  repeat' first
      | (with_reducible exact ih0 _)
      | (with_reducible exact ih1 _)
      | (with_reducible exact civil_Ahead.mono _ _ _ _)
      | (with_reducible exact civil_Date.mono _ _)
      | (with_reducible exact civil_ReadTime.mono _ _)
      | (with_reducible exact civil_Text.mono _ _)
      | (with_reducible exact civil_Yearly.mono _ _ _ _)
      | (with_reducible exact LeO.refl _)
      | (with_reducible exact LeO.none _)
      | (with_reducible refine LeO.ite ?_ ?_)
      | (with_reducible refine LeO.bind ?_ (fun _ => ?_))
      | exact ih0 _
      | exact ih1 _
      | exact civil_Ahead.mono _ _ _ _
      | exact civil_Date.mono _ _
      | exact civil_ReadTime.mono _ _
      | exact civil_Text.mono _ _
      | exact civil_Yearly.mono _ _ _ _
      | exact LeO.none _
      | refine LeO.ite ?_ ?_
      | refine LeO.bind ?_ (fun _ => ?_)
set_option maxHeartbeats 8000000 in
set_option maxRecDepth 100000 in
theorem letterbaglaw01_awake.calls (k : Nat)  (r : Bool) (w : World) (hg : Aside0 (Tab w)) (h : letterbaglaw01_awake.f k  = some r) :
    Calls Tryd.prog 17 #[] w fun e w' => e = .returned (.bool r) ∧ Below w.heap.size w w' := by
  have HB := Aside0.mk (Below.refl w.heap.size w)
  have H : ((civil_Day.f 2001 1 1).bind fun bt132 => ((civil_Day.f 2004 2 29).bind fun bt134 => ((civil_Day.f 2100 2 29).bind fun bt136 => ((civil_Date.f k 1461).bind fun bt138 => (if bt132.1 = 0 then (if bt134.1 = 1154 then (if (wrap64 ((wrap64 (bt132.2 + bt134.2)) + bt138.2.2.2)) = 0 then (if bt136.2 = 10 then (if bt138.1 = 2005 then (if bt138.2.1 = 1 then (letterbaglaw01_awake.j0 k (bt138.2.2.1 != 1)) else (letterbaglaw01_awake.j0 k true)) else (letterbaglaw01_awake.j0 k true)) else (letterbaglaw01_awake.j0 k true)) else (letterbaglaw01_awake.j0 k true)) else (letterbaglaw01_awake.j0 k true)) else (letterbaglaw01_awake.j0 k true)))))) = some r := h
  clear h
  replace H := Option.bind_eq_some_iff.mp H
  obtain ⟨⟨t132, t133⟩, A10, H⟩ := H
  replace H : ((civil_Day.f 2004 2 29).bind fun bt134 => ((civil_Day.f 2100 2 29).bind fun bt136 => ((civil_Date.f k 1461).bind fun bt138 => (if t132 = 0 then (if bt134.1 = 1154 then (if (wrap64 ((wrap64 (t133 + bt134.2)) + bt138.2.2.2)) = 0 then (if bt136.2 = 10 then (if bt138.1 = 2005 then (if bt138.2.1 = 1 then (letterbaglaw01_awake.j0 k (bt138.2.2.1 != 1)) else (letterbaglaw01_awake.j0 k true)) else (letterbaglaw01_awake.j0 k true)) else (letterbaglaw01_awake.j0 k true)) else (letterbaglaw01_awake.j0 k true)) else (letterbaglaw01_awake.j0 k true)) else (letterbaglaw01_awake.j0 k true))))) = some r := H
  have A1 := Aside0.mk A10
  clear A10
  replace H := Option.bind_eq_some_iff.mp H
  obtain ⟨⟨t134, t135⟩, A20, H⟩ := H
  replace H : ((civil_Day.f 2100 2 29).bind fun bt136 => ((civil_Date.f k 1461).bind fun bt138 => (if t132 = 0 then (if t134 = 1154 then (if (wrap64 ((wrap64 (t133 + t135)) + bt138.2.2.2)) = 0 then (if bt136.2 = 10 then (if bt138.1 = 2005 then (if bt138.2.1 = 1 then (letterbaglaw01_awake.j0 k (bt138.2.2.1 != 1)) else (letterbaglaw01_awake.j0 k true)) else (letterbaglaw01_awake.j0 k true)) else (letterbaglaw01_awake.j0 k true)) else (letterbaglaw01_awake.j0 k true)) else (letterbaglaw01_awake.j0 k true)) else (letterbaglaw01_awake.j0 k true)))) = some r := H
  have A2 := Aside0.mk A20
  clear A20
  replace H := Option.bind_eq_some_iff.mp H
  obtain ⟨⟨t136, t137⟩, A30, H⟩ := H
  replace H : ((civil_Date.f k 1461).bind fun bt138 => (if t132 = 0 then (if t134 = 1154 then (if (wrap64 ((wrap64 (t133 + t135)) + bt138.2.2.2)) = 0 then (if t137 = 10 then (if bt138.1 = 2005 then (if bt138.2.1 = 1 then (letterbaglaw01_awake.j0 k (bt138.2.2.1 != 1)) else (letterbaglaw01_awake.j0 k true)) else (letterbaglaw01_awake.j0 k true)) else (letterbaglaw01_awake.j0 k true)) else (letterbaglaw01_awake.j0 k true)) else (letterbaglaw01_awake.j0 k true)) else (letterbaglaw01_awake.j0 k true))) = some r := H
  have A3 := Aside0.mk A30
  clear A30
  replace H := Option.bind_eq_some_iff.mp H
  obtain ⟨⟨t138, t139, t140, t141⟩, A40, H⟩ := H
  replace H : (if t132 = 0 then (if t134 = 1154 then (if (wrap64 ((wrap64 (t133 + t135)) + t141)) = 0 then (if t137 = 10 then (if t138 = 2005 then (if t139 = 1 then (letterbaglaw01_awake.j0 k (t140 != 1)) else (letterbaglaw01_awake.j0 k true)) else (letterbaglaw01_awake.j0 k true)) else (letterbaglaw01_awake.j0 k true)) else (letterbaglaw01_awake.j0 k true)) else (letterbaglaw01_awake.j0 k true)) else (letterbaglaw01_awake.j0 k true)) = some r := H
  have A4 := Aside0.mk A40
  clear A40
  have HC5 := Aside0.mk H
  clear H
  go_enter Tryd.func17, Tryd.ntmps17
  go_upto_region 5 with (first | ((with_reducible refine gate_callee (f := 34) rfl ?_); refine goesL_ (some 20) rfl rfl Tryd.func34 (by kernel_rfl) rfl #[.int .i64 2001, .int .i64 1, .int .i64 1] rfl (by (try simp only [List.map_toArray, List.map_cons, List.map_nil]); first | done | rfl | (simp only [List.length_drop, List.length_take]; rfl)) ?_; (with_reducible refine (civil_Day.calls 2001 1 1 t132 t133 _ ?tabG A1.out).mono ?_); (case tabG => (first | exact hg | exact ⟨hg.out.below (by repeat (first | (with_reducible first | exact HB.out | apply below_alloc | apply pw_below_drewN | apply below_drew1) | exact HB.out))⟩)); rintro e w' ⟨rfl, ⟨nd, rfl⟩⟩; refine ⟨_, rfl, ?_⟩) | ((with_reducible refine gate_callee (f := 34) rfl ?_); refine goesL_ (some 24) rfl rfl Tryd.func34 (by kernel_rfl) rfl #[.int .i64 2004, .int .i64 2, .int .i64 29] rfl (by (try simp only [List.map_toArray, List.map_cons, List.map_nil]); first | done | rfl | (simp only [List.length_drop, List.length_take]; rfl)) ?_; (with_reducible refine (civil_Day.calls 2004 2 29 t134 t135 _ ?tabG A2.out).mono ?_); (case tabG => (first | exact hg | exact ⟨hg.out.below (by repeat (first | (with_reducible first | exact HB.out | apply below_alloc | apply pw_below_drewN | apply below_drew1) | exact HB.out))⟩)); rintro e w' ⟨rfl, ⟨nd, rfl⟩⟩; refine ⟨_, rfl, ?_⟩) | ((with_reducible refine gate_callee (f := 34) rfl ?_); refine goesL_ (some 28) rfl rfl Tryd.func34 (by kernel_rfl) rfl #[.int .i64 2100, .int .i64 2, .int .i64 29] rfl (by (try simp only [List.map_toArray, List.map_cons, List.map_nil]); first | done | rfl | (simp only [List.length_drop, List.length_take]; rfl)) ?_; (with_reducible refine (civil_Day.calls 2100 2 29 t136 t137 _ ?tabG A3.out).mono ?_); (case tabG => (first | exact hg | exact ⟨hg.out.below (by repeat (first | (with_reducible first | exact HB.out | apply below_alloc | apply pw_below_drewN | apply below_drew1) | exact HB.out))⟩)); rintro e w' ⟨rfl, ⟨nd, rfl⟩⟩; refine ⟨_, rfl, ?_⟩) | ((with_reducible refine gate_callee (f := 19) rfl ?_); refine goesL_ (some 32) rfl rfl Tryd.func19 (by kernel_rfl) rfl #[.int .i64 1461] rfl (by (try simp only [List.map_toArray, List.map_cons, List.map_nil]); first | done | rfl | (simp only [List.length_drop, List.length_take]; rfl)) ?_; (with_reducible refine (civil_Date.calls k 1461 t138 t139 t140 t141 _ ?tabG A4.out).mono ?_); (case tabG => (first | exact hg | exact ⟨hg.out.below (by repeat (first | (with_reducible first | exact HB.out | apply below_alloc | apply pw_below_drewN | apply below_drew1) | exact HB.out))⟩)); rintro e w6 ⟨rfl, hb⟩; refine ⟨_, rfl, ?_⟩; have n0_ := Aside0.mk (below_step (by repeat (first | (with_reducible first | exact HB.out | apply below_alloc | apply pw_below_drewN | apply below_drew1) | exact HB.out)) hb); clear HB; have HB := n0_; clear n0_; (try clear hb); (try clear hb2); (try clear hk); (try clear hi)))
  (try simp only [Act.put, List.setIfInBounds_toArray, List.set_cons_zero, List.set_cons_succ])
  go_cut [66] (fun v66 wc => ∃ (kq : Nat) (x66_4 : Bool), v66 = .bool x66_4 ∧ Aside0 (letterbaglaw01_awake.j0 kq x66_4 = some r) ∧ Aside0 (kq ≤ k) ∧ Aside0 (Below w.heap.size w wc))
  case first =>
    have H := HC5.out
    clear HC5
    by_cases c7 : t132 = 0
    · rw [if_pos c7] at H
      have c7b0 : (t132 == 0) = true := beq_iff_eq.mpr c7
      have c7b1 : (t132 != 0) = false := bne_eq_false_iff_eq.mpr c7
      clear c7
      (first | rw [c7b0] | (simp only [i64_w, i32_w]; rw [c7b0]) | skip)
      by_cases c8 : t134 = 1154
      · rw [if_pos c8] at H
        have c8b0 : (t134 == 1154) = true := beq_iff_eq.mpr c8
        have c8b1 : (t134 != 1154) = false := bne_eq_false_iff_eq.mpr c8
        clear c8
        by_cases c9 : (wrap64 ((wrap64 (t133 + t135)) + t141)) = 0
        · rw [if_pos c9] at H
          have c9b0 : ((wrap64 ((wrap64 (t133 + t135)) + t141)) == 0) = true := beq_iff_eq.mpr c9
          have c9b1 : ((wrap64 ((wrap64 (t133 + t135)) + t141)) != 0) = false := bne_eq_false_iff_eq.mpr c9
          clear c9
          by_cases c10 : t137 = 10
          · rw [if_pos c10] at H
            have c10b0 : (t137 == 10) = true := beq_iff_eq.mpr c10
            have c10b1 : (t137 != 10) = false := bne_eq_false_iff_eq.mpr c10
            clear c10
            by_cases c11 : t138 = 2005
            · rw [if_pos c11] at H
              have c11b0 : (t138 == 2005) = true := beq_iff_eq.mpr c11
              have c11b1 : (t138 != 2005) = false := bne_eq_false_iff_eq.mpr c11
              clear c11
              by_cases c12 : t139 = 1
              · rw [if_pos c12] at H
                have c12b0 : (t139 == 1) = true := beq_iff_eq.mpr c12
                have c12b1 : (t139 != 1) = false := bne_eq_false_iff_eq.mpr c12
                clear c12
                have H' := Aside0.mk H
                clear H
                go_wp2
                go_meet
                case rel => exact ⟨_, ((t140 != 1)), (by first | rfl | (simp; done) | (simp [*]; done) | (simp; exact (show ∀ a_ b_ : Bool, (a_ == b_) = (!(a_ != b_)) from by decide) _ _) | (rw [Bool.eq_iff_iff]; simp; done) | (simp; rw [Bool.eq_iff_iff]; simp; done)), H', ⟨by first | omega | exact Nat.le_refl _⟩, ⟨by repeat (first | (with_reducible first | exact HB.out | apply below_alloc | apply pw_below_drewN | apply below_drew1) | exact HB.out)⟩⟩
              · rw [if_neg c12] at H
                have c12b0 : (t139 == 1) = false := beq_eq_false_iff_ne.mpr c12
                have c12b1 : (t139 != 1) = true := bne_iff_ne.mpr c12
                have H' := Aside0.mk H
                clear H
                go_wp2
                go_meet
                case rel => exact ⟨_, (true), (by first | rfl | (simp; done) | (simp [*]; done) | (simp; exact (show ∀ a_ b_ : Bool, (a_ == b_) = (!(a_ != b_)) from by decide) _ _) | (rw [Bool.eq_iff_iff]; simp; done) | (simp; rw [Bool.eq_iff_iff]; simp; done)), H', ⟨by first | omega | exact Nat.le_refl _⟩, ⟨by repeat (first | (with_reducible first | exact HB.out | apply below_alloc | apply pw_below_drewN | apply below_drew1) | exact HB.out)⟩⟩
            · rw [if_neg c11] at H
              have c11b0 : (t138 == 2005) = false := beq_eq_false_iff_ne.mpr c11
              have c11b1 : (t138 != 2005) = true := bne_iff_ne.mpr c11
              have H' := Aside0.mk H
              clear H
              go_wp2
              go_meet
              case rel => exact ⟨_, (true), (by first | rfl | (simp; done) | (simp [*]; done) | (simp; exact (show ∀ a_ b_ : Bool, (a_ == b_) = (!(a_ != b_)) from by decide) _ _) | (rw [Bool.eq_iff_iff]; simp; done) | (simp; rw [Bool.eq_iff_iff]; simp; done)), H', ⟨by first | omega | exact Nat.le_refl _⟩, ⟨by repeat (first | (with_reducible first | exact HB.out | apply below_alloc | apply pw_below_drewN | apply below_drew1) | exact HB.out)⟩⟩
          · rw [if_neg c10] at H
            have c10b0 : (t137 == 10) = false := beq_eq_false_iff_ne.mpr c10
            have c10b1 : (t137 != 10) = true := bne_iff_ne.mpr c10
            have H' := Aside0.mk H
            clear H
            go_wp2
            go_meet
            case rel => exact ⟨_, (true), (by first | rfl | (simp; done) | (simp [*]; done) | (simp; exact (show ∀ a_ b_ : Bool, (a_ == b_) = (!(a_ != b_)) from by decide) _ _) | (rw [Bool.eq_iff_iff]; simp; done) | (simp; rw [Bool.eq_iff_iff]; simp; done)), H', ⟨by first | omega | exact Nat.le_refl _⟩, ⟨by repeat (first | (with_reducible first | exact HB.out | apply below_alloc | apply pw_below_drewN | apply below_drew1) | exact HB.out)⟩⟩
        · rw [if_neg c9] at H
          have c9b0 : ((wrap64 ((wrap64 (t133 + t135)) + t141)) == 0) = false := beq_eq_false_iff_ne.mpr c9
          have c9b1 : ((wrap64 ((wrap64 (t133 + t135)) + t141)) != 0) = true := bne_iff_ne.mpr c9
          have H' := Aside0.mk H
          clear H
          go_wp2
          go_meet
          case rel => exact ⟨_, (true), (by first | rfl | (simp; done) | (simp [*]; done) | (simp; exact (show ∀ a_ b_ : Bool, (a_ == b_) = (!(a_ != b_)) from by decide) _ _) | (rw [Bool.eq_iff_iff]; simp; done) | (simp; rw [Bool.eq_iff_iff]; simp; done)), H', ⟨by first | omega | exact Nat.le_refl _⟩, ⟨by repeat (first | (with_reducible first | exact HB.out | apply below_alloc | apply pw_below_drewN | apply below_drew1) | exact HB.out)⟩⟩
      · rw [if_neg c8] at H
        have c8b0 : (t134 == 1154) = false := beq_eq_false_iff_ne.mpr c8
        have c8b1 : (t134 != 1154) = true := bne_iff_ne.mpr c8
        have H' := Aside0.mk H
        clear H
        go_wp2
        go_meet
        case rel => exact ⟨_, (true), (by first | rfl | (simp; done) | (simp [*]; done) | (simp; exact (show ∀ a_ b_ : Bool, (a_ == b_) = (!(a_ != b_)) from by decide) _ _) | (rw [Bool.eq_iff_iff]; simp; done) | (simp; rw [Bool.eq_iff_iff]; simp; done)), H', ⟨by first | omega | exact Nat.le_refl _⟩, ⟨by repeat (first | (with_reducible first | exact HB.out | apply below_alloc | apply pw_below_drewN | apply below_drew1) | exact HB.out)⟩⟩
    · rw [if_neg c7] at H
      have c7b0 : (t132 == 0) = false := beq_eq_false_iff_ne.mpr c7
      have c7b1 : (t132 != 0) = true := bne_iff_ne.mpr c7
      (first | rw [c7b0] | (simp only [i64_w, i32_w]; rw [c7b0]) | skip)
      have H' := Aside0.mk H
      clear H
      go_wp2
      go_meet
      case rel => exact ⟨_, (true), (by first | rfl | (simp; done) | (simp [*]; done) | (simp; exact (show ∀ a_ b_ : Bool, (a_ == b_) = (!(a_ != b_)) from by decide) _ _) | (rw [Bool.eq_iff_iff]; simp; done) | (simp; rw [Bool.eq_iff_iff]; simp; done)), H', ⟨by first | omega | exact Nat.le_refl _⟩, ⟨by repeat (first | (with_reducible first | exact HB.out | apply below_alloc | apply pw_below_drewN | apply below_drew1) | exact HB.out)⟩⟩
  case rest =>
    clear HC5
    try clear c1
    try clear p2
    try clear c3
    try clear p6
    try clear c7
    try clear c7b0
    try clear c7b1
    try clear c8
    try clear c8b0
    try clear c8b1
    try clear c9
    try clear c9b0
    try clear c9b1
    try clear c10
    try clear c10b0
    try clear c10b1
    try clear c11
    try clear c11b0
    try clear c11b1
    try clear c12
    try clear c12b0
    try clear c12b1
    obtain ⟨kq, x66_4, rfl, HA, HJ4, HB⟩ := hcut
    cases kq with
    | zero => exact absurd HA.out (by simp [letterbaglaw01_awake.j0])
    | succ kj4 =>
      have H := HA.out
      clear HA
      simp only [letterbaglaw01_awake.j0] at H
      by_cases c13 : x66_4 = true
      · subst c13
        have H1 : (some false) = some r := by rw [if_pos rfl] at H; exact H
        clear H
        have H := H1
        clear H1
        obtain rfl := Option.some.inj H
        go_wp2
        go_ret
        exact ⟨by first | rfl | (simp [errW_none, errW_some] <;> rfl) | (simp [*, errW_none, errW_some] <;> rfl), by repeat (first | (with_reducible first | exact HB.out | apply below_alloc | apply pw_below_drewN | apply below_drew1) | exact HB.out)⟩
      · replace c13 := Bool.eq_false_iff.mpr c13
        subst c13
        have H1 : ((civil_Weekday.f 5).bind fun bt142 => ((civil_Text.f kj4 59).bind fun bt144 => ((civil_ReadTime.f kj4 (⟨#[50, 48, 48, 49, 45, 48, 49, 45, 48, 50, 32, 48, 48, 58, 48, 49]⟩ : ByteArray)).bind fun bt146 => ((civil_Between.f 0 7 (([1] : List Int))).bind fun bt151 => (if bt142.1 = 5 then (if bt144.1.toList = ([50, 48, 48, 49, 45, 48, 51, 45, 48, 49] : List UInt8) then (if bt146.1 = 1441 then (if bt151.1 = 4 then (letterbaglaw01_awake.j1 kj4 ((wrap64 ((wrap64 ((wrap64 (bt142.2 + bt144.2)) + bt146.2)) + bt151.2)) != 0)) else (letterbaglaw01_awake.j1 kj4 true)) else (letterbaglaw01_awake.j1 kj4 true)) else (letterbaglaw01_awake.j1 kj4 true)) else (letterbaglaw01_awake.j1 kj4 true)))))) = some r := by rw [if_neg (show ¬ (false = true) by decide)] at H; exact H
        clear H
        have H := H1
        clear H1
        replace H := Option.bind_eq_some_iff.mp H
        obtain ⟨⟨t142, t143⟩, A140, H⟩ := H
        replace H : ((civil_Text.f kj4 59).bind fun bt144 => ((civil_ReadTime.f kj4 (⟨#[50, 48, 48, 49, 45, 48, 49, 45, 48, 50, 32, 48, 48, 58, 48, 49]⟩ : ByteArray)).bind fun bt146 => ((civil_Between.f 0 7 (([1] : List Int))).bind fun bt151 => (if t142 = 5 then (if bt144.1.toList = ([50, 48, 48, 49, 45, 48, 51, 45, 48, 49] : List UInt8) then (if bt146.1 = 1441 then (if bt151.1 = 4 then (letterbaglaw01_awake.j1 kj4 ((wrap64 ((wrap64 ((wrap64 (t143 + bt144.2)) + bt146.2)) + bt151.2)) != 0)) else (letterbaglaw01_awake.j1 kj4 true)) else (letterbaglaw01_awake.j1 kj4 true)) else (letterbaglaw01_awake.j1 kj4 true)) else (letterbaglaw01_awake.j1 kj4 true))))) = some r := H
        have A14 := Aside0.mk A140
        clear A140
        replace H := Option.bind_eq_some_iff.mp H
        obtain ⟨⟨t144, t145⟩, A150, H⟩ := H
        replace H : ((civil_ReadTime.f kj4 (⟨#[50, 48, 48, 49, 45, 48, 49, 45, 48, 50, 32, 48, 48, 58, 48, 49]⟩ : ByteArray)).bind fun bt146 => ((civil_Between.f 0 7 (([1] : List Int))).bind fun bt151 => (if t142 = 5 then (if t144.toList = ([50, 48, 48, 49, 45, 48, 51, 45, 48, 49] : List UInt8) then (if bt146.1 = 1441 then (if bt151.1 = 4 then (letterbaglaw01_awake.j1 kj4 ((wrap64 ((wrap64 ((wrap64 (t143 + t145)) + bt146.2)) + bt151.2)) != 0)) else (letterbaglaw01_awake.j1 kj4 true)) else (letterbaglaw01_awake.j1 kj4 true)) else (letterbaglaw01_awake.j1 kj4 true)) else (letterbaglaw01_awake.j1 kj4 true)))) = some r := H
        have A15 := Aside0.mk A150
        clear A150
        replace H := Option.bind_eq_some_iff.mp H
        obtain ⟨⟨t146, t147⟩, A160, H⟩ := H
        replace H : ((civil_Between.f 0 7 (([1] : List Int))).bind fun bt151 => (if t142 = 5 then (if t144.toList = ([50, 48, 48, 49, 45, 48, 51, 45, 48, 49] : List UInt8) then (if t146 = 1441 then (if bt151.1 = 4 then (letterbaglaw01_awake.j1 kj4 ((wrap64 ((wrap64 ((wrap64 (t143 + t145)) + t147)) + bt151.2)) != 0)) else (letterbaglaw01_awake.j1 kj4 true)) else (letterbaglaw01_awake.j1 kj4 true)) else (letterbaglaw01_awake.j1 kj4 true)) else (letterbaglaw01_awake.j1 kj4 true))) = some r := H
        have A16 := Aside0.mk A160
        clear A160
        obtain ⟨y148, hy148⟩ : ∃ y_ : List Int, y_ = (([1] : List Int)) := ⟨_, rfl⟩
        replace H : ((civil_Between.f 0 7 y148).bind fun bt151 => (if t142 = 5 then (if t144.toList = ([50, 48, 48, 49, 45, 48, 51, 45, 48, 49] : List UInt8) then (if t146 = 1441 then (if bt151.1 = 4 then (letterbaglaw01_awake.j1 kj4 ((wrap64 ((wrap64 ((wrap64 (t143 + t145)) + t147)) + bt151.2)) != 0)) else (letterbaglaw01_awake.j1 kj4 true)) else (letterbaglaw01_awake.j1 kj4 true)) else (letterbaglaw01_awake.j1 kj4 true)) else (letterbaglaw01_awake.j1 kj4 true))) = some r := by first | (rw [hy148]; with_reducible exact H) | (have H2_ := (Option.bind_some _ _).symm.trans H; rw [hy148]; with_reducible exact H2_) | (have H2_ := (Option.bind_some _ _).symm.trans H; with_reducible exact H2_) | with_reducible exact H | (rw [hy148]; exact H) | exact H
        have Ny148 := Aside0.mk hy148
        clear hy148
        replace H := Option.bind_eq_some_iff.mp H
        obtain ⟨⟨t151, t152⟩, A170, H⟩ := H
        replace H : (if t142 = 5 then (if t144.toList = ([50, 48, 48, 49, 45, 48, 51, 45, 48, 49] : List UInt8) then (if t146 = 1441 then (if t151 = 4 then (letterbaglaw01_awake.j1 kj4 ((wrap64 ((wrap64 ((wrap64 (t143 + t145)) + t147)) + t152)) != 0)) else (letterbaglaw01_awake.j1 kj4 true)) else (letterbaglaw01_awake.j1 kj4 true)) else (letterbaglaw01_awake.j1 kj4 true)) else (letterbaglaw01_awake.j1 kj4 true)) = some r := H
        have A17 := Aside0.mk A170
        clear A170
        have HC18 := Aside0.mk H
        clear H
        go_upto_region 11 with (first | ((with_reducible refine gate_callee (f := 20) rfl ?_); refine goesL_ (some 68) rfl rfl Tryd.func20 (by kernel_rfl) rfl #[.int .i64 5] rfl (by (try simp only [List.map_toArray, List.map_cons, List.map_nil]); first | done | rfl | (simp only [List.length_drop, List.length_take]; rfl)) ?_; (with_reducible refine (civil_Weekday.calls 5 t142 t143 _ A14.out).mono ?_); rintro e w' ⟨rfl, ⟨nd, rfl⟩⟩; refine ⟨_, rfl, ?_⟩) | ((with_reducible refine gate_callee (f := 21) rfl ?_); refine goesL_ (some 72) rfl rfl Tryd.func21 (by kernel_rfl) rfl #[.int .i64 59] rfl (by (try simp only [List.map_toArray, List.map_cons, List.map_nil]); first | done | rfl | (simp only [List.length_drop, List.length_take]; rfl)) ?_; (with_reducible refine (civil_Text.calls kj4 59 t144 t145 _ ?tabG A15.out).mono ?_); (case tabG => (first | exact hg | exact ⟨hg.out.below (by repeat (first | (with_reducible first | exact HB.out | apply below_alloc | apply pw_below_drewN | apply below_drew1) | exact HB.out))⟩)); rintro e w19 ⟨rfl, hb⟩; refine ⟨_, rfl, ?_⟩; have n0_ := Aside0.mk (below_step (by repeat (first | (with_reducible first | exact HB.out | apply below_alloc | apply pw_below_drewN | apply below_drew1) | exact HB.out)) hb); clear HB; have HB := n0_; clear n0_; (try clear hb); (try clear hb2); (try clear hk); (try clear hi)) | ((with_reducible refine gate_callee (f := 32) rfl ?_); refine goesL_ (some 76) rfl rfl Tryd.func32 (by kernel_rfl) rfl #[.string (⟨#[50, 48, 48, 49, 45, 48, 49, 45, 48, 50, 32, 48, 48, 58, 48, 49]⟩ : ByteArray)] rfl (by (try simp only [List.map_toArray, List.map_cons, List.map_nil]); first | done | rfl | (simp only [List.length_drop, List.length_take]; rfl)) ?_; (with_reducible refine (civil_ReadTime.calls kj4 (⟨#[50, 48, 48, 49, 45, 48, 49, 45, 48, 50, 32, 48, 48, 58, 48, 49]⟩ : ByteArray) t146 t147 _ ?tabG A16.out).mono ?_); (case tabG => (first | exact hg | exact ⟨hg.out.below (by repeat (first | (with_reducible first | exact HB.out | apply below_alloc | apply pw_below_drewN | apply below_drew1) | exact HB.out))⟩)); rintro e w' ⟨rfl, ⟨nd, rfl⟩⟩; refine ⟨_, rfl, ?_⟩) | ((with_reducible refine gate_dst (N := 80) rfl ?_); refine Kd.R_lit (Kd.int .i64) _ 3 ?hg (N := 80) ?hd (xs := ([1] : List Int)) (inner := [.int .i64 1]) (ok := fun _ => True) (okp := fun _ => True) ?hr ?hp (fun _ hk => hk) trivial (Below.refl _ _) (Nat.le_refl _) (by simp) ?_; (case hd => rfl); (case hg => rfl); (case hr => first | (go_simp; done) | (go_simp; rfl)); (case hp => exact (Reps.one (show Kd.M (Kd.int .i64) _ _ _ 1 [.int .i64 1] from rfl) (Reps.none _ _))); intro v149 w20 ho21 hb hg_ hnew_; clear hg_ hnew_; (first | rw [← Ny148.out] at ho21 | (simp only [Int.reduceToNat] at ho21; rw [← Ny148.out] at ho21)); have n0_ := Aside0.mk (Kd.R_lower ho21 (below_size (by repeat (first | (with_reducible first | exact HB.out | apply below_alloc | apply pw_below_drewN | apply below_drew1) | exact HB.out)))); have n1_ := Aside0.mk (below_step (by repeat (first | (with_reducible first | exact HB.out | apply below_alloc | apply pw_below_drewN | apply below_drew1) | exact HB.out)) hb); clear HB; have HO150 := n0_; have HB := n1_; clear n0_ n1_; clear hb ho21; obtain ⟨Ao22, co22, eo22⟩ := Kd.R_slice HO150.out; subst eo22) | ((with_reducible refine gate_callee (f := 28) rfl ?_); refine goesL_ (some 81) rfl rfl Tryd.func28 (by kernel_rfl) rfl #[.int .i64 0, .int .i64 7, .slice Ao22 y148.length co22] rfl (by (try simp only [List.map_toArray, List.map_cons, List.map_nil]); first | done | rfl | (simp only [List.length_drop, List.length_take]; rfl)) ?_; (with_reducible refine (civil_Between.calls 0 7 _ _ y148 t151 t152 _ ?side1 ?side2 A17.out).mono ?_); (case side1 => repeat (first | exact (Kd.R_reads' HO150.out).2.2 | (with_reducible refine Kd.C_alloc ?_ _) | (with_reducible refine Kd.C_drewN ?_ _) | (with_reducible refine Kd.C_drew ?_))); (case side2 => exact (Kd.R_reads' HO150.out).2.1); rintro e w23 ⟨rfl, hb⟩; refine ⟨_, rfl, ?_⟩; have n0_ := Aside0.mk (Kd.R_below (by (with_reducible repeat (first | apply Kd.R_alloc | apply Kd.R_drewN | apply Kd.R_drew)); exact HO150.out) hb); have n1_ := Aside0.mk (below_step (by repeat (first | (with_reducible first | exact HB.out | apply below_alloc | apply pw_below_drewN | apply below_drew1) | exact HB.out)) hb); clear HO150; clear HB; have HO150 := n0_; have HB := n1_; clear n0_ n1_; (try clear hb); (try clear hb2); (try clear hk); (try clear hi)))
        (try simp only [Act.put, List.setIfInBounds_toArray, List.set_cons_zero, List.set_cons_succ])
        go_cut [107] (fun v107 wc => ∃ (kq : Nat) (x107_17 : Bool), v107 = .bool x107_17 ∧ Aside0 (letterbaglaw01_awake.j1 kq x107_17 = some r) ∧ Aside0 (kq ≤ kj4) ∧ Aside0 (Below w.heap.size w wc))
        case first =>
          have H := HC18.out
          clear HC18
          by_cases c24 : t142 = 5
          · rw [if_pos c24] at H
            have c24b0 : (t142 == 5) = true := beq_iff_eq.mpr c24
            have c24b1 : (t142 != 5) = false := bne_eq_false_iff_eq.mpr c24
            clear c24
            (first | rw [c24b0] | (simp only [i64_w, i32_w]; rw [c24b0]) | skip)
            by_cases c25 : t144.toList = ([50, 48, 48, 49, 45, 48, 51, 45, 48, 49] : List UInt8)
            · rw [if_pos c25] at H
              have c25b0 : (t144.toList == ([50, 48, 48, 49, 45, 48, 51, 45, 48, 49] : List UInt8)) = true := beq_iff_eq.mpr c25
              have c25b1 : (t144.toList != ([50, 48, 48, 49, 45, 48, 51, 45, 48, 49] : List UInt8)) = false := bne_eq_false_iff_eq.mpr c25
              clear c25
              by_cases c26 : t146 = 1441
              · rw [if_pos c26] at H
                have c26b0 : (t146 == 1441) = true := beq_iff_eq.mpr c26
                have c26b1 : (t146 != 1441) = false := bne_eq_false_iff_eq.mpr c26
                clear c26
                by_cases c27 : t151 = 4
                · rw [if_pos c27] at H
                  have c27b0 : (t151 == 4) = true := beq_iff_eq.mpr c27
                  have c27b1 : (t151 != 4) = false := bne_eq_false_iff_eq.mpr c27
                  clear c27
                  have H' := Aside0.mk H
                  clear H
                  go_wp2
                  go_meet
                  case rel => exact ⟨_, (((wrap64 ((wrap64 ((wrap64 (t143 + t145)) + t147)) + t152)) != 0)), (by first | rfl | (simp; done) | (simp [*]; done) | (simp; exact (show ∀ a_ b_ : Bool, (a_ == b_) = (!(a_ != b_)) from by decide) _ _) | (rw [Bool.eq_iff_iff]; simp; done) | (simp; rw [Bool.eq_iff_iff]; simp; done)), H', ⟨by have := HJ4.out; first | omega | exact Nat.le_refl _⟩, ⟨by repeat (first | (with_reducible first | exact HB.out | apply below_alloc | apply pw_below_drewN | apply below_drew1) | exact HB.out)⟩⟩
                · rw [if_neg c27] at H
                  have c27b0 : (t151 == 4) = false := beq_eq_false_iff_ne.mpr c27
                  have c27b1 : (t151 != 4) = true := bne_iff_ne.mpr c27
                  have H' := Aside0.mk H
                  clear H
                  go_wp2
                  go_meet
                  case rel => exact ⟨_, (true), (by first | rfl | (simp; done) | (simp [*]; done) | (simp; exact (show ∀ a_ b_ : Bool, (a_ == b_) = (!(a_ != b_)) from by decide) _ _) | (rw [Bool.eq_iff_iff]; simp; done) | (simp; rw [Bool.eq_iff_iff]; simp; done)), H', ⟨by have := HJ4.out; first | omega | exact Nat.le_refl _⟩, ⟨by repeat (first | (with_reducible first | exact HB.out | apply below_alloc | apply pw_below_drewN | apply below_drew1) | exact HB.out)⟩⟩
              · rw [if_neg c26] at H
                have c26b0 : (t146 == 1441) = false := beq_eq_false_iff_ne.mpr c26
                have c26b1 : (t146 != 1441) = true := bne_iff_ne.mpr c26
                have H' := Aside0.mk H
                clear H
                go_wp2
                go_meet
                case rel => exact ⟨_, (true), (by first | rfl | (simp; done) | (simp [*]; done) | (simp; exact (show ∀ a_ b_ : Bool, (a_ == b_) = (!(a_ != b_)) from by decide) _ _) | (rw [Bool.eq_iff_iff]; simp; done) | (simp; rw [Bool.eq_iff_iff]; simp; done)), H', ⟨by have := HJ4.out; first | omega | exact Nat.le_refl _⟩, ⟨by repeat (first | (with_reducible first | exact HB.out | apply below_alloc | apply pw_below_drewN | apply below_drew1) | exact HB.out)⟩⟩
            · rw [if_neg c25] at H
              have c25b0 : (t144.toList == ([50, 48, 48, 49, 45, 48, 51, 45, 48, 49] : List UInt8)) = false := beq_eq_false_iff_ne.mpr c25
              have c25b1 : (t144.toList != ([50, 48, 48, 49, 45, 48, 51, 45, 48, 49] : List UInt8)) = true := bne_iff_ne.mpr c25
              have H' := Aside0.mk H
              clear H
              go_wp2
              go_meet
              case rel => exact ⟨_, (true), (by first | rfl | (simp; done) | (simp [*]; done) | (simp; exact (show ∀ a_ b_ : Bool, (a_ == b_) = (!(a_ != b_)) from by decide) _ _) | (rw [Bool.eq_iff_iff]; simp; done) | (simp; rw [Bool.eq_iff_iff]; simp; done)), H', ⟨by have := HJ4.out; first | omega | exact Nat.le_refl _⟩, ⟨by repeat (first | (with_reducible first | exact HB.out | apply below_alloc | apply pw_below_drewN | apply below_drew1) | exact HB.out)⟩⟩
          · rw [if_neg c24] at H
            have c24b0 : (t142 == 5) = false := beq_eq_false_iff_ne.mpr c24
            have c24b1 : (t142 != 5) = true := bne_iff_ne.mpr c24
            (first | rw [c24b0] | (simp only [i64_w, i32_w]; rw [c24b0]) | skip)
            have H' := Aside0.mk H
            clear H
            go_wp2
            go_meet
            case rel => exact ⟨_, (true), (by first | rfl | (simp; done) | (simp [*]; done) | (simp; exact (show ∀ a_ b_ : Bool, (a_ == b_) = (!(a_ != b_)) from by decide) _ _) | (rw [Bool.eq_iff_iff]; simp; done) | (simp; rw [Bool.eq_iff_iff]; simp; done)), H', ⟨by have := HJ4.out; first | omega | exact Nat.le_refl _⟩, ⟨by repeat (first | (with_reducible first | exact HB.out | apply below_alloc | apply pw_below_drewN | apply below_drew1) | exact HB.out)⟩⟩
        case rest =>
          clear HC18
          try clear c1
          try clear c2
          try clear p2
          try clear c3
          try clear p6
          try clear c7
          try clear c7b0
          try clear c7b1
          try clear c8
          try clear c8b0
          try clear c8b1
          try clear c9
          try clear c9b0
          try clear c9b1
          try clear c10
          try clear c10b0
          try clear c10b1
          try clear c11
          try clear c11b0
          try clear c11b1
          try clear c12
          try clear c12b0
          try clear c12b1
          try clear c13
          try clear c17
          try clear c19
          try clear c20
          try clear c21
          try clear c24
          try clear c24b0
          try clear c24b1
          try clear c25
          try clear c25b0
          try clear c25b1
          try clear c26
          try clear c26b0
          try clear c26b1
          try clear c27
          try clear c27b0
          try clear c27b1
          try clear p2
          try clear p6
          obtain ⟨kq, x107_17, rfl, HA, HJ17, HB⟩ := hcut
          cases kq with
          | zero => exact absurd HA.out (by simp [letterbaglaw01_awake.j1])
          | succ kj17 =>
            have H := HA.out
            clear HA
            simp only [letterbaglaw01_awake.j1] at H
            by_cases c28 : x107_17 = true
            · subst c28
              have H1 : (some false) = some r := by rw [if_pos rfl] at H; exact H
              clear H
              have H := H1
              clear H1
              obtain rfl := Option.some.inj H
              go_wp2
              go_ret
              exact ⟨by first | rfl | (simp [errW_none, errW_some] <;> rfl) | (simp [*, errW_none, errW_some] <;> rfl), by repeat (first | (with_reducible first | exact HB.out | apply below_alloc | apply pw_below_drewN | apply below_drew1) | exact HB.out)⟩
            · replace c28 := Bool.eq_false_iff.mpr c28
              subst c28
              have H1 : ((civil_Ahead.f kj17 0 1 (([1] : List Int))).bind fun bt156 => ((civil_Ahead.f kj17 5 0 ([] : List Int)).bind fun bt158 => ((civil_Yearly.f kj17 364 1201 228).bind fun bt160 => ((civil_Yearly.f kj17 59 1201 228).bind fun bt162 => (if bt156.1 = 2 then (if bt158.1 = 7 then (if bt160.1 = true then (if bt162.1 = true then (some false) else (some ((wrap64 ((wrap64 ((wrap64 (bt156.2 + bt158.2)) + bt160.2)) + bt162.2)) == 0))) else (some false)) else (some false)) else (some false)))))) = some r := by rw [if_neg (show ¬ (false = true) by decide)] at H; exact H
              clear H
              have H := H1
              clear H1
              obtain ⟨y153, hy153⟩ : ∃ y_ : List Int, y_ = (([1] : List Int)) := ⟨_, rfl⟩
              replace H : ((civil_Ahead.f kj17 0 1 y153).bind fun bt156 => ((civil_Ahead.f kj17 5 0 ([] : List Int)).bind fun bt158 => ((civil_Yearly.f kj17 364 1201 228).bind fun bt160 => ((civil_Yearly.f kj17 59 1201 228).bind fun bt162 => (if bt156.1 = 2 then (if bt158.1 = 7 then (if bt160.1 = true then (if bt162.1 = true then (some false) else (some ((wrap64 ((wrap64 ((wrap64 (bt156.2 + bt158.2)) + bt160.2)) + bt162.2)) == 0))) else (some false)) else (some false)) else (some false)))))) = some r := by first | (rw [hy153]; with_reducible exact H) | (have H2_ := (Option.bind_some _ _).symm.trans H; rw [hy153]; with_reducible exact H2_) | (have H2_ := (Option.bind_some _ _).symm.trans H; with_reducible exact H2_) | with_reducible exact H | (rw [hy153]; exact H) | exact H
              have Ny153 := Aside0.mk hy153
              clear hy153
              replace H := Option.bind_eq_some_iff.mp H
              obtain ⟨⟨t156, t157⟩, A290, H⟩ := H
              replace H : ((civil_Ahead.f kj17 5 0 ([] : List Int)).bind fun bt158 => ((civil_Yearly.f kj17 364 1201 228).bind fun bt160 => ((civil_Yearly.f kj17 59 1201 228).bind fun bt162 => (if t156 = 2 then (if bt158.1 = 7 then (if bt160.1 = true then (if bt162.1 = true then (some false) else (some ((wrap64 ((wrap64 ((wrap64 (t157 + bt158.2)) + bt160.2)) + bt162.2)) == 0))) else (some false)) else (some false)) else (some false))))) = some r := H
              have A29 := Aside0.mk A290
              clear A290
              replace H := Option.bind_eq_some_iff.mp H
              obtain ⟨⟨t158, t159⟩, A300, H⟩ := H
              replace H : ((civil_Yearly.f kj17 364 1201 228).bind fun bt160 => ((civil_Yearly.f kj17 59 1201 228).bind fun bt162 => (if t156 = 2 then (if t158 = 7 then (if bt160.1 = true then (if bt162.1 = true then (some false) else (some ((wrap64 ((wrap64 ((wrap64 (t157 + t159)) + bt160.2)) + bt162.2)) == 0))) else (some false)) else (some false)) else (some false)))) = some r := H
              have A30 := Aside0.mk A300
              clear A300
              replace H := Option.bind_eq_some_iff.mp H
              obtain ⟨⟨t160, t161⟩, A310, H⟩ := H
              replace H : ((civil_Yearly.f kj17 59 1201 228).bind fun bt162 => (if t156 = 2 then (if t158 = 7 then (if t160 = true then (if bt162.1 = true then (some false) else (some ((wrap64 ((wrap64 ((wrap64 (t157 + t159)) + t161)) + bt162.2)) == 0))) else (some false)) else (some false)) else (some false))) = some r := H
              have A31 := Aside0.mk A310
              clear A310
              replace H := Option.bind_eq_some_iff.mp H
              obtain ⟨⟨t162, t163⟩, A320, H⟩ := H
              replace H : (if t156 = 2 then (if t158 = 7 then (if t160 = true then (if t162 = true then (some false) else (some ((wrap64 ((wrap64 ((wrap64 (t157 + t159)) + t161)) + t163)) == 0))) else (some false)) else (some false)) else (some false)) = some r := H
              have A32 := Aside0.mk A320
              clear A320
              by_cases c33 : t156 = 2
              · rw [if_pos c33] at H
                have c33b0 : (t156 == 2) = true := beq_iff_eq.mpr c33
                have c33b1 : (t156 != 2) = false := bne_eq_false_iff_eq.mpr c33
                clear c33
                by_cases c34 : t158 = 7
                · rw [if_pos c34] at H
                  have c34b0 : (t158 == 7) = true := beq_iff_eq.mpr c34
                  have c34b1 : (t158 != 7) = false := bne_eq_false_iff_eq.mpr c34
                  clear c34
                  by_cases c35 : t160 = true
                  · subst c35
                    have H1 : (if t162 = true then (some false) else (some ((wrap64 ((wrap64 ((wrap64 (t157 + t159)) + t161)) + t163)) == 0))) = some r := by rw [if_pos rfl] at H; exact H
                    clear H
                    have H := H1
                    clear H1
                    by_cases c36 : t162 = true
                    · subst c36
                      have H1 : (some false) = some r := by rw [if_pos rfl] at H; exact H
                      clear H
                      have H := H1
                      clear H1
                      obtain rfl := Option.some.inj H
                      go_wp2_with (first | ((with_reducible refine gate_dst (N := 109) rfl ?_); refine Kd.R_lit (Kd.int .i64) _ 3 ?hg (N := 109) ?hd (xs := ([1] : List Int)) (inner := [.int .i64 1]) (ok := fun _ => True) (okp := fun _ => True) ?hr ?hp (fun _ hk => hk) trivial (Below.refl _ _) (Nat.le_refl _) (by simp) ?_; (case hd => rfl); (case hg => rfl); (case hr => first | (go_simp; done) | (go_simp; rfl)); (case hp => exact (Reps.one (show Kd.M (Kd.int .i64) _ _ _ 1 [.int .i64 1] from rfl) (Reps.none _ _))); intro v154 w37 ho38 hb hg_ hnew_; clear hg_ hnew_; (first | rw [← Ny153.out] at ho38 | (simp only [Int.reduceToNat] at ho38; rw [← Ny153.out] at ho38)); have n0_ := Aside0.mk (Kd.R_lower ho38 (below_size (by repeat (first | (with_reducible first | exact HB.out | apply below_alloc | apply pw_below_drewN | apply below_drew1) | exact HB.out)))); have n1_ := Aside0.mk (below_step (by repeat (first | (with_reducible first | exact HB.out | apply below_alloc | apply pw_below_drewN | apply below_drew1) | exact HB.out)) hb); clear HB; have HO155 := n0_; have HB := n1_; clear n0_ n1_; clear hb ho38; obtain ⟨Ao39, co39, eo39⟩ := Kd.R_slice HO155.out; subst eo39) | ((with_reducible refine gate_callee (f := 26) rfl ?_); refine goesL_ (some 110) rfl rfl Tryd.func26 (by kernel_rfl) rfl #[.int .i64 0, .int .i64 1, .slice Ao39 y153.length co39] rfl (by (try simp only [List.map_toArray, List.map_cons, List.map_nil]); first | done | rfl | (simp only [List.length_drop, List.length_take]; rfl)) ?_; (with_reducible refine (civil_Ahead.calls kj17 0 1 _ _ y153 t156 t157 _ ?side1 ?side2 A29.out).mono ?_); (case side1 => repeat (first | exact (Kd.R_reads' HO155.out).2.2 | (with_reducible refine Kd.C_alloc ?_ _) | (with_reducible refine Kd.C_drewN ?_ _) | (with_reducible refine Kd.C_drew ?_))); (case side2 => exact (Kd.R_reads' HO155.out).2.1); rintro e w40 ⟨rfl, hb⟩; refine ⟨_, rfl, ?_⟩; have n0_ := Aside0.mk (Kd.R_below (by (with_reducible repeat (first | apply Kd.R_alloc | apply Kd.R_drewN | apply Kd.R_drew)); exact HO155.out) hb); have n1_ := Aside0.mk (below_step (by repeat (first | (with_reducible first | exact HB.out | apply below_alloc | apply pw_below_drewN | apply below_drew1) | exact HB.out)) hb); clear HO155; clear HB; have HO155 := n0_; have HB := n1_; clear n0_ n1_; (try clear hb); (try clear hb2); (try clear hk); (try clear hi)) | ((with_reducible refine gate_callee (f := 26) rfl ?_); refine goesL_ (some 114) rfl rfl Tryd.func26 (by kernel_rfl) rfl #[.int .i64 5, .int .i64 0, .slice none 0 0] rfl (by (try simp only [List.map_toArray, List.map_cons, List.map_nil]); first | done | rfl | (simp only [List.length_drop, List.length_take]; rfl)) ?_; (refine (civil_Ahead.calls kj17 5 0 _ _ ([] : List Int) t158 t159 _ ?side1 ?side2 A30.out).mono ?_); (case side1 => exact Kd.C_nil _ _); (case side2 => exact Nat.le_refl _); rintro e w41 ⟨rfl, hb⟩; refine ⟨_, rfl, ?_⟩; have n0_ := Aside0.mk (Kd.R_below (by (with_reducible repeat (first | apply Kd.R_alloc | apply Kd.R_drewN | apply Kd.R_drew)); exact HO155.out) hb); have n1_ := Aside0.mk (below_step (by repeat (first | (with_reducible first | exact HB.out | apply below_alloc | apply pw_below_drewN | apply below_drew1) | exact HB.out)) hb); clear HO155; clear HB; have HO155 := n0_; have HB := n1_; clear n0_ n1_; (try clear hb); (try clear hb2); (try clear hk); (try clear hi)) | ((with_reducible refine gate_callee (f := 27) rfl ?_); refine goesL_ (some 118) rfl rfl Tryd.func27 (by kernel_rfl) rfl #[.int .i64 364, .int .i64 1201, .int .i64 228] rfl (by (try simp only [List.map_toArray, List.map_cons, List.map_nil]); first | done | rfl | (simp only [List.length_drop, List.length_take]; rfl)) ?_; (with_reducible refine (civil_Yearly.calls kj17 364 1201 228 true t161 _ ?tabG A31.out).mono ?_); (case tabG => (first | exact hg | exact ⟨hg.out.below (by repeat (first | (with_reducible first | exact HB.out | apply below_alloc | apply pw_below_drewN | apply below_drew1) | exact HB.out))⟩)); rintro e w42 ⟨rfl, hb⟩; refine ⟨_, rfl, ?_⟩; have n0_ := Aside0.mk (Kd.R_below (by (with_reducible repeat (first | apply Kd.R_alloc | apply Kd.R_drewN | apply Kd.R_drew)); exact HO155.out) hb); have n1_ := Aside0.mk (below_step (by repeat (first | (with_reducible first | exact HB.out | apply below_alloc | apply pw_below_drewN | apply below_drew1) | exact HB.out)) hb); clear HO155; clear HB; have HO155 := n0_; have HB := n1_; clear n0_ n1_; (try clear hb); (try clear hb2); (try clear hk); (try clear hi)) | ((with_reducible refine gate_callee (f := 27) rfl ?_); refine goesL_ (some 122) rfl rfl Tryd.func27 (by kernel_rfl) rfl #[.int .i64 59, .int .i64 1201, .int .i64 228] rfl (by (try simp only [List.map_toArray, List.map_cons, List.map_nil]); first | done | rfl | (simp only [List.length_drop, List.length_take]; rfl)) ?_; (with_reducible refine (civil_Yearly.calls kj17 59 1201 228 true t163 _ ?tabG A32.out).mono ?_); (case tabG => (first | exact hg | exact ⟨hg.out.below (by repeat (first | (with_reducible first | exact HB.out | apply below_alloc | apply pw_below_drewN | apply below_drew1) | exact HB.out))⟩)); rintro e w43 ⟨rfl, hb⟩; refine ⟨_, rfl, ?_⟩; have n0_ := Aside0.mk (Kd.R_below (by (with_reducible repeat (first | apply Kd.R_alloc | apply Kd.R_drewN | apply Kd.R_drew)); exact HO155.out) hb); have n1_ := Aside0.mk (below_step (by repeat (first | (with_reducible first | exact HB.out | apply below_alloc | apply pw_below_drewN | apply below_drew1) | exact HB.out)) hb); clear HO155; clear HB; have HO155 := n0_; have HB := n1_; clear n0_ n1_; (try clear hb); (try clear hb2); (try clear hk); (try clear hi)))
                      go_ret
                      exact ⟨by first | rfl | (simp [errW_none, errW_some] <;> rfl) | (simp [*, errW_none, errW_some] <;> rfl), by repeat (first | (with_reducible first | exact HB.out | apply below_alloc | apply pw_below_drewN | apply below_drew1) | exact HB.out)⟩
                    · replace c36 := Bool.eq_false_iff.mpr c36
                      subst c36
                      have H1 : (some ((wrap64 ((wrap64 ((wrap64 (t157 + t159)) + t161)) + t163)) == 0)) = some r := by rw [if_neg (show ¬ (false = true) by decide)] at H; exact H
                      clear H
                      have H := H1
                      clear H1
                      obtain rfl := Option.some.inj H
                      go_wp2_with (first | ((with_reducible refine gate_dst (N := 109) rfl ?_); refine Kd.R_lit (Kd.int .i64) _ 3 ?hg (N := 109) ?hd (xs := ([1] : List Int)) (inner := [.int .i64 1]) (ok := fun _ => True) (okp := fun _ => True) ?hr ?hp (fun _ hk => hk) trivial (Below.refl _ _) (Nat.le_refl _) (by simp) ?_; (case hd => rfl); (case hg => rfl); (case hr => first | (go_simp; done) | (go_simp; rfl)); (case hp => exact (Reps.one (show Kd.M (Kd.int .i64) _ _ _ 1 [.int .i64 1] from rfl) (Reps.none _ _))); intro v154 w44 ho45 hb hg_ hnew_; clear hg_ hnew_; (first | rw [← Ny153.out] at ho45 | (simp only [Int.reduceToNat] at ho45; rw [← Ny153.out] at ho45)); have n0_ := Aside0.mk (Kd.R_lower ho45 (below_size (by repeat (first | (with_reducible first | exact HB.out | apply below_alloc | apply pw_below_drewN | apply below_drew1) | exact HB.out)))); have n1_ := Aside0.mk (below_step (by repeat (first | (with_reducible first | exact HB.out | apply below_alloc | apply pw_below_drewN | apply below_drew1) | exact HB.out)) hb); clear HB; have HO155 := n0_; have HB := n1_; clear n0_ n1_; clear hb ho45; obtain ⟨Ao46, co46, eo46⟩ := Kd.R_slice HO155.out; subst eo46) | ((with_reducible refine gate_callee (f := 26) rfl ?_); refine goesL_ (some 110) rfl rfl Tryd.func26 (by kernel_rfl) rfl #[.int .i64 0, .int .i64 1, .slice Ao46 y153.length co46] rfl (by (try simp only [List.map_toArray, List.map_cons, List.map_nil]); first | done | rfl | (simp only [List.length_drop, List.length_take]; rfl)) ?_; (with_reducible refine (civil_Ahead.calls kj17 0 1 _ _ y153 t156 t157 _ ?side1 ?side2 A29.out).mono ?_); (case side1 => repeat (first | exact (Kd.R_reads' HO155.out).2.2 | (with_reducible refine Kd.C_alloc ?_ _) | (with_reducible refine Kd.C_drewN ?_ _) | (with_reducible refine Kd.C_drew ?_))); (case side2 => exact (Kd.R_reads' HO155.out).2.1); rintro e w47 ⟨rfl, hb⟩; refine ⟨_, rfl, ?_⟩; have n0_ := Aside0.mk (Kd.R_below (by (with_reducible repeat (first | apply Kd.R_alloc | apply Kd.R_drewN | apply Kd.R_drew)); exact HO155.out) hb); have n1_ := Aside0.mk (below_step (by repeat (first | (with_reducible first | exact HB.out | apply below_alloc | apply pw_below_drewN | apply below_drew1) | exact HB.out)) hb); clear HO155; clear HB; have HO155 := n0_; have HB := n1_; clear n0_ n1_; (try clear hb); (try clear hb2); (try clear hk); (try clear hi)) | ((with_reducible refine gate_callee (f := 26) rfl ?_); refine goesL_ (some 114) rfl rfl Tryd.func26 (by kernel_rfl) rfl #[.int .i64 5, .int .i64 0, .slice none 0 0] rfl (by (try simp only [List.map_toArray, List.map_cons, List.map_nil]); first | done | rfl | (simp only [List.length_drop, List.length_take]; rfl)) ?_; (refine (civil_Ahead.calls kj17 5 0 _ _ ([] : List Int) t158 t159 _ ?side1 ?side2 A30.out).mono ?_); (case side1 => exact Kd.C_nil _ _); (case side2 => exact Nat.le_refl _); rintro e w48 ⟨rfl, hb⟩; refine ⟨_, rfl, ?_⟩; have n0_ := Aside0.mk (Kd.R_below (by (with_reducible repeat (first | apply Kd.R_alloc | apply Kd.R_drewN | apply Kd.R_drew)); exact HO155.out) hb); have n1_ := Aside0.mk (below_step (by repeat (first | (with_reducible first | exact HB.out | apply below_alloc | apply pw_below_drewN | apply below_drew1) | exact HB.out)) hb); clear HO155; clear HB; have HO155 := n0_; have HB := n1_; clear n0_ n1_; (try clear hb); (try clear hb2); (try clear hk); (try clear hi)) | ((with_reducible refine gate_callee (f := 27) rfl ?_); refine goesL_ (some 118) rfl rfl Tryd.func27 (by kernel_rfl) rfl #[.int .i64 364, .int .i64 1201, .int .i64 228] rfl (by (try simp only [List.map_toArray, List.map_cons, List.map_nil]); first | done | rfl | (simp only [List.length_drop, List.length_take]; rfl)) ?_; (with_reducible refine (civil_Yearly.calls kj17 364 1201 228 true t161 _ ?tabG A31.out).mono ?_); (case tabG => (first | exact hg | exact ⟨hg.out.below (by repeat (first | (with_reducible first | exact HB.out | apply below_alloc | apply pw_below_drewN | apply below_drew1) | exact HB.out))⟩)); rintro e w49 ⟨rfl, hb⟩; refine ⟨_, rfl, ?_⟩; have n0_ := Aside0.mk (Kd.R_below (by (with_reducible repeat (first | apply Kd.R_alloc | apply Kd.R_drewN | apply Kd.R_drew)); exact HO155.out) hb); have n1_ := Aside0.mk (below_step (by repeat (first | (with_reducible first | exact HB.out | apply below_alloc | apply pw_below_drewN | apply below_drew1) | exact HB.out)) hb); clear HO155; clear HB; have HO155 := n0_; have HB := n1_; clear n0_ n1_; (try clear hb); (try clear hb2); (try clear hk); (try clear hi)) | ((with_reducible refine gate_callee (f := 27) rfl ?_); refine goesL_ (some 122) rfl rfl Tryd.func27 (by kernel_rfl) rfl #[.int .i64 59, .int .i64 1201, .int .i64 228] rfl (by (try simp only [List.map_toArray, List.map_cons, List.map_nil]); first | done | rfl | (simp only [List.length_drop, List.length_take]; rfl)) ?_; (with_reducible refine (civil_Yearly.calls kj17 59 1201 228 false t163 _ ?tabG A32.out).mono ?_); (case tabG => (first | exact hg | exact ⟨hg.out.below (by repeat (first | (with_reducible first | exact HB.out | apply below_alloc | apply pw_below_drewN | apply below_drew1) | exact HB.out))⟩)); rintro e w50 ⟨rfl, hb⟩; refine ⟨_, rfl, ?_⟩; have n0_ := Aside0.mk (Kd.R_below (by (with_reducible repeat (first | apply Kd.R_alloc | apply Kd.R_drewN | apply Kd.R_drew)); exact HO155.out) hb); have n1_ := Aside0.mk (below_step (by repeat (first | (with_reducible first | exact HB.out | apply below_alloc | apply pw_below_drewN | apply below_drew1) | exact HB.out)) hb); clear HO155; clear HB; have HO155 := n0_; have HB := n1_; clear n0_ n1_; (try clear hb); (try clear hb2); (try clear hk); (try clear hi)))
                      go_ret
                      exact ⟨by first | rfl | (simp [errW_none, errW_some] <;> rfl) | (simp [*, errW_none, errW_some] <;> rfl), by repeat (first | (with_reducible first | exact HB.out | apply below_alloc | apply pw_below_drewN | apply below_drew1) | exact HB.out)⟩
                  · replace c35 := Bool.eq_false_iff.mpr c35
                    subst c35
                    have H1 : (some false) = some r := by rw [if_neg (show ¬ (false = true) by decide)] at H; exact H
                    clear H
                    have H := H1
                    clear H1
                    obtain rfl := Option.some.inj H
                    go_wp2_with (first | ((with_reducible refine gate_dst (N := 109) rfl ?_); refine Kd.R_lit (Kd.int .i64) _ 3 ?hg (N := 109) ?hd (xs := ([1] : List Int)) (inner := [.int .i64 1]) (ok := fun _ => True) (okp := fun _ => True) ?hr ?hp (fun _ hk => hk) trivial (Below.refl _ _) (Nat.le_refl _) (by simp) ?_; (case hd => rfl); (case hg => rfl); (case hr => first | (go_simp; done) | (go_simp; rfl)); (case hp => exact (Reps.one (show Kd.M (Kd.int .i64) _ _ _ 1 [.int .i64 1] from rfl) (Reps.none _ _))); intro v154 w51 ho52 hb hg_ hnew_; clear hg_ hnew_; (first | rw [← Ny153.out] at ho52 | (simp only [Int.reduceToNat] at ho52; rw [← Ny153.out] at ho52)); have n0_ := Aside0.mk (Kd.R_lower ho52 (below_size (by repeat (first | (with_reducible first | exact HB.out | apply below_alloc | apply pw_below_drewN | apply below_drew1) | exact HB.out)))); have n1_ := Aside0.mk (below_step (by repeat (first | (with_reducible first | exact HB.out | apply below_alloc | apply pw_below_drewN | apply below_drew1) | exact HB.out)) hb); clear HB; have HO155 := n0_; have HB := n1_; clear n0_ n1_; clear hb ho52; obtain ⟨Ao53, co53, eo53⟩ := Kd.R_slice HO155.out; subst eo53) | ((with_reducible refine gate_callee (f := 26) rfl ?_); refine goesL_ (some 110) rfl rfl Tryd.func26 (by kernel_rfl) rfl #[.int .i64 0, .int .i64 1, .slice Ao53 y153.length co53] rfl (by (try simp only [List.map_toArray, List.map_cons, List.map_nil]); first | done | rfl | (simp only [List.length_drop, List.length_take]; rfl)) ?_; (with_reducible refine (civil_Ahead.calls kj17 0 1 _ _ y153 t156 t157 _ ?side1 ?side2 A29.out).mono ?_); (case side1 => repeat (first | exact (Kd.R_reads' HO155.out).2.2 | (with_reducible refine Kd.C_alloc ?_ _) | (with_reducible refine Kd.C_drewN ?_ _) | (with_reducible refine Kd.C_drew ?_))); (case side2 => exact (Kd.R_reads' HO155.out).2.1); rintro e w54 ⟨rfl, hb⟩; refine ⟨_, rfl, ?_⟩; have n0_ := Aside0.mk (Kd.R_below (by (with_reducible repeat (first | apply Kd.R_alloc | apply Kd.R_drewN | apply Kd.R_drew)); exact HO155.out) hb); have n1_ := Aside0.mk (below_step (by repeat (first | (with_reducible first | exact HB.out | apply below_alloc | apply pw_below_drewN | apply below_drew1) | exact HB.out)) hb); clear HO155; clear HB; have HO155 := n0_; have HB := n1_; clear n0_ n1_; (try clear hb); (try clear hb2); (try clear hk); (try clear hi)) | ((with_reducible refine gate_callee (f := 26) rfl ?_); refine goesL_ (some 114) rfl rfl Tryd.func26 (by kernel_rfl) rfl #[.int .i64 5, .int .i64 0, .slice none 0 0] rfl (by (try simp only [List.map_toArray, List.map_cons, List.map_nil]); first | done | rfl | (simp only [List.length_drop, List.length_take]; rfl)) ?_; (refine (civil_Ahead.calls kj17 5 0 _ _ ([] : List Int) t158 t159 _ ?side1 ?side2 A30.out).mono ?_); (case side1 => exact Kd.C_nil _ _); (case side2 => exact Nat.le_refl _); rintro e w55 ⟨rfl, hb⟩; refine ⟨_, rfl, ?_⟩; have n0_ := Aside0.mk (Kd.R_below (by (with_reducible repeat (first | apply Kd.R_alloc | apply Kd.R_drewN | apply Kd.R_drew)); exact HO155.out) hb); have n1_ := Aside0.mk (below_step (by repeat (first | (with_reducible first | exact HB.out | apply below_alloc | apply pw_below_drewN | apply below_drew1) | exact HB.out)) hb); clear HO155; clear HB; have HO155 := n0_; have HB := n1_; clear n0_ n1_; (try clear hb); (try clear hb2); (try clear hk); (try clear hi)) | ((with_reducible refine gate_callee (f := 27) rfl ?_); refine goesL_ (some 118) rfl rfl Tryd.func27 (by kernel_rfl) rfl #[.int .i64 364, .int .i64 1201, .int .i64 228] rfl (by (try simp only [List.map_toArray, List.map_cons, List.map_nil]); first | done | rfl | (simp only [List.length_drop, List.length_take]; rfl)) ?_; (with_reducible refine (civil_Yearly.calls kj17 364 1201 228 false t161 _ ?tabG A31.out).mono ?_); (case tabG => (first | exact hg | exact ⟨hg.out.below (by repeat (first | (with_reducible first | exact HB.out | apply below_alloc | apply pw_below_drewN | apply below_drew1) | exact HB.out))⟩)); rintro e w56 ⟨rfl, hb⟩; refine ⟨_, rfl, ?_⟩; have n0_ := Aside0.mk (Kd.R_below (by (with_reducible repeat (first | apply Kd.R_alloc | apply Kd.R_drewN | apply Kd.R_drew)); exact HO155.out) hb); have n1_ := Aside0.mk (below_step (by repeat (first | (with_reducible first | exact HB.out | apply below_alloc | apply pw_below_drewN | apply below_drew1) | exact HB.out)) hb); clear HO155; clear HB; have HO155 := n0_; have HB := n1_; clear n0_ n1_; (try clear hb); (try clear hb2); (try clear hk); (try clear hi)) | ((with_reducible refine gate_callee (f := 27) rfl ?_); refine goesL_ (some 122) rfl rfl Tryd.func27 (by kernel_rfl) rfl #[.int .i64 59, .int .i64 1201, .int .i64 228] rfl (by (try simp only [List.map_toArray, List.map_cons, List.map_nil]); first | done | rfl | (simp only [List.length_drop, List.length_take]; rfl)) ?_; (with_reducible refine (civil_Yearly.calls kj17 59 1201 228 t162 t163 _ ?tabG A32.out).mono ?_); (case tabG => (first | exact hg | exact ⟨hg.out.below (by repeat (first | (with_reducible first | exact HB.out | apply below_alloc | apply pw_below_drewN | apply below_drew1) | exact HB.out))⟩)); rintro e w57 ⟨rfl, hb⟩; refine ⟨_, rfl, ?_⟩; have n0_ := Aside0.mk (Kd.R_below (by (with_reducible repeat (first | apply Kd.R_alloc | apply Kd.R_drewN | apply Kd.R_drew)); exact HO155.out) hb); have n1_ := Aside0.mk (below_step (by repeat (first | (with_reducible first | exact HB.out | apply below_alloc | apply pw_below_drewN | apply below_drew1) | exact HB.out)) hb); clear HO155; clear HB; have HO155 := n0_; have HB := n1_; clear n0_ n1_; (try clear hb); (try clear hb2); (try clear hk); (try clear hi)))
                    go_ret
                    exact ⟨by first | rfl | (simp [errW_none, errW_some] <;> rfl) | (simp [*, errW_none, errW_some] <;> rfl), by repeat (first | (with_reducible first | exact HB.out | apply below_alloc | apply pw_below_drewN | apply below_drew1) | exact HB.out)⟩
                · rw [if_neg c34] at H
                  have c34b0 : (t158 == 7) = false := beq_eq_false_iff_ne.mpr c34
                  have c34b1 : (t158 != 7) = true := bne_iff_ne.mpr c34
                  obtain rfl := Option.some.inj H
                  go_wp2_with (first | ((with_reducible refine gate_dst (N := 109) rfl ?_); refine Kd.R_lit (Kd.int .i64) _ 3 ?hg (N := 109) ?hd (xs := ([1] : List Int)) (inner := [.int .i64 1]) (ok := fun _ => True) (okp := fun _ => True) ?hr ?hp (fun _ hk => hk) trivial (Below.refl _ _) (Nat.le_refl _) (by simp) ?_; (case hd => rfl); (case hg => rfl); (case hr => first | (go_simp; done) | (go_simp; rfl)); (case hp => exact (Reps.one (show Kd.M (Kd.int .i64) _ _ _ 1 [.int .i64 1] from rfl) (Reps.none _ _))); intro v154 w58 ho59 hb hg_ hnew_; clear hg_ hnew_; (first | rw [← Ny153.out] at ho59 | (simp only [Int.reduceToNat] at ho59; rw [← Ny153.out] at ho59)); have n0_ := Aside0.mk (Kd.R_lower ho59 (below_size (by repeat (first | (with_reducible first | exact HB.out | apply below_alloc | apply pw_below_drewN | apply below_drew1) | exact HB.out)))); have n1_ := Aside0.mk (below_step (by repeat (first | (with_reducible first | exact HB.out | apply below_alloc | apply pw_below_drewN | apply below_drew1) | exact HB.out)) hb); clear HB; have HO155 := n0_; have HB := n1_; clear n0_ n1_; clear hb ho59; obtain ⟨Ao60, co60, eo60⟩ := Kd.R_slice HO155.out; subst eo60) | ((with_reducible refine gate_callee (f := 26) rfl ?_); refine goesL_ (some 110) rfl rfl Tryd.func26 (by kernel_rfl) rfl #[.int .i64 0, .int .i64 1, .slice Ao60 y153.length co60] rfl (by (try simp only [List.map_toArray, List.map_cons, List.map_nil]); first | done | rfl | (simp only [List.length_drop, List.length_take]; rfl)) ?_; (with_reducible refine (civil_Ahead.calls kj17 0 1 _ _ y153 t156 t157 _ ?side1 ?side2 A29.out).mono ?_); (case side1 => repeat (first | exact (Kd.R_reads' HO155.out).2.2 | (with_reducible refine Kd.C_alloc ?_ _) | (with_reducible refine Kd.C_drewN ?_ _) | (with_reducible refine Kd.C_drew ?_))); (case side2 => exact (Kd.R_reads' HO155.out).2.1); rintro e w61 ⟨rfl, hb⟩; refine ⟨_, rfl, ?_⟩; have n0_ := Aside0.mk (Kd.R_below (by (with_reducible repeat (first | apply Kd.R_alloc | apply Kd.R_drewN | apply Kd.R_drew)); exact HO155.out) hb); have n1_ := Aside0.mk (below_step (by repeat (first | (with_reducible first | exact HB.out | apply below_alloc | apply pw_below_drewN | apply below_drew1) | exact HB.out)) hb); clear HO155; clear HB; have HO155 := n0_; have HB := n1_; clear n0_ n1_; (try clear hb); (try clear hb2); (try clear hk); (try clear hi)) | ((with_reducible refine gate_callee (f := 26) rfl ?_); refine goesL_ (some 114) rfl rfl Tryd.func26 (by kernel_rfl) rfl #[.int .i64 5, .int .i64 0, .slice none 0 0] rfl (by (try simp only [List.map_toArray, List.map_cons, List.map_nil]); first | done | rfl | (simp only [List.length_drop, List.length_take]; rfl)) ?_; (refine (civil_Ahead.calls kj17 5 0 _ _ ([] : List Int) t158 t159 _ ?side1 ?side2 A30.out).mono ?_); (case side1 => exact Kd.C_nil _ _); (case side2 => exact Nat.le_refl _); rintro e w62 ⟨rfl, hb⟩; refine ⟨_, rfl, ?_⟩; have n0_ := Aside0.mk (Kd.R_below (by (with_reducible repeat (first | apply Kd.R_alloc | apply Kd.R_drewN | apply Kd.R_drew)); exact HO155.out) hb); have n1_ := Aside0.mk (below_step (by repeat (first | (with_reducible first | exact HB.out | apply below_alloc | apply pw_below_drewN | apply below_drew1) | exact HB.out)) hb); clear HO155; clear HB; have HO155 := n0_; have HB := n1_; clear n0_ n1_; (try clear hb); (try clear hb2); (try clear hk); (try clear hi)) | ((with_reducible refine gate_callee (f := 27) rfl ?_); refine goesL_ (some 118) rfl rfl Tryd.func27 (by kernel_rfl) rfl #[.int .i64 364, .int .i64 1201, .int .i64 228] rfl (by (try simp only [List.map_toArray, List.map_cons, List.map_nil]); first | done | rfl | (simp only [List.length_drop, List.length_take]; rfl)) ?_; (with_reducible refine (civil_Yearly.calls kj17 364 1201 228 t160 t161 _ ?tabG A31.out).mono ?_); (case tabG => (first | exact hg | exact ⟨hg.out.below (by repeat (first | (with_reducible first | exact HB.out | apply below_alloc | apply pw_below_drewN | apply below_drew1) | exact HB.out))⟩)); rintro e w63 ⟨rfl, hb⟩; refine ⟨_, rfl, ?_⟩; have n0_ := Aside0.mk (Kd.R_below (by (with_reducible repeat (first | apply Kd.R_alloc | apply Kd.R_drewN | apply Kd.R_drew)); exact HO155.out) hb); have n1_ := Aside0.mk (below_step (by repeat (first | (with_reducible first | exact HB.out | apply below_alloc | apply pw_below_drewN | apply below_drew1) | exact HB.out)) hb); clear HO155; clear HB; have HO155 := n0_; have HB := n1_; clear n0_ n1_; (try clear hb); (try clear hb2); (try clear hk); (try clear hi)) | ((with_reducible refine gate_callee (f := 27) rfl ?_); refine goesL_ (some 122) rfl rfl Tryd.func27 (by kernel_rfl) rfl #[.int .i64 59, .int .i64 1201, .int .i64 228] rfl (by (try simp only [List.map_toArray, List.map_cons, List.map_nil]); first | done | rfl | (simp only [List.length_drop, List.length_take]; rfl)) ?_; (with_reducible refine (civil_Yearly.calls kj17 59 1201 228 t162 t163 _ ?tabG A32.out).mono ?_); (case tabG => (first | exact hg | exact ⟨hg.out.below (by repeat (first | (with_reducible first | exact HB.out | apply below_alloc | apply pw_below_drewN | apply below_drew1) | exact HB.out))⟩)); rintro e w64 ⟨rfl, hb⟩; refine ⟨_, rfl, ?_⟩; have n0_ := Aside0.mk (Kd.R_below (by (with_reducible repeat (first | apply Kd.R_alloc | apply Kd.R_drewN | apply Kd.R_drew)); exact HO155.out) hb); have n1_ := Aside0.mk (below_step (by repeat (first | (with_reducible first | exact HB.out | apply below_alloc | apply pw_below_drewN | apply below_drew1) | exact HB.out)) hb); clear HO155; clear HB; have HO155 := n0_; have HB := n1_; clear n0_ n1_; (try clear hb); (try clear hb2); (try clear hk); (try clear hi)))
                  go_ret
                  exact ⟨by first | rfl | (simp [errW_none, errW_some] <;> rfl) | (simp [*, errW_none, errW_some] <;> rfl), by repeat (first | (with_reducible first | exact HB.out | apply below_alloc | apply pw_below_drewN | apply below_drew1) | exact HB.out)⟩
              · rw [if_neg c33] at H
                have c33b0 : (t156 == 2) = false := beq_eq_false_iff_ne.mpr c33
                have c33b1 : (t156 != 2) = true := bne_iff_ne.mpr c33
                obtain rfl := Option.some.inj H
                go_wp2_with (first | ((with_reducible refine gate_dst (N := 109) rfl ?_); refine Kd.R_lit (Kd.int .i64) _ 3 ?hg (N := 109) ?hd (xs := ([1] : List Int)) (inner := [.int .i64 1]) (ok := fun _ => True) (okp := fun _ => True) ?hr ?hp (fun _ hk => hk) trivial (Below.refl _ _) (Nat.le_refl _) (by simp) ?_; (case hd => rfl); (case hg => rfl); (case hr => first | (go_simp; done) | (go_simp; rfl)); (case hp => exact (Reps.one (show Kd.M (Kd.int .i64) _ _ _ 1 [.int .i64 1] from rfl) (Reps.none _ _))); intro v154 w65 ho66 hb hg_ hnew_; clear hg_ hnew_; (first | rw [← Ny153.out] at ho66 | (simp only [Int.reduceToNat] at ho66; rw [← Ny153.out] at ho66)); have n0_ := Aside0.mk (Kd.R_lower ho66 (below_size (by repeat (first | (with_reducible first | exact HB.out | apply below_alloc | apply pw_below_drewN | apply below_drew1) | exact HB.out)))); have n1_ := Aside0.mk (below_step (by repeat (first | (with_reducible first | exact HB.out | apply below_alloc | apply pw_below_drewN | apply below_drew1) | exact HB.out)) hb); clear HB; have HO155 := n0_; have HB := n1_; clear n0_ n1_; clear hb ho66; obtain ⟨Ao67, co67, eo67⟩ := Kd.R_slice HO155.out; subst eo67) | ((with_reducible refine gate_callee (f := 26) rfl ?_); refine goesL_ (some 110) rfl rfl Tryd.func26 (by kernel_rfl) rfl #[.int .i64 0, .int .i64 1, .slice Ao67 y153.length co67] rfl (by (try simp only [List.map_toArray, List.map_cons, List.map_nil]); first | done | rfl | (simp only [List.length_drop, List.length_take]; rfl)) ?_; (with_reducible refine (civil_Ahead.calls kj17 0 1 _ _ y153 t156 t157 _ ?side1 ?side2 A29.out).mono ?_); (case side1 => repeat (first | exact (Kd.R_reads' HO155.out).2.2 | (with_reducible refine Kd.C_alloc ?_ _) | (with_reducible refine Kd.C_drewN ?_ _) | (with_reducible refine Kd.C_drew ?_))); (case side2 => exact (Kd.R_reads' HO155.out).2.1); rintro e w68 ⟨rfl, hb⟩; refine ⟨_, rfl, ?_⟩; have n0_ := Aside0.mk (Kd.R_below (by (with_reducible repeat (first | apply Kd.R_alloc | apply Kd.R_drewN | apply Kd.R_drew)); exact HO155.out) hb); have n1_ := Aside0.mk (below_step (by repeat (first | (with_reducible first | exact HB.out | apply below_alloc | apply pw_below_drewN | apply below_drew1) | exact HB.out)) hb); clear HO155; clear HB; have HO155 := n0_; have HB := n1_; clear n0_ n1_; (try clear hb); (try clear hb2); (try clear hk); (try clear hi)) | ((with_reducible refine gate_callee (f := 26) rfl ?_); refine goesL_ (some 114) rfl rfl Tryd.func26 (by kernel_rfl) rfl #[.int .i64 5, .int .i64 0, .slice none 0 0] rfl (by (try simp only [List.map_toArray, List.map_cons, List.map_nil]); first | done | rfl | (simp only [List.length_drop, List.length_take]; rfl)) ?_; (refine (civil_Ahead.calls kj17 5 0 _ _ ([] : List Int) t158 t159 _ ?side1 ?side2 A30.out).mono ?_); (case side1 => exact Kd.C_nil _ _); (case side2 => exact Nat.le_refl _); rintro e w69 ⟨rfl, hb⟩; refine ⟨_, rfl, ?_⟩; have n0_ := Aside0.mk (Kd.R_below (by (with_reducible repeat (first | apply Kd.R_alloc | apply Kd.R_drewN | apply Kd.R_drew)); exact HO155.out) hb); have n1_ := Aside0.mk (below_step (by repeat (first | (with_reducible first | exact HB.out | apply below_alloc | apply pw_below_drewN | apply below_drew1) | exact HB.out)) hb); clear HO155; clear HB; have HO155 := n0_; have HB := n1_; clear n0_ n1_; (try clear hb); (try clear hb2); (try clear hk); (try clear hi)) | ((with_reducible refine gate_callee (f := 27) rfl ?_); refine goesL_ (some 118) rfl rfl Tryd.func27 (by kernel_rfl) rfl #[.int .i64 364, .int .i64 1201, .int .i64 228] rfl (by (try simp only [List.map_toArray, List.map_cons, List.map_nil]); first | done | rfl | (simp only [List.length_drop, List.length_take]; rfl)) ?_; (with_reducible refine (civil_Yearly.calls kj17 364 1201 228 t160 t161 _ ?tabG A31.out).mono ?_); (case tabG => (first | exact hg | exact ⟨hg.out.below (by repeat (first | (with_reducible first | exact HB.out | apply below_alloc | apply pw_below_drewN | apply below_drew1) | exact HB.out))⟩)); rintro e w70 ⟨rfl, hb⟩; refine ⟨_, rfl, ?_⟩; have n0_ := Aside0.mk (Kd.R_below (by (with_reducible repeat (first | apply Kd.R_alloc | apply Kd.R_drewN | apply Kd.R_drew)); exact HO155.out) hb); have n1_ := Aside0.mk (below_step (by repeat (first | (with_reducible first | exact HB.out | apply below_alloc | apply pw_below_drewN | apply below_drew1) | exact HB.out)) hb); clear HO155; clear HB; have HO155 := n0_; have HB := n1_; clear n0_ n1_; (try clear hb); (try clear hb2); (try clear hk); (try clear hi)) | ((with_reducible refine gate_callee (f := 27) rfl ?_); refine goesL_ (some 122) rfl rfl Tryd.func27 (by kernel_rfl) rfl #[.int .i64 59, .int .i64 1201, .int .i64 228] rfl (by (try simp only [List.map_toArray, List.map_cons, List.map_nil]); first | done | rfl | (simp only [List.length_drop, List.length_take]; rfl)) ?_; (with_reducible refine (civil_Yearly.calls kj17 59 1201 228 t162 t163 _ ?tabG A32.out).mono ?_); (case tabG => (first | exact hg | exact ⟨hg.out.below (by repeat (first | (with_reducible first | exact HB.out | apply below_alloc | apply pw_below_drewN | apply below_drew1) | exact HB.out))⟩)); rintro e w71 ⟨rfl, hb⟩; refine ⟨_, rfl, ?_⟩; have n0_ := Aside0.mk (Kd.R_below (by (with_reducible repeat (first | apply Kd.R_alloc | apply Kd.R_drewN | apply Kd.R_drew)); exact HO155.out) hb); have n1_ := Aside0.mk (below_step (by repeat (first | (with_reducible first | exact HB.out | apply below_alloc | apply pw_below_drewN | apply below_drew1) | exact HB.out)) hb); clear HO155; clear HB; have HO155 := n0_; have HB := n1_; clear n0_ n1_; (try clear hb); (try clear hb2); (try clear hk); (try clear hi)))
                go_ret
                exact ⟨by first | rfl | (simp [errW_none, errW_some] <;> rfl) | (simp [*, errW_none, errW_some] <;> rfl), by repeat (first | (with_reducible first | exact HB.out | apply below_alloc | apply pw_below_drewN | apply below_drew1) | exact HB.out)⟩

/-! ### letterbagkit_Pick: function 18 -/
def letterbagkit_Pick.f (a0 : Int) (a1 : Int) : Option (Int) := if a1 < 1 then (some 0) else (if a1 = 0 then (none) else (if (Int.tmod a0 a1) < 0 then (some (wrap64 ((Int.tmod a0 a1) + a1))) else (some (Int.tmod a0 a1))))
set_option maxHeartbeats 8000000 in
set_option maxRecDepth 100000 in
theorem letterbagkit_Pick.calls (a0 : Int) (a1 : Int) (r : Int) (w : World) (h : letterbagkit_Pick.f a0 a1 = some r) :
    Calls Tryd.prog 18 #[.int .i64 a0, .int .i64 a1] w fun e w' => e = .returned (.int .i64 r) ∧ Drawn0 w w' := by
  have H : (if a1 < 1 then (some 0) else (if a1 = 0 then (none) else (if (Int.tmod a0 a1) < 0 then (some (wrap64 ((Int.tmod a0 a1) + a1))) else (some (Int.tmod a0 a1))))) = some r := h
  clear h
  by_cases c3 : a1 < 1
  · rw [if_pos c3] at H
    have c3b0 : decide (a1 < 1) = true := decide_eq_true c3
    clear c3
    obtain rfl := Option.some.inj H
    go_enter Tryd.func18, Tryd.ntmps18
    go_wp2
    go_ret
    exact ⟨by first | rfl | (simp; done) | (simp [*]; done) | (simp; exact (show ∀ a_ b_ : Bool, (a_ == b_) = (!(a_ != b_)) from by decide) _ _), by repeat (first | exact Drawn0.refl _ | apply Drawn0.step)⟩
  · rw [if_neg c3] at H
    have c3b0 : decide (a1 < 1) = false := decide_eq_false c3
    clear c3
    by_cases c4 : a1 = 0
    · rw [if_pos c4] at H
      exact absurd H (by simp)
    · rw [if_neg c4] at H
      have c4b0 : (a1 == 0) = false := beq_eq_false_iff_ne.mpr c4
      have c4b1 : (a1 != 0) = true := bne_iff_ne.mpr c4
      by_cases c5 : (Int.tmod a0 a1) < 0
      · rw [if_pos c5] at H
        have c5b0 : decide ((Int.tmod a0 a1) < 0) = true := decide_eq_true c5
        clear c5
        obtain rfl := Option.some.inj H
        go_enter Tryd.func18, Tryd.ntmps18
        go_wp2
        go_ret
        exact ⟨by first | rfl | (simp; done) | (simp [*]; done) | (simp; exact (show ∀ a_ b_ : Bool, (a_ == b_) = (!(a_ != b_)) from by decide) _ _), by repeat (first | exact Drawn0.refl _ | apply Drawn0.step)⟩
      · rw [if_neg c5] at H
        have c5b0 : decide ((Int.tmod a0 a1) < 0) = false := decide_eq_false c5
        clear c5
        obtain rfl := Option.some.inj H
        go_enter Tryd.func18, Tryd.ntmps18
        go_wp2
        go_ret
        exact ⟨by first | rfl | (simp; done) | (simp [*]; done) | (simp; exact (show ∀ a_ b_ : Bool, (a_ == b_) = (!(a_ != b_)) from by decide) _ _), by repeat (first | exact Drawn0.refl _ | apply Drawn0.step)⟩

/-! ### civil_Time: function 22 -/
def civil_Time.j0 : Nat → Int → Int → Bool → Option (Int × Int)
  | 0, _, _, _ => none
  | k + 1, x0, x1, x12 => if x12 = true then (some (0, 2)) else ((civil_within.f x0 730484).bind fun t164 => (if t164 = 0 then (some (wrap64 ((wrap64 (x0 * 1440)) + x1), 0)) else (some (0, t164))))
def civil_Time.f (k : Nat) (a0 : Int) (a1 : Int) : Option (Int × Int) := if a1 < 0 then (civil_Time.j0 k a0 a1 true) else (civil_Time.j0 k a0 a1 (decide (a1 ≥ 1440)))
theorem civil_Time.mono_l : ∀ k, (∀ y0 y1 y2, LeO (civil_Time.j0 k y0 y1 y2) (civil_Time.j0 (k + 1) y0 y1 y2))
  | 0 => fun _ _ _ r h => by simp [civil_Time.j0] at h
  | k + 1 => by
    have ih0 := civil_Time.mono_l k
    · intro y0 y1 y2
      unfold civil_Time.j0
      repeat' first
      | (with_reducible exact ih0 _ _ _)
      | (with_reducible exact LeO.refl _)
      | (with_reducible exact LeO.none _)
      | (with_reducible refine LeO.ite ?_ ?_)
      | (with_reducible refine LeO.bind ?_ (fun _ => ?_))
      | exact ih0 _ _ _
      | exact LeO.none _
      | refine LeO.ite ?_ ?_
      | refine LeO.bind ?_ (fun _ => ?_)
theorem civil_Time.mono : ∀ a0 a1 k, LeO (civil_Time.f k a0 a1) (civil_Time.f (k + 1) a0 a1) := by
  intro a0 a1 k
  have ih0 := civil_Time.mono_l k
  unfold civil_Time.f
  repeat' first
      | (with_reducible exact ih0 _ _ _)
      | (with_reducible exact LeO.refl _)
      | (with_reducible exact LeO.none _)
      | (with_reducible refine LeO.ite ?_ ?_)
      | (with_reducible refine LeO.bind ?_ (fun _ => ?_))
      | exact ih0 _ _ _
      | exact LeO.none _
      | refine LeO.ite ?_ ?_
      | refine LeO.bind ?_ (fun _ => ?_)
set_option maxHeartbeats 8000000 in
set_option maxRecDepth 100000 in
theorem civil_Time.calls (k : Nat) (a0 : Int) (a1 : Int) (r1 : Int) (r2 : Int) (w : World) (h : civil_Time.f k a0 a1 = some (r1, r2)) :
    Calls Tryd.prog 22 #[.int .i64 a0, .int .i64 a1] w fun e w' => e = .returned (.tuple #[.int .i64 r1, .int .i64 r2]) ∧ Drawn0 w w' := by
  have H : (if a1 < 0 then (civil_Time.j0 k a0 a1 true) else (civil_Time.j0 k a0 a1 (decide (a1 ≥ 1440)))) = some (r1, r2) := h
  clear h
  have HC3 := Aside0.mk H
  clear H
  go_enter Tryd.func22, Tryd.ntmps22
  go_upto_region 1 with (fail)
  go_cut [12] (fun v12 wc => ∃ (kq : Nat) (x12_2 : Bool), v12 = .bool x12_2 ∧ Aside0 (civil_Time.j0 kq a0 a1 x12_2 = some (r1, r2)) ∧ Aside0 (kq ≤ k) ∧ Drawn0 w wc)
  case first =>
    have H := HC3.out
    clear HC3
    by_cases c4 : a1 < 0
    · rw [if_pos c4] at H
      have c4b0 : decide (a1 < 0) = true := decide_eq_true c4
      clear c4
      (first | rw [c4b0] | (simp only [i64_w, i32_w]; rw [c4b0]) | skip)
      have H' := Aside0.mk H
      clear H
      go_wp2
      go_meet
      case rel => exact ⟨_, (true), (by first | rfl | (simp; done) | (simp [*]; done) | (simp; exact (show ∀ a_ b_ : Bool, (a_ == b_) = (!(a_ != b_)) from by decide) _ _) | (rw [Bool.eq_iff_iff]; simp; done) | (simp; rw [Bool.eq_iff_iff]; simp; done)), H', ⟨by first | omega | exact Nat.le_refl _⟩, by repeat (first | exact Drawn0.refl _ | apply Drawn0.step)⟩
    · rw [if_neg c4] at H
      have c4b0 : decide (a1 < 0) = false := decide_eq_false c4
      clear c4
      (first | rw [c4b0] | (simp only [i64_w, i32_w]; rw [c4b0]) | skip)
      have H' := Aside0.mk H
      clear H
      go_wp2
      go_meet
      case rel => exact ⟨_, (decide (a1 ≥ 1440)), (by first | rfl | (simp; done) | (simp [*]; done) | (simp; exact (show ∀ a_ b_ : Bool, (a_ == b_) = (!(a_ != b_)) from by decide) _ _) | (rw [Bool.eq_iff_iff]; simp; done) | (simp; rw [Bool.eq_iff_iff]; simp; done)), H', ⟨by first | omega | exact Nat.le_refl _⟩, by repeat (first | exact Drawn0.refl _ | apply Drawn0.step)⟩
  case rest =>
    clear HC3
    try clear c2
    try clear p2
    try clear c4
    try clear c4b0
    obtain ⟨kq, x12_2, rfl, HA, HJ2, ⟨mc2, rfl⟩⟩ := hcut
    cases kq with
    | zero => exact absurd HA.out (by simp [civil_Time.j0])
    | succ kj2 =>
      have H := HA.out
      clear HA
      simp only [civil_Time.j0] at H
      by_cases c5 : x12_2 = true
      · subst c5
        have H1 : (some (0, 2)) = some (r1, r2) := by rw [if_pos rfl] at H; exact H
        clear H
        have H := H1
        clear H1
        simp only [Option.some.injEq, Prod.mk.injEq] at H
        obtain ⟨rfl, rfl⟩ := H
        go_wp2
        go_ret2
        exact ⟨by first | rfl | (simp; done) | (simp [*]; done) | (simp; exact (show ∀ a_ b_ : Bool, (a_ == b_) = (!(a_ != b_)) from by decide) _ _), by repeat (first | exact Drawn0.refl _ | apply Drawn0.step)⟩
      · replace c5 := Bool.eq_false_iff.mpr c5
        subst c5
        have H1 : ((civil_within.f a0 730484).bind fun t164 => (if t164 = 0 then (some (wrap64 ((wrap64 (a0 * 1440)) + a1), 0)) else (some (0, t164)))) = some (r1, r2) := by rw [if_neg (show ¬ (false = true) by decide)] at H; exact H
        clear H
        have H := H1
        clear H1
        replace H := Option.bind_eq_some_iff.mp H
        obtain ⟨t164, A60, H⟩ := H
        replace H : (if t164 = 0 then (some (wrap64 ((wrap64 (a0 * 1440)) + a1), 0)) else (some (0, t164))) = some (r1, r2) := H
        have A6 := Aside0.mk A60
        clear A60
        by_cases c7 : t164 = 0
        · rw [if_pos c7] at H
          have c7b0 : (t164 == 0) = true := beq_iff_eq.mpr c7
          have c7b1 : (t164 != 0) = false := bne_eq_false_iff_eq.mpr c7
          clear c7
          simp only [Option.some.injEq, Prod.mk.injEq] at H
          obtain ⟨rfl, rfl⟩ := H
          go_wp2_with (first | ((with_reducible refine gate_callee (f := 54) rfl ?_); refine goesL_ (some 14) rfl rfl Tryd.func54 (by kernel_rfl) rfl #[.int .i64 a0, .int .i64 730484] rfl (by (try simp only [List.map_toArray, List.map_cons, List.map_nil]); first | done | rfl | (simp only [List.length_drop, List.length_take]; rfl)) ?_; (with_reducible refine (civil_within.calls a0 730484 t164 _ A6.out).mono ?_); rintro e w' ⟨rfl, ⟨nd, rfl⟩⟩; refine ⟨_, rfl, ?_⟩))
          go_ret2
          exact ⟨by first | rfl | (simp; done) | (simp [*]; done) | (simp; exact (show ∀ a_ b_ : Bool, (a_ == b_) = (!(a_ != b_)) from by decide) _ _), by repeat (first | exact Drawn0.refl _ | apply Drawn0.step)⟩
        · rw [if_neg c7] at H
          have c7b0 : (t164 == 0) = false := beq_eq_false_iff_ne.mpr c7
          have c7b1 : (t164 != 0) = true := bne_iff_ne.mpr c7
          simp only [Option.some.injEq, Prod.mk.injEq] at H
          obtain ⟨rfl, rfl⟩ := H
          go_wp2_with (first | ((with_reducible refine gate_callee (f := 54) rfl ?_); refine goesL_ (some 14) rfl rfl Tryd.func54 (by kernel_rfl) rfl #[.int .i64 a0, .int .i64 730484] rfl (by (try simp only [List.map_toArray, List.map_cons, List.map_nil]); first | done | rfl | (simp only [List.length_drop, List.length_take]; rfl)) ?_; (with_reducible refine (civil_within.calls a0 730484 t164 _ A6.out).mono ?_); rintro e w' ⟨rfl, ⟨nd, rfl⟩⟩; refine ⟨_, rfl, ?_⟩))
          go_ret2
          exact ⟨by first | rfl | (simp; done) | (simp [*]; done) | (simp; exact (show ∀ a_ b_ : Bool, (a_ == b_) = (!(a_ != b_)) from by decide) _ _), by repeat (first | exact Drawn0.refl _ | apply Drawn0.step)⟩

/-! ### civil_Split: function 23 -/
def civil_Split.f (a0 : Int) : Option (Int × Int × Int) := (civil_within.f a0 1051898399).bind fun t165 => (if t165 = 0 then (some (wrap64 (Int.tdiv a0 1440), Int.tmod a0 1440, 0)) else (some (0, 0, t165)))
set_option maxHeartbeats 8000000 in
set_option maxRecDepth 100000 in
theorem civil_Split.calls (a0 : Int) (r1 : Int) (r2 : Int) (r3 : Int) (w : World) (h : civil_Split.f a0 = some (r1, r2, r3)) :
    Calls Tryd.prog 23 #[.int .i64 a0] w fun e w' => e = .returned (.tuple #[.int .i64 r1, .int .i64 r2, .int .i64 r3]) ∧ Drawn0 w w' := by
  have H : ((civil_within.f a0 1051898399).bind fun t165 => (if t165 = 0 then (some (wrap64 (Int.tdiv a0 1440), Int.tmod a0 1440, 0)) else (some (0, 0, t165)))) = some (r1, r2, r3) := h
  clear h
  replace H := Option.bind_eq_some_iff.mp H
  obtain ⟨t165, A20, H⟩ := H
  replace H : (if t165 = 0 then (some (wrap64 (Int.tdiv a0 1440), Int.tmod a0 1440, 0)) else (some (0, 0, t165))) = some (r1, r2, r3) := H
  have A2 := Aside0.mk A20
  clear A20
  by_cases c3 : t165 = 0
  · rw [if_pos c3] at H
    have c3b0 : (t165 == 0) = true := beq_iff_eq.mpr c3
    have c3b1 : (t165 != 0) = false := bne_eq_false_iff_eq.mpr c3
    clear c3
    simp only [Option.some.injEq, Prod.mk.injEq] at H
    obtain ⟨rfl, rfl, rfl⟩ := H
    go_enter Tryd.func23, Tryd.ntmps23
    go_wp2_with (first | ((with_reducible refine gate_callee (f := 54) rfl ?_); refine goesL_ (some 7) rfl rfl Tryd.func54 (by kernel_rfl) rfl #[.int .i64 a0, .int .i64 1051898399] rfl (by (try simp only [List.map_toArray, List.map_cons, List.map_nil]); first | done | rfl | (simp only [List.length_drop, List.length_take]; rfl)) ?_; (with_reducible refine (civil_within.calls a0 1051898399 t165 _ A2.out).mono ?_); rintro e w' ⟨rfl, ⟨nd, rfl⟩⟩; refine ⟨_, rfl, ?_⟩))
    go_ret3
    exact ⟨by first | rfl | (simp; done) | (simp [*]; done) | (simp; exact (show ∀ a_ b_ : Bool, (a_ == b_) = (!(a_ != b_)) from by decide) _ _), by repeat (first | exact Drawn0.refl _ | apply Drawn0.step)⟩
  · rw [if_neg c3] at H
    have c3b0 : (t165 == 0) = false := beq_eq_false_iff_ne.mpr c3
    have c3b1 : (t165 != 0) = true := bne_iff_ne.mpr c3
    simp only [Option.some.injEq, Prod.mk.injEq] at H
    obtain ⟨rfl, rfl, rfl⟩ := H
    go_enter Tryd.func23, Tryd.ntmps23
    go_wp2_with (first | ((with_reducible refine gate_callee (f := 54) rfl ?_); refine goesL_ (some 7) rfl rfl Tryd.func54 (by kernel_rfl) rfl #[.int .i64 a0, .int .i64 1051898399] rfl (by (try simp only [List.map_toArray, List.map_cons, List.map_nil]); first | done | rfl | (simp only [List.length_drop, List.length_take]; rfl)) ?_; (with_reducible refine (civil_within.calls a0 1051898399 t165 _ A2.out).mono ?_); rintro e w' ⟨rfl, ⟨nd, rfl⟩⟩; refine ⟨_, rfl, ?_⟩))
    go_ret3
    exact ⟨by first | rfl | (simp; done) | (simp [*]; done) | (simp; exact (show ∀ a_ b_ : Bool, (a_ == b_) = (!(a_ != b_)) from by decide) _ _), by repeat (first | exact Drawn0.refl _ | apply Drawn0.step)⟩

/-! ### cmp_isNaN_int: function 74 -/
def cmp_isNaN_int.f (a0 : Int) : Option (Bool) := some (a0 != a0)
set_option maxHeartbeats 8000000 in
set_option maxRecDepth 100000 in
theorem cmp_isNaN_int.calls (a0 : Int) (r : Bool) (w : World) (h : cmp_isNaN_int.f a0 = some r) :
    Calls Tryd.prog 74 #[.int .i64 a0] w fun e w' => e = .returned (.bool r) ∧ Drawn0 w w' := by
  have H : (some (a0 != a0)) = some r := h
  clear h
  obtain rfl := Option.some.inj H
  go_enter Tryd.func74, Tryd.ntmps74
  go_wp2
  go_ret
  exact ⟨by first | rfl | (simp; done) | (simp [*]; done) | (simp; exact (show ∀ a_ b_ : Bool, (a_ == b_) = (!(a_ != b_)) from by decide) _ _), by repeat (first | exact Drawn0.refl _ | apply Drawn0.step)⟩

/-! ### cmp_Less_int: function 70 -/
def cmp_Less_int.f (a0 : Int) (a1 : Int) : Option (Bool) := (cmp_isNaN_int.f a0).bind fun t166 => (if t166 = true then ((cmp_isNaN_int.f a1).bind fun t167 => (if t167 = true then (some (decide (a0 < a1))) else (some true))) else (some (decide (a0 < a1))))
set_option maxHeartbeats 8000000 in
set_option maxRecDepth 100000 in
theorem cmp_Less_int.calls (a0 : Int) (a1 : Int) (r : Bool) (w : World) (h : cmp_Less_int.f a0 a1 = some r) :
    Calls Tryd.prog 70 #[.int .i64 a0, .int .i64 a1] w fun e w' => e = .returned (.bool r) ∧ Drawn0 w w' := by
  have H : ((cmp_isNaN_int.f a0).bind fun t166 => (if t166 = true then ((cmp_isNaN_int.f a1).bind fun t167 => (if t167 = true then (some (decide (a0 < a1))) else (some true))) else (some (decide (a0 < a1))))) = some r := h
  clear h
  replace H := Option.bind_eq_some_iff.mp H
  obtain ⟨t166, A30, H⟩ := H
  replace H : (if t166 = true then ((cmp_isNaN_int.f a1).bind fun t167 => (if t167 = true then (some (decide (a0 < a1))) else (some true))) else (some (decide (a0 < a1)))) = some r := H
  have A3 := Aside0.mk A30
  clear A30
  by_cases c4 : t166 = true
  · subst c4
    have H1 : ((cmp_isNaN_int.f a1).bind fun t167 => (if t167 = true then (some (decide (a0 < a1))) else (some true))) = some r := by rw [if_pos rfl] at H; exact H
    clear H
    have H := H1
    clear H1
    replace H := Option.bind_eq_some_iff.mp H
    obtain ⟨t167, A50, H⟩ := H
    replace H : (if t167 = true then (some (decide (a0 < a1))) else (some true)) = some r := H
    have A5 := Aside0.mk A50
    clear A50
    by_cases c6 : t167 = true
    · subst c6
      have H1 : (some (decide (a0 < a1))) = some r := by rw [if_pos rfl] at H; exact H
      clear H
      have H := H1
      clear H1
      obtain rfl := Option.some.inj H
      go_enter Tryd.func70, Tryd.ntmps70
      go_wp2_with (first | ((with_reducible refine gate_callee (f := 74) rfl ?_); refine goesL_ (some 6) rfl rfl Tryd.func74 (by kernel_rfl) rfl #[.int .i64 a0] rfl (by (try simp only [List.map_toArray, List.map_cons, List.map_nil]); first | done | rfl | (simp only [List.length_drop, List.length_take]; rfl)) ?_; (with_reducible refine (cmp_isNaN_int.calls a0 true _ A3.out).mono ?_); rintro e w' ⟨rfl, ⟨nd, rfl⟩⟩; refine ⟨_, rfl, ?_⟩) | (go_at_call 74; (with_reducible refine (cmp_isNaN_int.calls a1 true _ A5.out).mono ?_); rintro e w' ⟨rfl, ⟨nd, rfl⟩⟩))
      go_ret
      exact ⟨by first | rfl | (simp; done) | (simp [*]; done) | (simp; exact (show ∀ a_ b_ : Bool, (a_ == b_) = (!(a_ != b_)) from by decide) _ _), by repeat (first | exact Drawn0.refl _ | apply Drawn0.step)⟩
    · replace c6 := Bool.eq_false_iff.mpr c6
      subst c6
      have H1 : (some true) = some r := by rw [if_neg (show ¬ (false = true) by decide)] at H; exact H
      clear H
      have H := H1
      clear H1
      obtain rfl := Option.some.inj H
      go_enter Tryd.func70, Tryd.ntmps70
      go_wp2_with (first | ((with_reducible refine gate_callee (f := 74) rfl ?_); refine goesL_ (some 6) rfl rfl Tryd.func74 (by kernel_rfl) rfl #[.int .i64 a0] rfl (by (try simp only [List.map_toArray, List.map_cons, List.map_nil]); first | done | rfl | (simp only [List.length_drop, List.length_take]; rfl)) ?_; (with_reducible refine (cmp_isNaN_int.calls a0 true _ A3.out).mono ?_); rintro e w' ⟨rfl, ⟨nd, rfl⟩⟩; refine ⟨_, rfl, ?_⟩) | (go_at_call 74; (with_reducible refine (cmp_isNaN_int.calls a1 false _ A5.out).mono ?_); rintro e w' ⟨rfl, ⟨nd, rfl⟩⟩))
      go_ret
      exact ⟨by first | rfl | (simp; done) | (simp [*]; done) | (simp; exact (show ∀ a_ b_ : Bool, (a_ == b_) = (!(a_ != b_)) from by decide) _ _), by repeat (first | exact Drawn0.refl _ | apply Drawn0.step)⟩
  · replace c4 := Bool.eq_false_iff.mpr c4
    subst c4
    have H1 : (some (decide (a0 < a1))) = some r := by rw [if_neg (show ¬ (false = true) by decide)] at H; exact H
    clear H
    have H := H1
    clear H1
    obtain rfl := Option.some.inj H
    go_enter Tryd.func70, Tryd.ntmps70
    go_wp2_with (first | ((with_reducible refine gate_callee (f := 74) rfl ?_); refine goesL_ (some 6) rfl rfl Tryd.func74 (by kernel_rfl) rfl #[.int .i64 a0] rfl (by (try simp only [List.map_toArray, List.map_cons, List.map_nil]); first | done | rfl | (simp only [List.length_drop, List.length_take]; rfl)) ?_; (with_reducible refine (cmp_isNaN_int.calls a0 false _ A3.out).mono ?_); rintro e w' ⟨rfl, ⟨nd, rfl⟩⟩; refine ⟨_, rfl, ?_⟩))
    go_ret
    exact ⟨by first | rfl | (simp; done) | (simp [*]; done) | (simp; exact (show ∀ a_ b_ : Bool, (a_ == b_) = (!(a_ != b_)) from by decide) _ _), by repeat (first | exact Drawn0.refl _ | apply Drawn0.step)⟩

/-! ### slices_isNaN_int: function 71 -/
def slices_isNaN_int.f (a0 : Int) : Option (Bool) := some (a0 != a0)
set_option maxHeartbeats 8000000 in
set_option maxRecDepth 100000 in
theorem slices_isNaN_int.calls (a0 : Int) (r : Bool) (w : World) (h : slices_isNaN_int.f a0 = some r) :
    Calls Tryd.prog 71 #[.int .i64 a0] w fun e w' => e = .returned (.bool r) ∧ Drawn0 w w' := by
  have H : (some (a0 != a0)) = some r := h
  clear h
  obtain rfl := Option.some.inj H
  go_enter Tryd.func71, Tryd.ntmps71
  go_wp2
  go_ret
  exact ⟨by first | rfl | (simp; done) | (simp [*]; done) | (simp; exact (show ∀ a_ b_ : Bool, (a_ == b_) = (!(a_ != b_)) from by decide) _ _), by repeat (first | exact Drawn0.refl _ | apply Drawn0.step)⟩

end Go.Proofs.YtehnhedifhpalaaDoor.Cp
