/- CivilSmall: for every input (it has none) the law returns true; the package variable civil.ahead is as the program's text lays it: the given tie, no condition of this session's. (Joined by a program of this session, civpack.py: the kit's printed words, printed walks, the plain law, the row and its card.) -/
import Derived.Test.YtehnhedifhpalaaDoorSma1
set_option linter.unusedVariables false
set_option linter.unusedSimpArgs false
namespace Go.Proofs.YtehnhedifhpalaaDoor.Cp
open Go.RowKit Go.Proofs.YtehnhedifhpalaaDoorW.PrintWords Go.Proofs.YtehnhedifhpalaaDoorW.PrintLast Go.Proofs.YtehnhedifhpalaaDoorW.PrintMore
attribute [local go_sem] max2_int min2_int max_two min_two max_three min_three max_four min_four   -- for this text's walks alone
set_option linter.unusedVariables false
set_option linter.unusedSimpArgs false
mutual
def letterbaglaw01_awake.j0 : Nat → Bool → Option (Bool)
 | 0, _ => none
 | k + 1, x66 => if x66 = true then (some false) else ((civil_Weekday.f 5).bind fun bt142 => ((civil_Text.f k 59).bind fun bt144 => ((civil_ReadTime.f k (⟨#[50, 48, 48, 49, 45, 48, 49, 45, 48, 50, 32, 48, 48, 58, 48, 49]⟩ : ByteArray)).bind fun bt146 => ((civil_Between.f 0 7 (([1] : List Int))).bind fun bt151 => (if bt142.1 = 5 then (if bt144.1.toList = ([50, 48, 48, 49, 45, 48, 51, 45, 48, 49] : List UInt8) then (if bt146.1 = 1441 then (if bt151.1 = 4 then (letterbaglaw01_awake.j1 k ((wrap64 ((wrap64 ((wrap64 (bt142.2 + bt144.2)) + bt146.2)) + bt151.2)) != 0)) else (letterbaglaw01_awake.j1 k true)) else (letterbaglaw01_awake.j1 k true)) else (letterbaglaw01_awake.j1 k true)) else (letterbaglaw01_awake.j1 k true))))))
def letterbaglaw01_awake.j1 : Nat → Bool → Option (Bool)
 | 0, _ => none
 | k + 1, x107 => if x107 = true then (some false) else ((civil_Ahead.f k 0 1 (([1] : List Int))).bind fun bt156 => ((civil_Ahead.f k 5 0 ([] : List Int)).bind fun bt158 => ((civil_Yearly.f k 364 1201 228).bind fun bt160 => ((civil_Yearly.f k 59 1201 228).bind fun bt162 => (if bt156.1 = 2 then (if bt158.1 = 7 then (if bt160.1 = true then (if bt162.1 = true then (some false) else (some ((wrap64 ((wrap64 ((wrap64 (bt156.2 + bt158.2)) + bt160.2)) + bt162.2)) == 0))) else (some false)) else (some false)) else (some false))))))
end
def letterbaglaw01_awake.f (k : Nat)  : Option (Bool) := (civil_Day.f 2001 1 1).bind fun bt132 => ((civil_Day.f 2004 2 29).bind fun bt134 => ((civil_Day.f 2100 2 29).bind fun bt136 => ((civil_Date.f k 1461).bind fun bt138 => (if bt132.1 = 0 then (if bt134.1 = 1154 then (if (wrap64 ((wrap64 (bt132.2 + bt134.2)) + bt138.2.2.2)) = 0 then (if bt136.2 = 10 then (if bt138.1 = 2005 then (if bt138.2.1 = 1 then (letterbaglaw01_awake.j0 k (bt138.2.2.1 != 1)) else (letterbaglaw01_awake.j0 k true)) else (letterbaglaw01_awake.j0 k true)) else (letterbaglaw01_awake.j0 k true)) else (letterbaglaw01_awake.j0 k true)) else (letterbaglaw01_awake.j0 k true)) else (letterbaglaw01_awake.j0 k true)))))
theorem letterbaglaw01_awake.mono_l : ∀ k, (∀ y0, LeO (letterbaglaw01_awake.j0 k y0) (letterbaglaw01_awake.j0 (k + 1) y0)) ∧ (∀ y0, LeO (letterbaglaw01_awake.j1 k y0) (letterbaglaw01_awake.j1 (k + 1) y0))
 | 0 => ⟨fun _ r h => by simp [letterbaglaw01_awake.j0] at h, fun _ r h => by simp [letterbaglaw01_awake.j1] at h⟩
 | k + 1 => by
  obtain ⟨ih0, ih1⟩ := letterbaglaw01_awake.mono_l k
  refine ⟨?_, ?_⟩
  ·intro y0
   unfold letterbaglaw01_awake.j0
   repeat' first
   | (with_reducible exact ih0 _)
   | (with_reducible exact ih1 _)
   | (with_reducible exact civil_Ahead.mono _ _ _ _)
   | (with_reducible exact civil_Date.mono _ _)
   | (with_reducible exact civil_ReadTime.mono _ _)
   | (with_reducible exact civil_Text.mono _ _)
   | (with_reducible exact civil_Yearly.mono _ _ _ _)
   | (with_reducible exact LeO.refl _)
   | (with_reducible exact LeO.none _)
   | (with_reducible refine LeO.ite ?_ ?_)
   | (with_reducible refine LeO.bind ?_ (fun _ => ?_))
   | exact ih0 _
   | exact ih1 _
   | exact civil_Ahead.mono _ _ _ _
   | exact civil_Date.mono _ _
   | exact civil_ReadTime.mono _ _
   | exact civil_Text.mono _ _
   | exact civil_Yearly.mono _ _ _ _
   | exact LeO.none _
   | refine LeO.ite ?_ ?_
   | refine LeO.bind ?_ (fun _ => ?_)
  ·intro y0
   unfold letterbaglaw01_awake.j1
   repeat' first
   | (with_reducible exact ih0 _)
   | (with_reducible exact ih1 _)
   | (with_reducible exact civil_Ahead.mono _ _ _ _)
   | (with_reducible exact civil_Date.mono _ _)
   | (with_reducible exact civil_ReadTime.mono _ _)
   | (with_reducible exact civil_Text.mono _ _)
   | (with_reducible exact civil_Yearly.mono _ _ _ _)
   | (with_reducible exact LeO.refl _)
   | (with_reducible exact LeO.none _)
   | (with_reducible refine LeO.ite ?_ ?_)
   | (with_reducible refine LeO.bind ?_ (fun _ => ?_))
   | exact ih0 _
   | exact ih1 _
   | exact civil_Ahead.mono _ _ _ _
   | exact civil_Date.mono _ _
   | exact civil_ReadTime.mono _ _
   | exact civil_Text.mono _ _
   | exact civil_Yearly.mono _ _ _ _
   | exact LeO.none _
   | refine LeO.ite ?_ ?_
   | refine LeO.bind ?_ (fun _ => ?_)
theorem letterbaglaw01_awake.mono : ∀ k, LeO (letterbaglaw01_awake.f k ) (letterbaglaw01_awake.f (k + 1) ) := by
 intro  k
 obtain ⟨ih0, ih1⟩ := letterbaglaw01_awake.mono_l k
 unfold letterbaglaw01_awake.f
 repeat' first
  | (with_reducible exact ih0 _)
  | (with_reducible exact ih1 _)
  | (with_reducible exact civil_Ahead.mono _ _ _ _)
  | (with_reducible exact civil_Date.mono _ _)
  | (with_reducible exact civil_ReadTime.mono _ _)
  | (with_reducible exact civil_Text.mono _ _)
  | (with_reducible exact civil_Yearly.mono _ _ _ _)
  | (with_reducible exact LeO.refl _)
  | (with_reducible exact LeO.none _)
  | (with_reducible refine LeO.ite ?_ ?_)
  | (with_reducible refine LeO.bind ?_ (fun _ => ?_))
  | exact ih0 _
  | exact ih1 _
  | exact civil_Ahead.mono _ _ _ _
  | exact civil_Date.mono _ _
  | exact civil_ReadTime.mono _ _
  | exact civil_Text.mono _ _
  | exact civil_Yearly.mono _ _ _ _
  | exact LeO.none _
  | refine LeO.ite ?_ ?_
  | refine LeO.bind ?_ (fun _ => ?_)
set_option maxHeartbeats 8000000 in
set_option maxRecDepth 100000 in
theorem letterbaglaw01_awake.calls (k : Nat)  (r : Bool) (w : World) (hg : Aside0 (Tab w)) (h : letterbaglaw01_awake.f k  = some r) :
  Calls Tryd.prog 17 #[] w fun e w' => e = .returned (.bool r) ∧ Below w.heap.size w w' := by
 have HB := Aside0.mk (Below.refl w.heap.size w)
 have H : ((civil_Day.f 2001 1 1).bind fun bt132 => ((civil_Day.f 2004 2 29).bind fun bt134 => ((civil_Day.f 2100 2 29).bind fun bt136 => ((civil_Date.f k 1461).bind fun bt138 => (if bt132.1 = 0 then (if bt134.1 = 1154 then (if (wrap64 ((wrap64 (bt132.2 + bt134.2)) + bt138.2.2.2)) = 0 then (if bt136.2 = 10 then (if bt138.1 = 2005 then (if bt138.2.1 = 1 then (letterbaglaw01_awake.j0 k (bt138.2.2.1 != 1)) else (letterbaglaw01_awake.j0 k true)) else (letterbaglaw01_awake.j0 k true)) else (letterbaglaw01_awake.j0 k true)) else (letterbaglaw01_awake.j0 k true)) else (letterbaglaw01_awake.j0 k true)) else (letterbaglaw01_awake.j0 k true)))))) = some r := h
 clear h
 replace H := Option.bind_eq_some_iff.mp H
 obtain ⟨⟨t132, t133⟩, A10, H⟩ := H
 replace H : ((civil_Day.f 2004 2 29).bind fun bt134 => ((civil_Day.f 2100 2 29).bind fun bt136 => ((civil_Date.f k 1461).bind fun bt138 => (if t132 = 0 then (if bt134.1 = 1154 then (if (wrap64 ((wrap64 (t133 + bt134.2)) + bt138.2.2.2)) = 0 then (if bt136.2 = 10 then (if bt138.1 = 2005 then (if bt138.2.1 = 1 then (letterbaglaw01_awake.j0 k (bt138.2.2.1 != 1)) else (letterbaglaw01_awake.j0 k true)) else (letterbaglaw01_awake.j0 k true)) else (letterbaglaw01_awake.j0 k true)) else (letterbaglaw01_awake.j0 k true)) else (letterbaglaw01_awake.j0 k true)) else (letterbaglaw01_awake.j0 k true))))) = some r := H
 have A1 := Aside0.mk A10
 clear A10
 replace H := Option.bind_eq_some_iff.mp H
 obtain ⟨⟨t134, t135⟩, A20, H⟩ := H
 replace H : ((civil_Day.f 2100 2 29).bind fun bt136 => ((civil_Date.f k 1461).bind fun bt138 => (if t132 = 0 then (if t134 = 1154 then (if (wrap64 ((wrap64 (t133 + t135)) + bt138.2.2.2)) = 0 then (if bt136.2 = 10 then (if bt138.1 = 2005 then (if bt138.2.1 = 1 then (letterbaglaw01_awake.j0 k (bt138.2.2.1 != 1)) else (letterbaglaw01_awake.j0 k true)) else (letterbaglaw01_awake.j0 k true)) else (letterbaglaw01_awake.j0 k true)) else (letterbaglaw01_awake.j0 k true)) else (letterbaglaw01_awake.j0 k true)) else (letterbaglaw01_awake.j0 k true)))) = some r := H
 have A2 := Aside0.mk A20
 clear A20
 replace H := Option.bind_eq_some_iff.mp H
 obtain ⟨⟨t136, t137⟩, A30, H⟩ := H
 replace H : ((civil_Date.f k 1461).bind fun bt138 => (if t132 = 0 then (if t134 = 1154 then (if (wrap64 ((wrap64 (t133 + t135)) + bt138.2.2.2)) = 0 then (if t137 = 10 then (if bt138.1 = 2005 then (if bt138.2.1 = 1 then (letterbaglaw01_awake.j0 k (bt138.2.2.1 != 1)) else (letterbaglaw01_awake.j0 k true)) else (letterbaglaw01_awake.j0 k true)) else (letterbaglaw01_awake.j0 k true)) else (letterbaglaw01_awake.j0 k true)) else (letterbaglaw01_awake.j0 k true)) else (letterbaglaw01_awake.j0 k true))) = some r := H
 have A3 := Aside0.mk A30
 clear A30
 replace H := Option.bind_eq_some_iff.mp H
 obtain ⟨⟨t138, t139, t140, t141⟩, A40, H⟩ := H
 replace H : (if t132 = 0 then (if t134 = 1154 then (if (wrap64 ((wrap64 (t133 + t135)) + t141)) = 0 then (if t137 = 10 then (if t138 = 2005 then (if t139 = 1 then (letterbaglaw01_awake.j0 k (t140 != 1)) else (letterbaglaw01_awake.j0 k true)) else (letterbaglaw01_awake.j0 k true)) else (letterbaglaw01_awake.j0 k true)) else (letterbaglaw01_awake.j0 k true)) else (letterbaglaw01_awake.j0 k true)) else (letterbaglaw01_awake.j0 k true)) = some r := H
 have A4 := Aside0.mk A40
 clear A40
 have HC5 := Aside0.mk H
 clear H
 go_enter Tryd.func17, Tryd.ntmps17
 go_upto_region 5 with (first | ((with_reducible refine gate_callee (f := 34) rfl ?_); refine goesL_ (some 20) rfl rfl Tryd.func34 (by kernel_rfl) rfl #[.int .i64 2001, .int .i64 1, .int .i64 1] rfl (by (try simp only [List.map_toArray, List.map_cons, List.map_nil]); first | done | rfl | (simp only [List.length_drop, List.length_take]; rfl)) ?_; (with_reducible refine (civil_Day.calls 2001 1 1 t132 t133 _ ?tabG A1.out).mono ?_); (case tabG => (first | exact hg | exact ⟨hg.out.below (by repeat (first | (with_reducible first | exact HB.out | apply below_alloc | apply pw_below_drewN | apply below_drew1) | exact HB.out))⟩)); rintro e w' ⟨rfl, ⟨nd, rfl⟩⟩; refine ⟨_, rfl, ?_⟩) | ((with_reducible refine gate_callee (f := 34) rfl ?_); refine goesL_ (some 24) rfl rfl Tryd.func34 (by kernel_rfl) rfl #[.int .i64 2004, .int .i64 2, .int .i64 29] rfl (by (try simp only [List.map_toArray, List.map_cons, List.map_nil]); first | done | rfl | (simp only [List.length_drop, List.length_take]; rfl)) ?_; (with_reducible refine (civil_Day.calls 2004 2 29 t134 t135 _ ?tabG A2.out).mono ?_); (case tabG => (first | exact hg | exact ⟨hg.out.below (by repeat (first | (with_reducible first | exact HB.out | apply below_alloc | apply pw_below_drewN | apply below_drew1) | exact HB.out))⟩)); rintro e w' ⟨rfl, ⟨nd, rfl⟩⟩; refine ⟨_, rfl, ?_⟩) | ((with_reducible refine gate_callee (f := 34) rfl ?_); refine goesL_ (some 28) rfl rfl Tryd.func34 (by kernel_rfl) rfl #[.int .i64 2100, .int .i64 2, .int .i64 29] rfl (by (try simp only [List.map_toArray, List.map_cons, List.map_nil]); first | done | rfl | (simp only [List.length_drop, List.length_take]; rfl)) ?_; (with_reducible refine (civil_Day.calls 2100 2 29 t136 t137 _ ?tabG A3.out).mono ?_); (case tabG => (first | exact hg | exact ⟨hg.out.below (by repeat (first | (with_reducible first | exact HB.out | apply below_alloc | apply pw_below_drewN | apply below_drew1) | exact HB.out))⟩)); rintro e w' ⟨rfl, ⟨nd, rfl⟩⟩; refine ⟨_, rfl, ?_⟩) | ((with_reducible refine gate_callee (f := 19) rfl ?_); refine goesL_ (some 32) rfl rfl Tryd.func19 (by kernel_rfl) rfl #[.int .i64 1461] rfl (by (try simp only [List.map_toArray, List.map_cons, List.map_nil]); first | done | rfl | (simp only [List.length_drop, List.length_take]; rfl)) ?_; (with_reducible refine (civil_Date.calls k 1461 t138 t139 t140 t141 _ ?tabG A4.out).mono ?_); (case tabG => (first | exact hg | exact ⟨hg.out.below (by repeat (first | (with_reducible first | exact HB.out | apply below_alloc | apply pw_below_drewN | apply below_drew1) | exact HB.out))⟩)); rintro e w6 ⟨rfl, hb⟩; refine ⟨_, rfl, ?_⟩; have n0_ := Aside0.mk (below_step (by repeat (first | (with_reducible first | exact HB.out | apply below_alloc | apply pw_below_drewN | apply below_drew1) | exact HB.out)) hb); clear HB; have HB := n0_; clear n0_; (try clear hb); (try clear hb2); (try clear hk); (try clear hi)))
 (try simp only [Act.put, List.setIfInBounds_toArray, List.set_cons_zero, List.set_cons_succ])
 go_cut [66] (fun v66 wc => ∃ (kq : Nat) (x66_4 : Bool), v66 = .bool x66_4 ∧ Aside0 (letterbaglaw01_awake.j0 kq x66_4 = some r) ∧ Aside0 (kq ≤ k) ∧ Aside0 (Below w.heap.size w wc))
 case first =>
  have H := HC5.out
  clear HC5
  by_cases c7 : t132 = 0
  ·rw [if_pos c7] at H
   have c7b0 : (t132 == 0) = true := beq_iff_eq.mpr c7
   have c7b1 : (t132 != 0) = false := bne_eq_false_iff_eq.mpr c7
   clear c7
   (first | rw [c7b0] | (simp only [i64_w, i32_w]; rw [c7b0]) | skip)
   by_cases c8 : t134 = 1154
   ·rw [if_pos c8] at H
    have c8b0 : (t134 == 1154) = true := beq_iff_eq.mpr c8
    have c8b1 : (t134 != 1154) = false := bne_eq_false_iff_eq.mpr c8
    clear c8
    by_cases c9 : (wrap64 ((wrap64 (t133 + t135)) + t141)) = 0
    ·rw [if_pos c9] at H
     have c9b0 : ((wrap64 ((wrap64 (t133 + t135)) + t141)) == 0) = true := beq_iff_eq.mpr c9
     have c9b1 : ((wrap64 ((wrap64 (t133 + t135)) + t141)) != 0) = false := bne_eq_false_iff_eq.mpr c9
     clear c9
     by_cases c10 : t137 = 10
     ·rw [if_pos c10] at H
      have c10b0 : (t137 == 10) = true := beq_iff_eq.mpr c10
      have c10b1 : (t137 != 10) = false := bne_eq_false_iff_eq.mpr c10
      clear c10
      by_cases c11 : t138 = 2005
      ·rw [if_pos c11] at H
       have c11b0 : (t138 == 2005) = true := beq_iff_eq.mpr c11
       have c11b1 : (t138 != 2005) = false := bne_eq_false_iff_eq.mpr c11
       clear c11
       by_cases c12 : t139 = 1
       ·rw [if_pos c12] at H
        have c12b0 : (t139 == 1) = true := beq_iff_eq.mpr c12
        have c12b1 : (t139 != 1) = false := bne_eq_false_iff_eq.mpr c12
        clear c12
        have H' := Aside0.mk H
        clear H
        go_wp2
        go_meet
        case rel => exact ⟨_, ((t140 != 1)), (by first | rfl | (simp; done) | (simp [*]; done) | (simp; exact (show ∀ a_ b_ : Bool, (a_ == b_) = (!(a_ != b_)) from by decide) _ _) | (rw [Bool.eq_iff_iff]; simp; done) | (simp; rw [Bool.eq_iff_iff]; simp; done)), H', ⟨by first | omega | exact Nat.le_refl _⟩, ⟨by repeat (first | (with_reducible first | exact HB.out | apply below_alloc | apply pw_below_drewN | apply below_drew1) | exact HB.out)⟩⟩
       ·rw [if_neg c12] at H
        have c12b0 : (t139 == 1) = false := beq_eq_false_iff_ne.mpr c12
        have c12b1 : (t139 != 1) = true := bne_iff_ne.mpr c12
        have H' := Aside0.mk H
        clear H
        go_wp2
        go_meet
        case rel => exact ⟨_, (true), (by first | rfl | (simp; done) | (simp [*]; done) | (simp; exact (show ∀ a_ b_ : Bool, (a_ == b_) = (!(a_ != b_)) from by decide) _ _) | (rw [Bool.eq_iff_iff]; simp; done) | (simp; rw [Bool.eq_iff_iff]; simp; done)), H', ⟨by first | omega | exact Nat.le_refl _⟩, ⟨by repeat (first | (with_reducible first | exact HB.out | apply below_alloc | apply pw_below_drewN | apply below_drew1) | exact HB.out)⟩⟩
      ·rw [if_neg c11] at H
       have c11b0 : (t138 == 2005) = false := beq_eq_false_iff_ne.mpr c11
       have c11b1 : (t138 != 2005) = true := bne_iff_ne.mpr c11
       have H' := Aside0.mk H
       clear H
       go_wp2
       go_meet
       case rel => exact ⟨_, (true), (by first | rfl | (simp; done) | (simp [*]; done) | (simp; exact (show ∀ a_ b_ : Bool, (a_ == b_) = (!(a_ != b_)) from by decide) _ _) | (rw [Bool.eq_iff_iff]; simp; done) | (simp; rw [Bool.eq_iff_iff]; simp; done)), H', ⟨by first | omega | exact Nat.le_refl _⟩, ⟨by repeat (first | (with_reducible first | exact HB.out | apply below_alloc | apply pw_below_drewN | apply below_drew1) | exact HB.out)⟩⟩
     ·rw [if_neg c10] at H
      have c10b0 : (t137 == 10) = false := beq_eq_false_iff_ne.mpr c10
      have c10b1 : (t137 != 10) = true := bne_iff_ne.mpr c10
      have H' := Aside0.mk H
      clear H
      go_wp2
      go_meet
      case rel => exact ⟨_, (true), (by first | rfl | (simp; done) | (simp [*]; done) | (simp; exact (show ∀ a_ b_ : Bool, (a_ == b_) = (!(a_ != b_)) from by decide) _ _) | (rw [Bool.eq_iff_iff]; simp; done) | (simp; rw [Bool.eq_iff_iff]; simp; done)), H', ⟨by first | omega | exact Nat.le_refl _⟩, ⟨by repeat (first | (with_reducible first | exact HB.out | apply below_alloc | apply pw_below_drewN | apply below_drew1) | exact HB.out)⟩⟩
    ·rw [if_neg c9] at H
     have c9b0 : ((wrap64 ((wrap64 (t133 + t135)) + t141)) == 0) = false := beq_eq_false_iff_ne.mpr c9
     have c9b1 : ((wrap64 ((wrap64 (t133 + t135)) + t141)) != 0) = true := bne_iff_ne.mpr c9
     have H' := Aside0.mk H
     clear H
     go_wp2
     go_meet
     case rel => exact ⟨_, (true), (by first | rfl | (simp; done) | (simp [*]; done) | (simp; exact (show ∀ a_ b_ : Bool, (a_ == b_) = (!(a_ != b_)) from by decide) _ _) | (rw [Bool.eq_iff_iff]; simp; done) | (simp; rw [Bool.eq_iff_iff]; simp; done)), H', ⟨by first | omega | exact Nat.le_refl _⟩, ⟨by repeat (first | (with_reducible first | exact HB.out | apply below_alloc | apply pw_below_drewN | apply below_drew1) | exact HB.out)⟩⟩
   ·rw [if_neg c8] at H
    have c8b0 : (t134 == 1154) = false := beq_eq_false_iff_ne.mpr c8
    have c8b1 : (t134 != 1154) = true := bne_iff_ne.mpr c8
    have H' := Aside0.mk H
    clear H
    go_wp2
    go_meet
    case rel => exact ⟨_, (true), (by first | rfl | (simp; done) | (simp [*]; done) | (simp; exact (show ∀ a_ b_ : Bool, (a_ == b_) = (!(a_ != b_)) from by decide) _ _) | (rw [Bool.eq_iff_iff]; simp; done) | (simp; rw [Bool.eq_iff_iff]; simp; done)), H', ⟨by first | omega | exact Nat.le_refl _⟩, ⟨by repeat (first | (with_reducible first | exact HB.out | apply below_alloc | apply pw_below_drewN | apply below_drew1) | exact HB.out)⟩⟩
  ·rw [if_neg c7] at H
   have c7b0 : (t132 == 0) = false := beq_eq_false_iff_ne.mpr c7
   have c7b1 : (t132 != 0) = true := bne_iff_ne.mpr c7
   (first | rw [c7b0] | (simp only [i64_w, i32_w]; rw [c7b0]) | skip)
   have H' := Aside0.mk H
   clear H
   go_wp2
   go_meet
   case rel => exact ⟨_, (true), (by first | rfl | (simp; done) | (simp [*]; done) | (simp; exact (show ∀ a_ b_ : Bool, (a_ == b_) = (!(a_ != b_)) from by decide) _ _) | (rw [Bool.eq_iff_iff]; simp; done) | (simp; rw [Bool.eq_iff_iff]; simp; done)), H', ⟨by first | omega | exact Nat.le_refl _⟩, ⟨by repeat (first | (with_reducible first | exact HB.out | apply below_alloc | apply pw_below_drewN | apply below_drew1) | exact HB.out)⟩⟩
 case rest =>
  clear HC5
  try clear c1
  try clear p2
  try clear c3
  try clear p6
  try clear c7
  try clear c7b0
  try clear c7b1
  try clear c8
  try clear c8b0
  try clear c8b1
  try clear c9
  try clear c9b0
  try clear c9b1
  try clear c10
  try clear c10b0
  try clear c10b1
  try clear c11
  try clear c11b0
  try clear c11b1
  try clear c12
  try clear c12b0
  try clear c12b1
  obtain ⟨kq, x66_4, rfl, HA, HJ4, HB⟩ := hcut
  cases kq with
  | zero => exact absurd HA.out (by simp [letterbaglaw01_awake.j0])
  | succ kj4 =>
   have H := HA.out
   clear HA
   simp only [letterbaglaw01_awake.j0] at H
   by_cases c13 : x66_4 = true
   ·subst c13
    have H1 : (some false) = some r := by rw [if_pos rfl] at H; exact H
    clear H
    have H := H1
    clear H1
    obtain rfl := Option.some.inj H
    go_wp2
    go_ret
    exact ⟨by first | rfl | (simp [errW_none, errW_some] <;> rfl) | (simp [*, errW_none, errW_some] <;> rfl), by repeat (first | (with_reducible first | exact HB.out | apply below_alloc | apply pw_below_drewN | apply below_drew1) | exact HB.out)⟩
   ·replace c13 := Bool.eq_false_iff.mpr c13
    subst c13
    have H1 : ((civil_Weekday.f 5).bind fun bt142 => ((civil_Text.f kj4 59).bind fun bt144 => ((civil_ReadTime.f kj4 (⟨#[50, 48, 48, 49, 45, 48, 49, 45, 48, 50, 32, 48, 48, 58, 48, 49]⟩ : ByteArray)).bind fun bt146 => ((civil_Between.f 0 7 (([1] : List Int))).bind fun bt151 => (if bt142.1 = 5 then (if bt144.1.toList = ([50, 48, 48, 49, 45, 48, 51, 45, 48, 49] : List UInt8) then (if bt146.1 = 1441 then (if bt151.1 = 4 then (letterbaglaw01_awake.j1 kj4 ((wrap64 ((wrap64 ((wrap64 (bt142.2 + bt144.2)) + bt146.2)) + bt151.2)) != 0)) else (letterbaglaw01_awake.j1 kj4 true)) else (letterbaglaw01_awake.j1 kj4 true)) else (letterbaglaw01_awake.j1 kj4 true)) else (letterbaglaw01_awake.j1 kj4 true)))))) = some r := by rw [if_neg (show ¬ (false = true) by decide)] at H; exact H
    clear H
    have H := H1
    clear H1
    replace H := Option.bind_eq_some_iff.mp H
    obtain ⟨⟨t142, t143⟩, A140, H⟩ := H
    replace H : ((civil_Text.f kj4 59).bind fun bt144 => ((civil_ReadTime.f kj4 (⟨#[50, 48, 48, 49, 45, 48, 49, 45, 48, 50, 32, 48, 48, 58, 48, 49]⟩ : ByteArray)).bind fun bt146 => ((civil_Between.f 0 7 (([1] : List Int))).bind fun bt151 => (if t142 = 5 then (if bt144.1.toList = ([50, 48, 48, 49, 45, 48, 51, 45, 48, 49] : List UInt8) then (if bt146.1 = 1441 then (if bt151.1 = 4 then (letterbaglaw01_awake.j1 kj4 ((wrap64 ((wrap64 ((wrap64 (t143 + bt144.2)) + bt146.2)) + bt151.2)) != 0)) else (letterbaglaw01_awake.j1 kj4 true)) else (letterbaglaw01_awake.j1 kj4 true)) else (letterbaglaw01_awake.j1 kj4 true)) else (letterbaglaw01_awake.j1 kj4 true))))) = some r := H
    have A14 := Aside0.mk A140
    clear A140
    replace H := Option.bind_eq_some_iff.mp H
    obtain ⟨⟨t144, t145⟩, A150, H⟩ := H
    replace H : ((civil_ReadTime.f kj4 (⟨#[50, 48, 48, 49, 45, 48, 49, 45, 48, 50, 32, 48, 48, 58, 48, 49]⟩ : ByteArray)).bind fun bt146 => ((civil_Between.f 0 7 (([1] : List Int))).bind fun bt151 => (if t142 = 5 then (if t144.toList = ([50, 48, 48, 49, 45, 48, 51, 45, 48, 49] : List UInt8) then (if bt146.1 = 1441 then (if bt151.1 = 4 then (letterbaglaw01_awake.j1 kj4 ((wrap64 ((wrap64 ((wrap64 (t143 + t145)) + bt146.2)) + bt151.2)) != 0)) else (letterbaglaw01_awake.j1 kj4 true)) else (letterbaglaw01_awake.j1 kj4 true)) else (letterbaglaw01_awake.j1 kj4 true)) else (letterbaglaw01_awake.j1 kj4 true)))) = some r := H
    have A15 := Aside0.mk A150
    clear A150
    replace H := Option.bind_eq_some_iff.mp H
    obtain ⟨⟨t146, t147⟩, A160, H⟩ := H
    replace H : ((civil_Between.f 0 7 (([1] : List Int))).bind fun bt151 => (if t142 = 5 then (if t144.toList = ([50, 48, 48, 49, 45, 48, 51, 45, 48, 49] : List UInt8) then (if t146 = 1441 then (if bt151.1 = 4 then (letterbaglaw01_awake.j1 kj4 ((wrap64 ((wrap64 ((wrap64 (t143 + t145)) + t147)) + bt151.2)) != 0)) else (letterbaglaw01_awake.j1 kj4 true)) else (letterbaglaw01_awake.j1 kj4 true)) else (letterbaglaw01_awake.j1 kj4 true)) else (letterbaglaw01_awake.j1 kj4 true))) = some r := H
    have A16 := Aside0.mk A160
    clear A160
    obtain ⟨y148, hy148⟩ : ∃ y_ : List Int, y_ = (([1] : List Int)) := ⟨_, rfl⟩
    replace H : ((civil_Between.f 0 7 y148).bind fun bt151 => (if t142 = 5 then (if t144.toList = ([50, 48, 48, 49, 45, 48, 51, 45, 48, 49] : List UInt8) then (if t146 = 1441 then (if bt151.1 = 4 then (letterbaglaw01_awake.j1 kj4 ((wrap64 ((wrap64 ((wrap64 (t143 + t145)) + t147)) + bt151.2)) != 0)) else (letterbaglaw01_awake.j1 kj4 true)) else (letterbaglaw01_awake.j1 kj4 true)) else (letterbaglaw01_awake.j1 kj4 true)) else (letterbaglaw01_awake.j1 kj4 true))) = some r := by first | (rw [hy148]; with_reducible exact H) | (have H2_ := (Option.bind_some _ _).symm.trans H; rw [hy148]; with_reducible exact H2_) | (have H2_ := (Option.bind_some _ _).symm.trans H; with_reducible exact H2_) | with_reducible exact H | (rw [hy148]; exact H) | exact H
    have Ny148 := Aside0.mk hy148
    clear hy148
    replace H := Option.bind_eq_some_iff.mp H
    obtain ⟨⟨t151, t152⟩, A170, H⟩ := H
    replace H : (if t142 = 5 then (if t144.toList = ([50, 48, 48, 49, 45, 48, 51, 45, 48, 49] : List UInt8) then (if t146 = 1441 then (if t151 = 4 then (letterbaglaw01_awake.j1 kj4 ((wrap64 ((wrap64 ((wrap64 (t143 + t145)) + t147)) + t152)) != 0)) else (letterbaglaw01_awake.j1 kj4 true)) else (letterbaglaw01_awake.j1 kj4 true)) else (letterbaglaw01_awake.j1 kj4 true)) else (letterbaglaw01_awake.j1 kj4 true)) = some r := H
    have A17 := Aside0.mk A170
    clear A170
    have HC18 := Aside0.mk H
    clear H
    go_upto_region 11 with (first | ((with_reducible refine gate_callee (f := 20) rfl ?_); refine goesL_ (some 68) rfl rfl Tryd.func20 (by kernel_rfl) rfl #[.int .i64 5] rfl (by (try simp only [List.map_toArray, List.map_cons, List.map_nil]); first | done | rfl | (simp only [List.length_drop, List.length_take]; rfl)) ?_; (with_reducible refine (civil_Weekday.calls 5 t142 t143 _ A14.out).mono ?_); rintro e w' ⟨rfl, ⟨nd, rfl⟩⟩; refine ⟨_, rfl, ?_⟩) | ((with_reducible refine gate_callee (f := 21) rfl ?_); refine goesL_ (some 72) rfl rfl Tryd.func21 (by kernel_rfl) rfl #[.int .i64 59] rfl (by (try simp only [List.map_toArray, List.map_cons, List.map_nil]); first | done | rfl | (simp only [List.length_drop, List.length_take]; rfl)) ?_; (with_reducible refine (civil_Text.calls kj4 59 t144 t145 _ ?tabG A15.out).mono ?_); (case tabG => (first | exact hg | exact ⟨hg.out.below (by repeat (first | (with_reducible first | exact HB.out | apply below_alloc | apply pw_below_drewN | apply below_drew1) | exact HB.out))⟩)); rintro e w19 ⟨rfl, hb⟩; refine ⟨_, rfl, ?_⟩; have n0_ := Aside0.mk (below_step (by repeat (first | (with_reducible first | exact HB.out | apply below_alloc | apply pw_below_drewN | apply below_drew1) | exact HB.out)) hb); clear HB; have HB := n0_; clear n0_; (try clear hb); (try clear hb2); (try clear hk); (try clear hi)) | ((with_reducible refine gate_callee (f := 32) rfl ?_); refine goesL_ (some 76) rfl rfl Tryd.func32 (by kernel_rfl) rfl #[.string (⟨#[50, 48, 48, 49, 45, 48, 49, 45, 48, 50, 32, 48, 48, 58, 48, 49]⟩ : ByteArray)] rfl (by (try simp only [List.map_toArray, List.map_cons, List.map_nil]); first | done | rfl | (simp only [List.length_drop, List.length_take]; rfl)) ?_; (with_reducible refine (civil_ReadTime.calls kj4 (⟨#[50, 48, 48, 49, 45, 48, 49, 45, 48, 50, 32, 48, 48, 58, 48, 49]⟩ : ByteArray) t146 t147 _ ?tabG A16.out).mono ?_); (case tabG => (first | exact hg | exact ⟨hg.out.below (by repeat (first | (with_reducible first | exact HB.out | apply below_alloc | apply pw_below_drewN | apply below_drew1) | exact HB.out))⟩)); rintro e w' ⟨rfl, ⟨nd, rfl⟩⟩; refine ⟨_, rfl, ?_⟩) | ((with_reducible refine gate_dst (N := 80) rfl ?_); refine Kd.R_lit (Kd.int .i64) _ 3 ?hg (N := 80) ?hd (xs := ([1] : List Int)) (inner := [.int .i64 1]) (ok := fun _ => True) (okp := fun _ => True) ?hr ?hp (fun _ hk => hk) trivial (Below.refl _ _) (Nat.le_refl _) (by simp) ?_; (case hd => rfl); (case hg => rfl); (case hr => first | (go_simp; done) | (go_simp; rfl)); (case hp => exact (Reps.one (show Kd.M (Kd.int .i64) _ _ _ 1 [.int .i64 1] from rfl) (Reps.none _ _))); intro v149 w20 ho21 hb hg_ hnew_; clear hg_ hnew_; (first | rw [← Ny148.out] at ho21 | (simp only [Int.reduceToNat] at ho21; rw [← Ny148.out] at ho21)); have n0_ := Aside0.mk (Kd.R_lower ho21 (below_size (by repeat (first | (with_reducible first | exact HB.out | apply below_alloc | apply pw_below_drewN | apply below_drew1) | exact HB.out)))); have n1_ := Aside0.mk (below_step (by repeat (first | (with_reducible first | exact HB.out | apply below_alloc | apply pw_below_drewN | apply below_drew1) | exact HB.out)) hb); clear HB; have HO150 := n0_; have HB := n1_; clear n0_ n1_; clear hb ho21; obtain ⟨Ao22, co22, eo22⟩ := Kd.R_slice HO150.out; subst eo22) | ((with_reducible refine gate_callee (f := 28) rfl ?_); refine goesL_ (some 81) rfl rfl Tryd.func28 (by kernel_rfl) rfl #[.int .i64 0, .int .i64 7, .slice Ao22 y148.length co22] rfl (by (try simp only [List.map_toArray, List.map_cons, List.map_nil]); first | done | rfl | (simp only [List.length_drop, List.length_take]; rfl)) ?_; (with_reducible refine (civil_Between.calls 0 7 _ _ y148 t151 t152 _ ?side1 ?side2 A17.out).mono ?_); (case side1 => repeat (first | exact (Kd.R_reads' HO150.out).2.2 | (with_reducible refine Kd.C_alloc ?_ _) | (with_reducible refine Kd.C_drewN ?_ _) | (with_reducible refine Kd.C_drew ?_))); (case side2 => exact (Kd.R_reads' HO150.out).2.1); rintro e w23 ⟨rfl, hb⟩; refine ⟨_, rfl, ?_⟩; have n0_ := Aside0.mk (Kd.R_below (by (with_reducible repeat (first | apply Kd.R_alloc | apply Kd.R_drewN | apply Kd.R_drew)); exact HO150.out) hb); have n1_ := Aside0.mk (below_step (by repeat (first | (with_reducible first | exact HB.out | apply below_alloc | apply pw_below_drewN | apply below_drew1) | exact HB.out)) hb); clear HO150; clear HB; have HO150 := n0_; have HB := n1_; clear n0_ n1_; (try clear hb); (try clear hb2); (try clear hk); (try clear hi)))
    (try simp only [Act.put, List.setIfInBounds_toArray, List.set_cons_zero, List.set_cons_succ])
    go_cut [107] (fun v107 wc => ∃ (kq : Nat) (x107_17 : Bool), v107 = .bool x107_17 ∧ Aside0 (letterbaglaw01_awake.j1 kq x107_17 = some r) ∧ Aside0 (kq ≤ kj4) ∧ Aside0 (Below w.heap.size w wc))
    case first =>
     have H := HC18.out
     clear HC18
     by_cases c24 : t142 = 5
     ·rw [if_pos c24] at H
      have c24b0 : (t142 == 5) = true := beq_iff_eq.mpr c24
      have c24b1 : (t142 != 5) = false := bne_eq_false_iff_eq.mpr c24
      clear c24
      (first | rw [c24b0] | (simp only [i64_w, i32_w]; rw [c24b0]) | skip)
      by_cases c25 : t144.toList = ([50, 48, 48, 49, 45, 48, 51, 45, 48, 49] : List UInt8)
      ·rw [if_pos c25] at H
       have c25b0 : (t144.toList == ([50, 48, 48, 49, 45, 48, 51, 45, 48, 49] : List UInt8)) = true := beq_iff_eq.mpr c25
       have c25b1 : (t144.toList != ([50, 48, 48, 49, 45, 48, 51, 45, 48, 49] : List UInt8)) = false := bne_eq_false_iff_eq.mpr c25
       clear c25
       by_cases c26 : t146 = 1441
       ·rw [if_pos c26] at H
        have c26b0 : (t146 == 1441) = true := beq_iff_eq.mpr c26
        have c26b1 : (t146 != 1441) = false := bne_eq_false_iff_eq.mpr c26
        clear c26
        by_cases c27 : t151 = 4
        ·rw [if_pos c27] at H
         have c27b0 : (t151 == 4) = true := beq_iff_eq.mpr c27
         have c27b1 : (t151 != 4) = false := bne_eq_false_iff_eq.mpr c27
         clear c27
         have H' := Aside0.mk H
         clear H
         go_wp2
         go_meet
         case rel => exact ⟨_, (((wrap64 ((wrap64 ((wrap64 (t143 + t145)) + t147)) + t152)) != 0)), (by first | rfl | (simp; done) | (simp [*]; done) | (simp; exact (show ∀ a_ b_ : Bool, (a_ == b_) = (!(a_ != b_)) from by decide) _ _) | (rw [Bool.eq_iff_iff]; simp; done) | (simp; rw [Bool.eq_iff_iff]; simp; done)), H', ⟨by have := HJ4.out; first | omega | exact Nat.le_refl _⟩, ⟨by repeat (first | (with_reducible first | exact HB.out | apply below_alloc | apply pw_below_drewN | apply below_drew1) | exact HB.out)⟩⟩
        ·rw [if_neg c27] at H
         have c27b0 : (t151 == 4) = false := beq_eq_false_iff_ne.mpr c27
         have c27b1 : (t151 != 4) = true := bne_iff_ne.mpr c27
         have H' := Aside0.mk H
         clear H
         go_wp2
         go_meet
         case rel => exact ⟨_, (true), (by first | rfl | (simp; done) | (simp [*]; done) | (simp; exact (show ∀ a_ b_ : Bool, (a_ == b_) = (!(a_ != b_)) from by decide) _ _) | (rw [Bool.eq_iff_iff]; simp; done) | (simp; rw [Bool.eq_iff_iff]; simp; done)), H', ⟨by have := HJ4.out; first | omega | exact Nat.le_refl _⟩, ⟨by repeat (first | (with_reducible first | exact HB.out | apply below_alloc | apply pw_below_drewN | apply below_drew1) | exact HB.out)⟩⟩
       ·rw [if_neg c26] at H
        have c26b0 : (t146 == 1441) = false := beq_eq_false_iff_ne.mpr c26
        have c26b1 : (t146 != 1441) = true := bne_iff_ne.mpr c26
        have H' := Aside0.mk H
        clear H
        go_wp2
        go_meet
        case rel => exact ⟨_, (true), (by first | rfl | (simp; done) | (simp [*]; done) | (simp; exact (show ∀ a_ b_ : Bool, (a_ == b_) = (!(a_ != b_)) from by decide) _ _) | (rw [Bool.eq_iff_iff]; simp; done) | (simp; rw [Bool.eq_iff_iff]; simp; done)), H', ⟨by have := HJ4.out; first | omega | exact Nat.le_refl _⟩, ⟨by repeat (first | (with_reducible first | exact HB.out | apply below_alloc | apply pw_below_drewN | apply below_drew1) | exact HB.out)⟩⟩
      ·rw [if_neg c25] at H
       have c25b0 : (t144.toList == ([50, 48, 48, 49, 45, 48, 51, 45, 48, 49] : List UInt8)) = false := beq_eq_false_iff_ne.mpr c25
       have c25b1 : (t144.toList != ([50, 48, 48, 49, 45, 48, 51, 45, 48, 49] : List UInt8)) = true := bne_iff_ne.mpr c25
       have H' := Aside0.mk H
       clear H
       go_wp2
       go_meet
       case rel => exact ⟨_, (true), (by first | rfl | (simp; done) | (simp [*]; done) | (simp; exact (show ∀ a_ b_ : Bool, (a_ == b_) = (!(a_ != b_)) from by decide) _ _) | (rw [Bool.eq_iff_iff]; simp; done) | (simp; rw [Bool.eq_iff_iff]; simp; done)), H', ⟨by have := HJ4.out; first | omega | exact Nat.le_refl _⟩, ⟨by repeat (first | (with_reducible first | exact HB.out | apply below_alloc | apply pw_below_drewN | apply below_drew1) | exact HB.out)⟩⟩
     ·rw [if_neg c24] at H
      have c24b0 : (t142 == 5) = false := beq_eq_false_iff_ne.mpr c24
      have c24b1 : (t142 != 5) = true := bne_iff_ne.mpr c24
      (first | rw [c24b0] | (simp only [i64_w, i32_w]; rw [c24b0]) | skip)
      have H' := Aside0.mk H
      clear H
      go_wp2
      go_meet
      case rel => exact ⟨_, (true), (by first | rfl | (simp; done) | (simp [*]; done) | (simp; exact (show ∀ a_ b_ : Bool, (a_ == b_) = (!(a_ != b_)) from by decide) _ _) | (rw [Bool.eq_iff_iff]; simp; done) | (simp; rw [Bool.eq_iff_iff]; simp; done)), H', ⟨by have := HJ4.out; first | omega | exact Nat.le_refl _⟩, ⟨by repeat (first | (with_reducible first | exact HB.out | apply below_alloc | apply pw_below_drewN | apply below_drew1) | exact HB.out)⟩⟩
    case rest =>
     clear HC18
     try clear c1
     try clear c2
     try clear p2
     try clear c3
     try clear p6
     try clear c7
     try clear c7b0
     try clear c7b1
     try clear c8
     try clear c8b0
     try clear c8b1
     try clear c9
     try clear c9b0
     try clear c9b1
     try clear c10
     try clear c10b0
     try clear c10b1
     try clear c11
     try clear c11b0
     try clear c11b1
     try clear c12
     try clear c12b0
     try clear c12b1
     try clear c13
     try clear c17
     try clear c19
     try clear c20
     try clear c21
     try clear c24
     try clear c24b0
     try clear c24b1
     try clear c25
     try clear c25b0
     try clear c25b1
     try clear c26
     try clear c26b0
     try clear c26b1
     try clear c27
     try clear c27b0
     try clear c27b1
     try clear p2
     try clear p6
     obtain ⟨kq, x107_17, rfl, HA, HJ17, HB⟩ := hcut
     cases kq with
     | zero => exact absurd HA.out (by simp [letterbaglaw01_awake.j1])
     | succ kj17 =>
      have H := HA.out
      clear HA
      simp only [letterbaglaw01_awake.j1] at H
      by_cases c28 : x107_17 = true
      ·subst c28
       have H1 : (some false) = some r := by rw [if_pos rfl] at H; exact H
       clear H
       have H := H1
       clear H1
       obtain rfl := Option.some.inj H
       go_wp2
       go_ret
       exact ⟨by first | rfl | (simp [errW_none, errW_some] <;> rfl) | (simp [*, errW_none, errW_some] <;> rfl), by repeat (first | (with_reducible first | exact HB.out | apply below_alloc | apply pw_below_drewN | apply below_drew1) | exact HB.out)⟩
      ·replace c28 := Bool.eq_false_iff.mpr c28
       subst c28
       have H1 : ((civil_Ahead.f kj17 0 1 (([1] : List Int))).bind fun bt156 => ((civil_Ahead.f kj17 5 0 ([] : List Int)).bind fun bt158 => ((civil_Yearly.f kj17 364 1201 228).bind fun bt160 => ((civil_Yearly.f kj17 59 1201 228).bind fun bt162 => (if bt156.1 = 2 then (if bt158.1 = 7 then (if bt160.1 = true then (if bt162.1 = true then (some false) else (some ((wrap64 ((wrap64 ((wrap64 (bt156.2 + bt158.2)) + bt160.2)) + bt162.2)) == 0))) else (some false)) else (some false)) else (some false)))))) = some r := by rw [if_neg (show ¬ (false = true) by decide)] at H; exact H
       clear H
       have H := H1
       clear H1
       obtain ⟨y153, hy153⟩ : ∃ y_ : List Int, y_ = (([1] : List Int)) := ⟨_, rfl⟩
       replace H : ((civil_Ahead.f kj17 0 1 y153).bind fun bt156 => ((civil_Ahead.f kj17 5 0 ([] : List Int)).bind fun bt158 => ((civil_Yearly.f kj17 364 1201 228).bind fun bt160 => ((civil_Yearly.f kj17 59 1201 228).bind fun bt162 => (if bt156.1 = 2 then (if bt158.1 = 7 then (if bt160.1 = true then (if bt162.1 = true then (some false) else (some ((wrap64 ((wrap64 ((wrap64 (bt156.2 + bt158.2)) + bt160.2)) + bt162.2)) == 0))) else (some false)) else (some false)) else (some false)))))) = some r := by first | (rw [hy153]; with_reducible exact H) | (have H2_ := (Option.bind_some _ _).symm.trans H; rw [hy153]; with_reducible exact H2_) | (have H2_ := (Option.bind_some _ _).symm.trans H; with_reducible exact H2_) | with_reducible exact H | (rw [hy153]; exact H) | exact H
       have Ny153 := Aside0.mk hy153
       clear hy153
       replace H := Option.bind_eq_some_iff.mp H
       obtain ⟨⟨t156, t157⟩, A290, H⟩ := H
       replace H : ((civil_Ahead.f kj17 5 0 ([] : List Int)).bind fun bt158 => ((civil_Yearly.f kj17 364 1201 228).bind fun bt160 => ((civil_Yearly.f kj17 59 1201 228).bind fun bt162 => (if t156 = 2 then (if bt158.1 = 7 then (if bt160.1 = true then (if bt162.1 = true then (some false) else (some ((wrap64 ((wrap64 ((wrap64 (t157 + bt158.2)) + bt160.2)) + bt162.2)) == 0))) else (some false)) else (some false)) else (some false))))) = some r := H
       have A29 := Aside0.mk A290
       clear A290
       replace H := Option.bind_eq_some_iff.mp H
       obtain ⟨⟨t158, t159⟩, A300, H⟩ := H
       replace H : ((civil_Yearly.f kj17 364 1201 228).bind fun bt160 => ((civil_Yearly.f kj17 59 1201 228).bind fun bt162 => (if t156 = 2 then (if t158 = 7 then (if bt160.1 = true then (if bt162.1 = true then (some false) else (some ((wrap64 ((wrap64 ((wrap64 (t157 + t159)) + bt160.2)) + bt162.2)) == 0))) else (some false)) else (some false)) else (some false)))) = some r := H
       have A30 := Aside0.mk A300
       clear A300
       replace H := Option.bind_eq_some_iff.mp H
       obtain ⟨⟨t160, t161⟩, A310, H⟩ := H
       replace H : ((civil_Yearly.f kj17 59 1201 228).bind fun bt162 => (if t156 = 2 then (if t158 = 7 then (if t160 = true then (if bt162.1 = true then (some false) else (some ((wrap64 ((wrap64 ((wrap64 (t157 + t159)) + t161)) + bt162.2)) == 0))) else (some false)) else (some false)) else (some false))) = some r := H
       have A31 := Aside0.mk A310
       clear A310
       replace H := Option.bind_eq_some_iff.mp H
       obtain ⟨⟨t162, t163⟩, A320, H⟩ := H
       replace H : (if t156 = 2 then (if t158 = 7 then (if t160 = true then (if t162 = true then (some false) else (some ((wrap64 ((wrap64 ((wrap64 (t157 + t159)) + t161)) + t163)) == 0))) else (some false)) else (some false)) else (some false)) = some r := H
       have A32 := Aside0.mk A320
       clear A320
       by_cases c33 : t156 = 2
       ·rw [if_pos c33] at H
        have c33b0 : (t156 == 2) = true := beq_iff_eq.mpr c33
        have c33b1 : (t156 != 2) = false := bne_eq_false_iff_eq.mpr c33
        clear c33
        by_cases c34 : t158 = 7
        ·rw [if_pos c34] at H
         have c34b0 : (t158 == 7) = true := beq_iff_eq.mpr c34
         have c34b1 : (t158 != 7) = false := bne_eq_false_iff_eq.mpr c34
         clear c34
         by_cases c35 : t160 = true
         ·subst c35
          have H1 : (if t162 = true then (some false) else (some ((wrap64 ((wrap64 ((wrap64 (t157 + t159)) + t161)) + t163)) == 0))) = some r := by rw [if_pos rfl] at H; exact H
          clear H
          have H := H1
          clear H1
          by_cases c36 : t162 = true
          ·subst c36
           have H1 : (some false) = some r := by rw [if_pos rfl] at H; exact H
           clear H
           have H := H1
           clear H1
           obtain rfl := Option.some.inj H
           go_wp2_with (first | ((with_reducible refine gate_dst (N := 109) rfl ?_); refine Kd.R_lit (Kd.int .i64) _ 3 ?hg (N := 109) ?hd (xs := ([1] : List Int)) (inner := [.int .i64 1]) (ok := fun _ => True) (okp := fun _ => True) ?hr ?hp (fun _ hk => hk) trivial (Below.refl _ _) (Nat.le_refl _) (by simp) ?_; (case hd => rfl); (case hg => rfl); (case hr => first | (go_simp; done) | (go_simp; rfl)); (case hp => exact (Reps.one (show Kd.M (Kd.int .i64) _ _ _ 1 [.int .i64 1] from rfl) (Reps.none _ _))); intro v154 w37 ho38 hb hg_ hnew_; clear hg_ hnew_; (first | rw [← Ny153.out] at ho38 | (simp only [Int.reduceToNat] at ho38; rw [← Ny153.out] at ho38)); have n0_ := Aside0.mk (Kd.R_lower ho38 (below_size (by repeat (first | (with_reducible first | exact HB.out | apply below_alloc | apply pw_below_drewN | apply below_drew1) | exact HB.out)))); have n1_ := Aside0.mk (below_step (by repeat (first | (with_reducible first | exact HB.out | apply below_alloc | apply pw_below_drewN | apply below_drew1) | exact HB.out)) hb); clear HB; have HO155 := n0_; have HB := n1_; clear n0_ n1_; clear hb ho38; obtain ⟨Ao39, co39, eo39⟩ := Kd.R_slice HO155.out; subst eo39) | ((with_reducible refine gate_callee (f := 26) rfl ?_); refine goesL_ (some 110) rfl rfl Tryd.func26 (by kernel_rfl) rfl #[.int .i64 0, .int .i64 1, .slice Ao39 y153.length co39] rfl (by (try simp only [List.map_toArray, List.map_cons, List.map_nil]); first | done | rfl | (simp only [List.length_drop, List.length_take]; rfl)) ?_; (with_reducible refine (civil_Ahead.calls kj17 0 1 _ _ y153 t156 t157 _ ?side1 ?side2 A29.out).mono ?_); (case side1 => repeat (first | exact (Kd.R_reads' HO155.out).2.2 | (with_reducible refine Kd.C_alloc ?_ _) | (with_reducible refine Kd.C_drewN ?_ _) | (with_reducible refine Kd.C_drew ?_))); (case side2 => exact (Kd.R_reads' HO155.out).2.1); rintro e w40 ⟨rfl, hb⟩; refine ⟨_, rfl, ?_⟩; have n0_ := Aside0.mk (Kd.R_below (by (with_reducible repeat (first | apply Kd.R_alloc | apply Kd.R_drewN | apply Kd.R_drew)); exact HO155.out) hb); have n1_ := Aside0.mk (below_step (by repeat (first | (with_reducible first | exact HB.out | apply below_alloc | apply pw_below_drewN | apply below_drew1) | exact HB.out)) hb); clear HO155; clear HB; have HO155 := n0_; have HB := n1_; clear n0_ n1_; (try clear hb); (try clear hb2); (try clear hk); (try clear hi)) | ((with_reducible refine gate_callee (f := 26) rfl ?_); refine goesL_ (some 114) rfl rfl Tryd.func26 (by kernel_rfl) rfl #[.int .i64 5, .int .i64 0, .slice none 0 0] rfl (by (try simp only [List.map_toArray, List.map_cons, List.map_nil]); first | done | rfl | (simp only [List.length_drop, List.length_take]; rfl)) ?_; (refine (civil_Ahead.calls kj17 5 0 _ _ ([] : List Int) t158 t159 _ ?side1 ?side2 A30.out).mono ?_); (case side1 => exact Kd.C_nil _ _); (case side2 => exact Nat.le_refl _); rintro e w41 ⟨rfl, hb⟩; refine ⟨_, rfl, ?_⟩; have n0_ := Aside0.mk (Kd.R_below (by (with_reducible repeat (first | apply Kd.R_alloc | apply Kd.R_drewN | apply Kd.R_drew)); exact HO155.out) hb); have n1_ := Aside0.mk (below_step (by repeat (first | (with_reducible first | exact HB.out | apply below_alloc | apply pw_below_drewN | apply below_drew1) | exact HB.out)) hb); clear HO155; clear HB; have HO155 := n0_; have HB := n1_; clear n0_ n1_; (try clear hb); (try clear hb2); (try clear hk); (try clear hi)) | ((with_reducible refine gate_callee (f := 27) rfl ?_); refine goesL_ (some 118) rfl rfl Tryd.func27 (by kernel_rfl) rfl #[.int .i64 364, .int .i64 1201, .int .i64 228] rfl (by (try simp only [List.map_toArray, List.map_cons, List.map_nil]); first | done | rfl | (simp only [List.length_drop, List.length_take]; rfl)) ?_; (with_reducible refine (civil_Yearly.calls kj17 364 1201 228 true t161 _ ?tabG A31.out).mono ?_); (case tabG => (first | exact hg | exact ⟨hg.out.below (by repeat (first | (with_reducible first | exact HB.out | apply below_alloc | apply pw_below_drewN | apply below_drew1) | exact HB.out))⟩)); rintro e w42 ⟨rfl, hb⟩; refine ⟨_, rfl, ?_⟩; have n0_ := Aside0.mk (Kd.R_below (by (with_reducible repeat (first | apply Kd.R_alloc | apply Kd.R_drewN | apply Kd.R_drew)); exact HO155.out) hb); have n1_ := Aside0.mk (below_step (by repeat (first | (with_reducible first | exact HB.out | apply below_alloc | apply pw_below_drewN | apply below_drew1) | exact HB.out)) hb); clear HO155; clear HB; have HO155 := n0_; have HB := n1_; clear n0_ n1_; (try clear hb); (try clear hb2); (try clear hk); (try clear hi)) | ((with_reducible refine gate_callee (f := 27) rfl ?_); refine goesL_ (some 122) rfl rfl Tryd.func27 (by kernel_rfl) rfl #[.int .i64 59, .int .i64 1201, .int .i64 228] rfl (by (try simp only [List.map_toArray, List.map_cons, List.map_nil]); first | done | rfl | (simp only [List.length_drop, List.length_take]; rfl)) ?_; (with_reducible refine (civil_Yearly.calls kj17 59 1201 228 true t163 _ ?tabG A32.out).mono ?_); (case tabG => (first | exact hg | exact ⟨hg.out.below (by repeat (first | (with_reducible first | exact HB.out | apply below_alloc | apply pw_below_drewN | apply below_drew1) | exact HB.out))⟩)); rintro e w43 ⟨rfl, hb⟩; refine ⟨_, rfl, ?_⟩; have n0_ := Aside0.mk (Kd.R_below (by (with_reducible repeat (first | apply Kd.R_alloc | apply Kd.R_drewN | apply Kd.R_drew)); exact HO155.out) hb); have n1_ := Aside0.mk (below_step (by repeat (first | (with_reducible first | exact HB.out | apply below_alloc | apply pw_below_drewN | apply below_drew1) | exact HB.out)) hb); clear HO155; clear HB; have HO155 := n0_; have HB := n1_; clear n0_ n1_; (try clear hb); (try clear hb2); (try clear hk); (try clear hi)))
           go_ret
           exact ⟨by first | rfl | (simp [errW_none, errW_some] <;> rfl) | (simp [*, errW_none, errW_some] <;> rfl), by repeat (first | (with_reducible first | exact HB.out | apply below_alloc | apply pw_below_drewN | apply below_drew1) | exact HB.out)⟩
          ·replace c36 := Bool.eq_false_iff.mpr c36
           subst c36
           have H1 : (some ((wrap64 ((wrap64 ((wrap64 (t157 + t159)) + t161)) + t163)) == 0)) = some r := by rw [if_neg (show ¬ (false = true) by decide)] at H; exact H
           clear H
           have H := H1
           clear H1
           obtain rfl := Option.some.inj H
           go_wp2_with (first | ((with_reducible refine gate_dst (N := 109) rfl ?_); refine Kd.R_lit (Kd.int .i64) _ 3 ?hg (N := 109) ?hd (xs := ([1] : List Int)) (inner := [.int .i64 1]) (ok := fun _ => True) (okp := fun _ => True) ?hr ?hp (fun _ hk => hk) trivial (Below.refl _ _) (Nat.le_refl _) (by simp) ?_; (case hd => rfl); (case hg => rfl); (case hr => first | (go_simp; done) | (go_simp; rfl)); (case hp => exact (Reps.one (show Kd.M (Kd.int .i64) _ _ _ 1 [.int .i64 1] from rfl) (Reps.none _ _))); intro v154 w44 ho45 hb hg_ hnew_; clear hg_ hnew_; (first | rw [← Ny153.out] at ho45 | (simp only [Int.reduceToNat] at ho45; rw [← Ny153.out] at ho45)); have n0_ := Aside0.mk (Kd.R_lower ho45 (below_size (by repeat (first | (with_reducible first | exact HB.out | apply below_alloc | apply pw_below_drewN | apply below_drew1) | exact HB.out)))); have n1_ := Aside0.mk (below_step (by repeat (first | (with_reducible first | exact HB.out | apply below_alloc | apply pw_below_drewN | apply below_drew1) | exact HB.out)) hb); clear HB; have HO155 := n0_; have HB := n1_; clear n0_ n1_; clear hb ho45; obtain ⟨Ao46, co46, eo46⟩ := Kd.R_slice HO155.out; subst eo46) | ((with_reducible refine gate_callee (f := 26) rfl ?_); refine goesL_ (some 110) rfl rfl Tryd.func26 (by kernel_rfl) rfl #[.int .i64 0, .int .i64 1, .slice Ao46 y153.length co46] rfl (by (try simp only [List.map_toArray, List.map_cons, List.map_nil]); first | done | rfl | (simp only [List.length_drop, List.length_take]; rfl)) ?_; (with_reducible refine (civil_Ahead.calls kj17 0 1 _ _ y153 t156 t157 _ ?side1 ?side2 A29.out).mono ?_); (case side1 => repeat (first | exact (Kd.R_reads' HO155.out).2.2 | (with_reducible refine Kd.C_alloc ?_ _) | (with_reducible refine Kd.C_drewN ?_ _) | (with_reducible refine Kd.C_drew ?_))); (case side2 => exact (Kd.R_reads' HO155.out).2.1); rintro e w47 ⟨rfl, hb⟩; refine ⟨_, rfl, ?_⟩; have n0_ := Aside0.mk (Kd.R_below (by (with_reducible repeat (first | apply Kd.R_alloc | apply Kd.R_drewN | apply Kd.R_drew)); exact HO155.out) hb); have n1_ := Aside0.mk (below_step (by repeat (first | (with_reducible first | exact HB.out | apply below_alloc | apply pw_below_drewN | apply below_drew1) | exact HB.out)) hb); clear HO155; clear HB; have HO155 := n0_; have HB := n1_; clear n0_ n1_; (try clear hb); (try clear hb2); (try clear hk); (try clear hi)) | ((with_reducible refine gate_callee (f := 26) rfl ?_); refine goesL_ (some 114) rfl rfl Tryd.func26 (by kernel_rfl) rfl #[.int .i64 5, .int .i64 0, .slice none 0 0] rfl (by (try simp only [List.map_toArray, List.map_cons, List.map_nil]); first | done | rfl | (simp only [List.length_drop, List.length_take]; rfl)) ?_; (refine (civil_Ahead.calls kj17 5 0 _ _ ([] : List Int) t158 t159 _ ?side1 ?side2 A30.out).mono ?_); (case side1 => exact Kd.C_nil _ _); (case side2 => exact Nat.le_refl _); rintro e w48 ⟨rfl, hb⟩; refine ⟨_, rfl, ?_⟩; have n0_ := Aside0.mk (Kd.R_below (by (with_reducible repeat (first | apply Kd.R_alloc | apply Kd.R_drewN | apply Kd.R_drew)); exact HO155.out) hb); have n1_ := Aside0.mk (below_step (by repeat (first | (with_reducible first | exact HB.out | apply below_alloc | apply pw_below_drewN | apply below_drew1) | exact HB.out)) hb); clear HO155; clear HB; have HO155 := n0_; have HB := n1_; clear n0_ n1_; (try clear hb); (try clear hb2); (try clear hk); (try clear hi)) | ((with_reducible refine gate_callee (f := 27) rfl ?_); refine goesL_ (some 118) rfl rfl Tryd.func27 (by kernel_rfl) rfl #[.int .i64 364, .int .i64 1201, .int .i64 228] rfl (by (try simp only [List.map_toArray, List.map_cons, List.map_nil]); first | done | rfl | (simp only [List.length_drop, List.length_take]; rfl)) ?_; (with_reducible refine (civil_Yearly.calls kj17 364 1201 228 true t161 _ ?tabG A31.out).mono ?_); (case tabG => (first | exact hg | exact ⟨hg.out.below (by repeat (first | (with_reducible first | exact HB.out | apply below_alloc | apply pw_below_drewN | apply below_drew1) | exact HB.out))⟩)); rintro e w49 ⟨rfl, hb⟩; refine ⟨_, rfl, ?_⟩; have n0_ := Aside0.mk (Kd.R_below (by (with_reducible repeat (first | apply Kd.R_alloc | apply Kd.R_drewN | apply Kd.R_drew)); exact HO155.out) hb); have n1_ := Aside0.mk (below_step (by repeat (first | (with_reducible first | exact HB.out | apply below_alloc | apply pw_below_drewN | apply below_drew1) | exact HB.out)) hb); clear HO155; clear HB; have HO155 := n0_; have HB := n1_; clear n0_ n1_; (try clear hb); (try clear hb2); (try clear hk); (try clear hi)) | ((with_reducible refine gate_callee (f := 27) rfl ?_); refine goesL_ (some 122) rfl rfl Tryd.func27 (by kernel_rfl) rfl #[.int .i64 59, .int .i64 1201, .int .i64 228] rfl (by (try simp only [List.map_toArray, List.map_cons, List.map_nil]); first | done | rfl | (simp only [List.length_drop, List.length_take]; rfl)) ?_; (with_reducible refine (civil_Yearly.calls kj17 59 1201 228 false t163 _ ?tabG A32.out).mono ?_); (case tabG => (first | exact hg | exact ⟨hg.out.below (by repeat (first | (with_reducible first | exact HB.out | apply below_alloc | apply pw_below_drewN | apply below_drew1) | exact HB.out))⟩)); rintro e w50 ⟨rfl, hb⟩; refine ⟨_, rfl, ?_⟩; have n0_ := Aside0.mk (Kd.R_below (by (with_reducible repeat (first | apply Kd.R_alloc | apply Kd.R_drewN | apply Kd.R_drew)); exact HO155.out) hb); have n1_ := Aside0.mk (below_step (by repeat (first | (with_reducible first | exact HB.out | apply below_alloc | apply pw_below_drewN | apply below_drew1) | exact HB.out)) hb); clear HO155; clear HB; have HO155 := n0_; have HB := n1_; clear n0_ n1_; (try clear hb); (try clear hb2); (try clear hk); (try clear hi)))
           go_ret
           exact ⟨by first | rfl | (simp [errW_none, errW_some] <;> rfl) | (simp [*, errW_none, errW_some] <;> rfl), by repeat (first | (with_reducible first | exact HB.out | apply below_alloc | apply pw_below_drewN | apply below_drew1) | exact HB.out)⟩
         ·replace c35 := Bool.eq_false_iff.mpr c35
          subst c35
          have H1 : (some false) = some r := by rw [if_neg (show ¬ (false = true) by decide)] at H; exact H
          clear H
          have H := H1
          clear H1
          obtain rfl := Option.some.inj H
          go_wp2_with (first | ((with_reducible refine gate_dst (N := 109) rfl ?_); refine Kd.R_lit (Kd.int .i64) _ 3 ?hg (N := 109) ?hd (xs := ([1] : List Int)) (inner := [.int .i64 1]) (ok := fun _ => True) (okp := fun _ => True) ?hr ?hp (fun _ hk => hk) trivial (Below.refl _ _) (Nat.le_refl _) (by simp) ?_; (case hd => rfl); (case hg => rfl); (case hr => first | (go_simp; done) | (go_simp; rfl)); (case hp => exact (Reps.one (show Kd.M (Kd.int .i64) _ _ _ 1 [.int .i64 1] from rfl) (Reps.none _ _))); intro v154 w51 ho52 hb hg_ hnew_; clear hg_ hnew_; (first | rw [← Ny153.out] at ho52 | (simp only [Int.reduceToNat] at ho52; rw [← Ny153.out] at ho52)); have n0_ := Aside0.mk (Kd.R_lower ho52 (below_size (by repeat (first | (with_reducible first | exact HB.out | apply below_alloc | apply pw_below_drewN | apply below_drew1) | exact HB.out)))); have n1_ := Aside0.mk (below_step (by repeat (first | (with_reducible first | exact HB.out | apply below_alloc | apply pw_below_drewN | apply below_drew1) | exact HB.out)) hb); clear HB; have HO155 := n0_; have HB := n1_; clear n0_ n1_; clear hb ho52; obtain ⟨Ao53, co53, eo53⟩ := Kd.R_slice HO155.out; subst eo53) | ((with_reducible refine gate_callee (f := 26) rfl ?_); refine goesL_ (some 110) rfl rfl Tryd.func26 (by kernel_rfl) rfl #[.int .i64 0, .int .i64 1, .slice Ao53 y153.length co53] rfl (by (try simp only [List.map_toArray, List.map_cons, List.map_nil]); first | done | rfl | (simp only [List.length_drop, List.length_take]; rfl)) ?_; (with_reducible refine (civil_Ahead.calls kj17 0 1 _ _ y153 t156 t157 _ ?side1 ?side2 A29.out).mono ?_); (case side1 => repeat (first | exact (Kd.R_reads' HO155.out).2.2 | (with_reducible refine Kd.C_alloc ?_ _) | (with_reducible refine Kd.C_drewN ?_ _) | (with_reducible refine Kd.C_drew ?_))); (case side2 => exact (Kd.R_reads' HO155.out).2.1); rintro e w54 ⟨rfl, hb⟩; refine ⟨_, rfl, ?_⟩; have n0_ := Aside0.mk (Kd.R_below (by (with_reducible repeat (first | apply Kd.R_alloc | apply Kd.R_drewN | apply Kd.R_drew)); exact HO155.out) hb); have n1_ := Aside0.mk (below_step (by repeat (first | (with_reducible first | exact HB.out | apply below_alloc | apply pw_below_drewN | apply below_drew1) | exact HB.out)) hb); clear HO155; clear HB; have HO155 := n0_; have HB := n1_; clear n0_ n1_; (try clear hb); (try clear hb2); (try clear hk); (try clear hi)) | ((with_reducible refine gate_callee (f := 26) rfl ?_); refine goesL_ (some 114) rfl rfl Tryd.func26 (by kernel_rfl) rfl #[.int .i64 5, .int .i64 0, .slice none 0 0] rfl (by (try simp only [List.map_toArray, List.map_cons, List.map_nil]); first | done | rfl | (simp only [List.length_drop, List.length_take]; rfl)) ?_; (refine (civil_Ahead.calls kj17 5 0 _ _ ([] : List Int) t158 t159 _ ?side1 ?side2 A30.out).mono ?_); (case side1 => exact Kd.C_nil _ _); (case side2 => exact Nat.le_refl _); rintro e w55 ⟨rfl, hb⟩; refine ⟨_, rfl, ?_⟩; have n0_ := Aside0.mk (Kd.R_below (by (with_reducible repeat (first | apply Kd.R_alloc | apply Kd.R_drewN | apply Kd.R_drew)); exact HO155.out) hb); have n1_ := Aside0.mk (below_step (by repeat (first | (with_reducible first | exact HB.out | apply below_alloc | apply pw_below_drewN | apply below_drew1) | exact HB.out)) hb); clear HO155; clear HB; have HO155 := n0_; have HB := n1_; clear n0_ n1_; (try clear hb); (try clear hb2); (try clear hk); (try clear hi)) | ((with_reducible refine gate_callee (f := 27) rfl ?_); refine goesL_ (some 118) rfl rfl Tryd.func27 (by kernel_rfl) rfl #[.int .i64 364, .int .i64 1201, .int .i64 228] rfl (by (try simp only [List.map_toArray, List.map_cons, List.map_nil]); first | done | rfl | (simp only [List.length_drop, List.length_take]; rfl)) ?_; (with_reducible refine (civil_Yearly.calls kj17 364 1201 228 false t161 _ ?tabG A31.out).mono ?_); (case tabG => (first | exact hg | exact ⟨hg.out.below (by repeat (first | (with_reducible first | exact HB.out | apply below_alloc | apply pw_below_drewN | apply below_drew1) | exact HB.out))⟩)); rintro e w56 ⟨rfl, hb⟩; refine ⟨_, rfl, ?_⟩; have n0_ := Aside0.mk (Kd.R_below (by (with_reducible repeat (first | apply Kd.R_alloc | apply Kd.R_drewN | apply Kd.R_drew)); exact HO155.out) hb); have n1_ := Aside0.mk (below_step (by repeat (first | (with_reducible first | exact HB.out | apply below_alloc | apply pw_below_drewN | apply below_drew1) | exact HB.out)) hb); clear HO155; clear HB; have HO155 := n0_; have HB := n1_; clear n0_ n1_; (try clear hb); (try clear hb2); (try clear hk); (try clear hi)) | ((with_reducible refine gate_callee (f := 27) rfl ?_); refine goesL_ (some 122) rfl rfl Tryd.func27 (by kernel_rfl) rfl #[.int .i64 59, .int .i64 1201, .int .i64 228] rfl (by (try simp only [List.map_toArray, List.map_cons, List.map_nil]); first | done | rfl | (simp only [List.length_drop, List.length_take]; rfl)) ?_; (with_reducible refine (civil_Yearly.calls kj17 59 1201 228 t162 t163 _ ?tabG A32.out).mono ?_); (case tabG => (first | exact hg | exact ⟨hg.out.below (by repeat (first | (with_reducible first | exact HB.out | apply below_alloc | apply pw_below_drewN | apply below_drew1) | exact HB.out))⟩)); rintro e w57 ⟨rfl, hb⟩; refine ⟨_, rfl, ?_⟩; have n0_ := Aside0.mk (Kd.R_below (by (with_reducible repeat (first | apply Kd.R_alloc | apply Kd.R_drewN | apply Kd.R_drew)); exact HO155.out) hb); have n1_ := Aside0.mk (below_step (by repeat (first | (with_reducible first | exact HB.out | apply below_alloc | apply pw_below_drewN | apply below_drew1) | exact HB.out)) hb); clear HO155; clear HB; have HO155 := n0_; have HB := n1_; clear n0_ n1_; (try clear hb); (try clear hb2); (try clear hk); (try clear hi)))
          go_ret
          exact ⟨by first | rfl | (simp [errW_none, errW_some] <;> rfl) | (simp [*, errW_none, errW_some] <;> rfl), by repeat (first | (with_reducible first | exact HB.out | apply below_alloc | apply pw_below_drewN | apply below_drew1) | exact HB.out)⟩
        ·rw [if_neg c34] at H
         have c34b0 : (t158 == 7) = false := beq_eq_false_iff_ne.mpr c34
         have c34b1 : (t158 != 7) = true := bne_iff_ne.mpr c34
         obtain rfl := Option.some.inj H
         go_wp2_with (first | ((with_reducible refine gate_dst (N := 109) rfl ?_); refine Kd.R_lit (Kd.int .i64) _ 3 ?hg (N := 109) ?hd (xs := ([1] : List Int)) (inner := [.int .i64 1]) (ok := fun _ => True) (okp := fun _ => True) ?hr ?hp (fun _ hk => hk) trivial (Below.refl _ _) (Nat.le_refl _) (by simp) ?_; (case hd => rfl); (case hg => rfl); (case hr => first | (go_simp; done) | (go_simp; rfl)); (case hp => exact (Reps.one (show Kd.M (Kd.int .i64) _ _ _ 1 [.int .i64 1] from rfl) (Reps.none _ _))); intro v154 w58 ho59 hb hg_ hnew_; clear hg_ hnew_; (first | rw [← Ny153.out] at ho59 | (simp only [Int.reduceToNat] at ho59; rw [← Ny153.out] at ho59)); have n0_ := Aside0.mk (Kd.R_lower ho59 (below_size (by repeat (first | (with_reducible first | exact HB.out | apply below_alloc | apply pw_below_drewN | apply below_drew1) | exact HB.out)))); have n1_ := Aside0.mk (below_step (by repeat (first | (with_reducible first | exact HB.out | apply below_alloc | apply pw_below_drewN | apply below_drew1) | exact HB.out)) hb); clear HB; have HO155 := n0_; have HB := n1_; clear n0_ n1_; clear hb ho59; obtain ⟨Ao60, co60, eo60⟩ := Kd.R_slice HO155.out; subst eo60) | ((with_reducible refine gate_callee (f := 26) rfl ?_); refine goesL_ (some 110) rfl rfl Tryd.func26 (by kernel_rfl) rfl #[.int .i64 0, .int .i64 1, .slice Ao60 y153.length co60] rfl (by (try simp only [List.map_toArray, List.map_cons, List.map_nil]); first | done | rfl | (simp only [List.length_drop, List.length_take]; rfl)) ?_; (with_reducible refine (civil_Ahead.calls kj17 0 1 _ _ y153 t156 t157 _ ?side1 ?side2 A29.out).mono ?_); (case side1 => repeat (first | exact (Kd.R_reads' HO155.out).2.2 | (with_reducible refine Kd.C_alloc ?_ _) | (with_reducible refine Kd.C_drewN ?_ _) | (with_reducible refine Kd.C_drew ?_))); (case side2 => exact (Kd.R_reads' HO155.out).2.1); rintro e w61 ⟨rfl, hb⟩; refine ⟨_, rfl, ?_⟩; have n0_ := Aside0.mk (Kd.R_below (by (with_reducible repeat (first | apply Kd.R_alloc | apply Kd.R_drewN | apply Kd.R_drew)); exact HO155.out) hb); have n1_ := Aside0.mk (below_step (by repeat (first | (with_reducible first | exact HB.out | apply below_alloc | apply pw_below_drewN | apply below_drew1) | exact HB.out)) hb); clear HO155; clear HB; have HO155 := n0_; have HB := n1_; clear n0_ n1_; (try clear hb); (try clear hb2); (try clear hk); (try clear hi)) | ((with_reducible refine gate_callee (f := 26) rfl ?_); refine goesL_ (some 114) rfl rfl Tryd.func26 (by kernel_rfl) rfl #[.int .i64 5, .int .i64 0, .slice none 0 0] rfl (by (try simp only [List.map_toArray, List.map_cons, List.map_nil]); first | done | rfl | (simp only [List.length_drop, List.length_take]; rfl)) ?_; (refine (civil_Ahead.calls kj17 5 0 _ _ ([] : List Int) t158 t159 _ ?side1 ?side2 A30.out).mono ?_); (case side1 => exact Kd.C_nil _ _); (case side2 => exact Nat.le_refl _); rintro e w62 ⟨rfl, hb⟩; refine ⟨_, rfl, ?_⟩; have n0_ := Aside0.mk (Kd.R_below (by (with_reducible repeat (first | apply Kd.R_alloc | apply Kd.R_drewN | apply Kd.R_drew)); exact HO155.out) hb); have n1_ := Aside0.mk (below_step (by repeat (first | (with_reducible first | exact HB.out | apply below_alloc | apply pw_below_drewN | apply below_drew1) | exact HB.out)) hb); clear HO155; clear HB; have HO155 := n0_; have HB := n1_; clear n0_ n1_; (try clear hb); (try clear hb2); (try clear hk); (try clear hi)) | ((with_reducible refine gate_callee (f := 27) rfl ?_); refine goesL_ (some 118) rfl rfl Tryd.func27 (by kernel_rfl) rfl #[.int .i64 364, .int .i64 1201, .int .i64 228] rfl (by (try simp only [List.map_toArray, List.map_cons, List.map_nil]); first | done | rfl | (simp only [List.length_drop, List.length_take]; rfl)) ?_; (with_reducible refine (civil_Yearly.calls kj17 364 1201 228 t160 t161 _ ?tabG A31.out).mono ?_); (case tabG => (first | exact hg | exact ⟨hg.out.below (by repeat (first | (with_reducible first | exact HB.out | apply below_alloc | apply pw_below_drewN | apply below_drew1) | exact HB.out))⟩)); rintro e w63 ⟨rfl, hb⟩; refine ⟨_, rfl, ?_⟩; have n0_ := Aside0.mk (Kd.R_below (by (with_reducible repeat (first | apply Kd.R_alloc | apply Kd.R_drewN | apply Kd.R_drew)); exact HO155.out) hb); have n1_ := Aside0.mk (below_step (by repeat (first | (with_reducible first | exact HB.out | apply below_alloc | apply pw_below_drewN | apply below_drew1) | exact HB.out)) hb); clear HO155; clear HB; have HO155 := n0_; have HB := n1_; clear n0_ n1_; (try clear hb); (try clear hb2); (try clear hk); (try clear hi)) | ((with_reducible refine gate_callee (f := 27) rfl ?_); refine goesL_ (some 122) rfl rfl Tryd.func27 (by kernel_rfl) rfl #[.int .i64 59, .int .i64 1201, .int .i64 228] rfl (by (try simp only [List.map_toArray, List.map_cons, List.map_nil]); first | done | rfl | (simp only [List.length_drop, List.length_take]; rfl)) ?_; (with_reducible refine (civil_Yearly.calls kj17 59 1201 228 t162 t163 _ ?tabG A32.out).mono ?_); (case tabG => (first | exact hg | exact ⟨hg.out.below (by repeat (first | (with_reducible first | exact HB.out | apply below_alloc | apply pw_below_drewN | apply below_drew1) | exact HB.out))⟩)); rintro e w64 ⟨rfl, hb⟩; refine ⟨_, rfl, ?_⟩; have n0_ := Aside0.mk (Kd.R_below (by (with_reducible repeat (first | apply Kd.R_alloc | apply Kd.R_drewN | apply Kd.R_drew)); exact HO155.out) hb); have n1_ := Aside0.mk (below_step (by repeat (first | (with_reducible first | exact HB.out | apply below_alloc | apply pw_below_drewN | apply below_drew1) | exact HB.out)) hb); clear HO155; clear HB; have HO155 := n0_; have HB := n1_; clear n0_ n1_; (try clear hb); (try clear hb2); (try clear hk); (try clear hi)))
         go_ret
         exact ⟨by first | rfl | (simp [errW_none, errW_some] <;> rfl) | (simp [*, errW_none, errW_some] <;> rfl), by repeat (first | (with_reducible first | exact HB.out | apply below_alloc | apply pw_below_drewN | apply below_drew1) | exact HB.out)⟩
       ·rw [if_neg c33] at H
        have c33b0 : (t156 == 2) = false := beq_eq_false_iff_ne.mpr c33
        have c33b1 : (t156 != 2) = true := bne_iff_ne.mpr c33
        obtain rfl := Option.some.inj H
        go_wp2_with (first | ((with_reducible refine gate_dst (N := 109) rfl ?_); refine Kd.R_lit (Kd.int .i64) _ 3 ?hg (N := 109) ?hd (xs := ([1] : List Int)) (inner := [.int .i64 1]) (ok := fun _ => True) (okp := fun _ => True) ?hr ?hp (fun _ hk => hk) trivial (Below.refl _ _) (Nat.le_refl _) (by simp) ?_; (case hd => rfl); (case hg => rfl); (case hr => first | (go_simp; done) | (go_simp; rfl)); (case hp => exact (Reps.one (show Kd.M (Kd.int .i64) _ _ _ 1 [.int .i64 1] from rfl) (Reps.none _ _))); intro v154 w65 ho66 hb hg_ hnew_; clear hg_ hnew_; (first | rw [← Ny153.out] at ho66 | (simp only [Int.reduceToNat] at ho66; rw [← Ny153.out] at ho66)); have n0_ := Aside0.mk (Kd.R_lower ho66 (below_size (by repeat (first | (with_reducible first | exact HB.out | apply below_alloc | apply pw_below_drewN | apply below_drew1) | exact HB.out)))); have n1_ := Aside0.mk (below_step (by repeat (first | (with_reducible first | exact HB.out | apply below_alloc | apply pw_below_drewN | apply below_drew1) | exact HB.out)) hb); clear HB; have HO155 := n0_; have HB := n1_; clear n0_ n1_; clear hb ho66; obtain ⟨Ao67, co67, eo67⟩ := Kd.R_slice HO155.out; subst eo67) | ((with_reducible refine gate_callee (f := 26) rfl ?_); refine goesL_ (some 110) rfl rfl Tryd.func26 (by kernel_rfl) rfl #[.int .i64 0, .int .i64 1, .slice Ao67 y153.length co67] rfl (by (try simp only [List.map_toArray, List.map_cons, List.map_nil]); first | done | rfl | (simp only [List.length_drop, List.length_take]; rfl)) ?_; (with_reducible refine (civil_Ahead.calls kj17 0 1 _ _ y153 t156 t157 _ ?side1 ?side2 A29.out).mono ?_); (case side1 => repeat (first | exact (Kd.R_reads' HO155.out).2.2 | (with_reducible refine Kd.C_alloc ?_ _) | (with_reducible refine Kd.C_drewN ?_ _) | (with_reducible refine Kd.C_drew ?_))); (case side2 => exact (Kd.R_reads' HO155.out).2.1); rintro e w68 ⟨rfl, hb⟩; refine ⟨_, rfl, ?_⟩; have n0_ := Aside0.mk (Kd.R_below (by (with_reducible repeat (first | apply Kd.R_alloc | apply Kd.R_drewN | apply Kd.R_drew)); exact HO155.out) hb); have n1_ := Aside0.mk (below_step (by repeat (first | (with_reducible first | exact HB.out | apply below_alloc | apply pw_below_drewN | apply below_drew1) | exact HB.out)) hb); clear HO155; clear HB; have HO155 := n0_; have HB := n1_; clear n0_ n1_; (try clear hb); (try clear hb2); (try clear hk); (try clear hi)) | ((with_reducible refine gate_callee (f := 26) rfl ?_); refine goesL_ (some 114) rfl rfl Tryd.func26 (by kernel_rfl) rfl #[.int .i64 5, .int .i64 0, .slice none 0 0] rfl (by (try simp only [List.map_toArray, List.map_cons, List.map_nil]); first | done | rfl | (simp only [List.length_drop, List.length_take]; rfl)) ?_; (refine (civil_Ahead.calls kj17 5 0 _ _ ([] : List Int) t158 t159 _ ?side1 ?side2 A30.out).mono ?_); (case side1 => exact Kd.C_nil _ _); (case side2 => exact Nat.le_refl _); rintro e w69 ⟨rfl, hb⟩; refine ⟨_, rfl, ?_⟩; have n0_ := Aside0.mk (Kd.R_below (by (with_reducible repeat (first | apply Kd.R_alloc | apply Kd.R_drewN | apply Kd.R_drew)); exact HO155.out) hb); have n1_ := Aside0.mk (below_step (by repeat (first | (with_reducible first | exact HB.out | apply below_alloc | apply pw_below_drewN | apply below_drew1) | exact HB.out)) hb); clear HO155; clear HB; have HO155 := n0_; have HB := n1_; clear n0_ n1_; (try clear hb); (try clear hb2); (try clear hk); (try clear hi)) | ((with_reducible refine gate_callee (f := 27) rfl ?_); refine goesL_ (some 118) rfl rfl Tryd.func27 (by kernel_rfl) rfl #[.int .i64 364, .int .i64 1201, .int .i64 228] rfl (by (try simp only [List.map_toArray, List.map_cons, List.map_nil]); first | done | rfl | (simp only [List.length_drop, List.length_take]; rfl)) ?_; (with_reducible refine (civil_Yearly.calls kj17 364 1201 228 t160 t161 _ ?tabG A31.out).mono ?_); (case tabG => (first | exact hg | exact ⟨hg.out.below (by repeat (first | (with_reducible first | exact HB.out | apply below_alloc | apply pw_below_drewN | apply below_drew1) | exact HB.out))⟩)); rintro e w70 ⟨rfl, hb⟩; refine ⟨_, rfl, ?_⟩; have n0_ := Aside0.mk (Kd.R_below (by (with_reducible repeat (first | apply Kd.R_alloc | apply Kd.R_drewN | apply Kd.R_drew)); exact HO155.out) hb); have n1_ := Aside0.mk (below_step (by repeat (first | (with_reducible first | exact HB.out | apply below_alloc | apply pw_below_drewN | apply below_drew1) | exact HB.out)) hb); clear HO155; clear HB; have HO155 := n0_; have HB := n1_; clear n0_ n1_; (try clear hb); (try clear hb2); (try clear hk); (try clear hi)) | ((with_reducible refine gate_callee (f := 27) rfl ?_); refine goesL_ (some 122) rfl rfl Tryd.func27 (by kernel_rfl) rfl #[.int .i64 59, .int .i64 1201, .int .i64 228] rfl (by (try simp only [List.map_toArray, List.map_cons, List.map_nil]); first | done | rfl | (simp only [List.length_drop, List.length_take]; rfl)) ?_; (with_reducible refine (civil_Yearly.calls kj17 59 1201 228 t162 t163 _ ?tabG A32.out).mono ?_); (case tabG => (first | exact hg | exact ⟨hg.out.below (by repeat (first | (with_reducible first | exact HB.out | apply below_alloc | apply pw_below_drewN | apply below_drew1) | exact HB.out))⟩)); rintro e w71 ⟨rfl, hb⟩; refine ⟨_, rfl, ?_⟩; have n0_ := Aside0.mk (Kd.R_below (by (with_reducible repeat (first | apply Kd.R_alloc | apply Kd.R_drewN | apply Kd.R_drew)); exact HO155.out) hb); have n1_ := Aside0.mk (below_step (by repeat (first | (with_reducible first | exact HB.out | apply below_alloc | apply pw_below_drewN | apply below_drew1) | exact HB.out)) hb); clear HO155; clear HB; have HO155 := n0_; have HB := n1_; clear n0_ n1_; (try clear hb); (try clear hb2); (try clear hk); (try clear hi)))
        go_ret
        exact ⟨by first | rfl | (simp [errW_none, errW_some] <;> rfl) | (simp [*, errW_none, errW_some] <;> rfl), by repeat (first | (with_reducible first | exact HB.out | apply below_alloc | apply pw_below_drewN | apply below_drew1) | exact HB.out)⟩
def civil_Time.j0 : Nat → Int → Int → Bool → Option (Int × Int)
 | 0, _, _, _ => none
 | k + 1, x0, x1, x12 => if x12 = true then (some (0, 2)) else ((civil_within.f x0 730484).bind fun t164 => (if t164 = 0 then (some (wrap64 ((wrap64 (x0 * 1440)) + x1), 0)) else (some (0, t164))))
def civil_Time.f (k : Nat) (a0 : Int) (a1 : Int) : Option (Int × Int) := if a1 < 0 then (civil_Time.j0 k a0 a1 true) else (civil_Time.j0 k a0 a1 (decide (a1 ≥ 1440)))
set_option maxHeartbeats 8000000 in
set_option maxRecDepth 100000 in
theorem civil_Time.calls (k : Nat) (a0 : Int) (a1 : Int) (r1 : Int) (r2 : Int) (w : World) (h : civil_Time.f k a0 a1 = some (r1, r2)) :
  Calls Tryd.prog 22 #[.int .i64 a0, .int .i64 a1] w fun e w' => e = .returned (.tuple #[.int .i64 r1, .int .i64 r2]) ∧ Drawn0 w w' := by
 have H : (if a1 < 0 then (civil_Time.j0 k a0 a1 true) else (civil_Time.j0 k a0 a1 (decide (a1 ≥ 1440)))) = some (r1, r2) := h
 clear h
 have HC3 := Aside0.mk H
 clear H
 go_enter Tryd.func22, Tryd.ntmps22
 go_upto_region 1 with (fail)
 go_cut [12] (fun v12 wc => ∃ (kq : Nat) (x12_2 : Bool), v12 = .bool x12_2 ∧ Aside0 (civil_Time.j0 kq a0 a1 x12_2 = some (r1, r2)) ∧ Aside0 (kq ≤ k) ∧ Drawn0 w wc)
 case first =>
  have H := HC3.out
  clear HC3
  by_cases c4 : a1 < 0
  ·rw [if_pos c4] at H
   have c4b0 : decide (a1 < 0) = true := decide_eq_true c4
   clear c4
   (first | rw [c4b0] | (simp only [i64_w, i32_w]; rw [c4b0]) | skip)
   have H' := Aside0.mk H
   clear H
   go_wp2
   go_meet
   case rel => exact ⟨_, (true), (by first | rfl | (simp; done) | (simp [*]; done) | (simp; exact (show ∀ a_ b_ : Bool, (a_ == b_) = (!(a_ != b_)) from by decide) _ _) | (rw [Bool.eq_iff_iff]; simp; done) | (simp; rw [Bool.eq_iff_iff]; simp; done)), H', ⟨by first | omega | exact Nat.le_refl _⟩, by repeat (first | exact Drawn0.refl _ | apply Drawn0.step)⟩
  ·rw [if_neg c4] at H
   have c4b0 : decide (a1 < 0) = false := decide_eq_false c4
   clear c4
   (first | rw [c4b0] | (simp only [i64_w, i32_w]; rw [c4b0]) | skip)
   have H' := Aside0.mk H
   clear H
   go_wp2
   go_meet
   case rel => exact ⟨_, (decide (a1 ≥ 1440)), (by first | rfl | (simp; done) | (simp [*]; done) | (simp; exact (show ∀ a_ b_ : Bool, (a_ == b_) = (!(a_ != b_)) from by decide) _ _) | (rw [Bool.eq_iff_iff]; simp; done) | (simp; rw [Bool.eq_iff_iff]; simp; done)), H', ⟨by first | omega | exact Nat.le_refl _⟩, by repeat (first | exact Drawn0.refl _ | apply Drawn0.step)⟩
 case rest =>
  clear HC3
  try clear c2
  try clear p2
  try clear c4
  try clear c4b0
  obtain ⟨kq, x12_2, rfl, HA, HJ2, ⟨mc2, rfl⟩⟩ := hcut
  cases kq with
  | zero => exact absurd HA.out (by simp [civil_Time.j0])
  | succ kj2 =>
   have H := HA.out
   clear HA
   simp only [civil_Time.j0] at H
   by_cases c5 : x12_2 = true
   ·subst c5
    have H1 : (some (0, 2)) = some (r1, r2) := by rw [if_pos rfl] at H; exact H
    clear H
    have H := H1
    clear H1
    simp only [Option.some.injEq, Prod.mk.injEq] at H
    obtain ⟨rfl, rfl⟩ := H
    go_wp2
    go_ret2
    exact ⟨by first | rfl | (simp; done) | (simp [*]; done) | (simp; exact (show ∀ a_ b_ : Bool, (a_ == b_) = (!(a_ != b_)) from by decide) _ _), by repeat (first | exact Drawn0.refl _ | apply Drawn0.step)⟩
   ·replace c5 := Bool.eq_false_iff.mpr c5
    subst c5
    have H1 : ((civil_within.f a0 730484).bind fun t164 => (if t164 = 0 then (some (wrap64 ((wrap64 (a0 * 1440)) + a1), 0)) else (some (0, t164)))) = some (r1, r2) := by rw [if_neg (show ¬ (false = true) by decide)] at H; exact H
    clear H
    have H := H1
    clear H1
    replace H := Option.bind_eq_some_iff.mp H
    obtain ⟨t164, A60, H⟩ := H
    replace H : (if t164 = 0 then (some (wrap64 ((wrap64 (a0 * 1440)) + a1), 0)) else (some (0, t164))) = some (r1, r2) := H
    have A6 := Aside0.mk A60
    clear A60
    by_cases c7 : t164 = 0
    ·rw [if_pos c7] at H
     have c7b0 : (t164 == 0) = true := beq_iff_eq.mpr c7
     have c7b1 : (t164 != 0) = false := bne_eq_false_iff_eq.mpr c7
     clear c7
     simp only [Option.some.injEq, Prod.mk.injEq] at H
     obtain ⟨rfl, rfl⟩ := H
     go_wp2_with (first | ((with_reducible refine gate_callee (f := 54) rfl ?_); refine goesL_ (some 14) rfl rfl Tryd.func54 (by kernel_rfl) rfl #[.int .i64 a0, .int .i64 730484] rfl (by (try simp only [List.map_toArray, List.map_cons, List.map_nil]); first | done | rfl | (simp only [List.length_drop, List.length_take]; rfl)) ?_; (with_reducible refine (civil_within.calls a0 730484 t164 _ A6.out).mono ?_); rintro e w' ⟨rfl, ⟨nd, rfl⟩⟩; refine ⟨_, rfl, ?_⟩))
     go_ret2
     exact ⟨by first | rfl | (simp; done) | (simp [*]; done) | (simp; exact (show ∀ a_ b_ : Bool, (a_ == b_) = (!(a_ != b_)) from by decide) _ _), by repeat (first | exact Drawn0.refl _ | apply Drawn0.step)⟩
    ·rw [if_neg c7] at H
     have c7b0 : (t164 == 0) = false := beq_eq_false_iff_ne.mpr c7
     have c7b1 : (t164 != 0) = true := bne_iff_ne.mpr c7
     simp only [Option.some.injEq, Prod.mk.injEq] at H
     obtain ⟨rfl, rfl⟩ := H
     go_wp2_with (first | ((with_reducible refine gate_callee (f := 54) rfl ?_); refine goesL_ (some 14) rfl rfl Tryd.func54 (by kernel_rfl) rfl #[.int .i64 a0, .int .i64 730484] rfl (by (try simp only [List.map_toArray, List.map_cons, List.map_nil]); first | done | rfl | (simp only [List.length_drop, List.length_take]; rfl)) ?_; (with_reducible refine (civil_within.calls a0 730484 t164 _ A6.out).mono ?_); rintro e w' ⟨rfl, ⟨nd, rfl⟩⟩; refine ⟨_, rfl, ?_⟩))
     go_ret2
     exact ⟨by first | rfl | (simp; done) | (simp [*]; done) | (simp; exact (show ∀ a_ b_ : Bool, (a_ == b_) = (!(a_ != b_)) from by decide) _ _), by repeat (first | exact Drawn0.refl _ | apply Drawn0.step)⟩
def civil_Split.f (a0 : Int) : Option (Int × Int × Int) := (civil_within.f a0 1051898399).bind fun t165 => (if t165 = 0 then (some (wrap64 (Int.tdiv a0 1440), Int.tmod a0 1440, 0)) else (some (0, 0, t165)))
set_option maxHeartbeats 8000000 in
set_option maxRecDepth 100000 in
theorem civil_Split.calls (a0 : Int) (r1 : Int) (r2 : Int) (r3 : Int) (w : World) (h : civil_Split.f a0 = some (r1, r2, r3)) :
  Calls Tryd.prog 23 #[.int .i64 a0] w fun e w' => e = .returned (.tuple #[.int .i64 r1, .int .i64 r2, .int .i64 r3]) ∧ Drawn0 w w' := by
 have H : ((civil_within.f a0 1051898399).bind fun t165 => (if t165 = 0 then (some (wrap64 (Int.tdiv a0 1440), Int.tmod a0 1440, 0)) else (some (0, 0, t165)))) = some (r1, r2, r3) := h
 clear h
 replace H := Option.bind_eq_some_iff.mp H
 obtain ⟨t165, A20, H⟩ := H
 replace H : (if t165 = 0 then (some (wrap64 (Int.tdiv a0 1440), Int.tmod a0 1440, 0)) else (some (0, 0, t165))) = some (r1, r2, r3) := H
 have A2 := Aside0.mk A20
 clear A20
 by_cases c3 : t165 = 0
 ·rw [if_pos c3] at H
  have c3b0 : (t165 == 0) = true := beq_iff_eq.mpr c3
  have c3b1 : (t165 != 0) = false := bne_eq_false_iff_eq.mpr c3
  clear c3
  simp only [Option.some.injEq, Prod.mk.injEq] at H
  obtain ⟨rfl, rfl, rfl⟩ := H
  go_enter Tryd.func23, Tryd.ntmps23
  go_wp2_with (first | ((with_reducible refine gate_callee (f := 54) rfl ?_); refine goesL_ (some 7) rfl rfl Tryd.func54 (by kernel_rfl) rfl #[.int .i64 a0, .int .i64 1051898399] rfl (by (try simp only [List.map_toArray, List.map_cons, List.map_nil]); first | done | rfl | (simp only [List.length_drop, List.length_take]; rfl)) ?_; (with_reducible refine (civil_within.calls a0 1051898399 t165 _ A2.out).mono ?_); rintro e w' ⟨rfl, ⟨nd, rfl⟩⟩; refine ⟨_, rfl, ?_⟩))
  go_ret3
  exact ⟨by first | rfl | (simp; done) | (simp [*]; done) | (simp; exact (show ∀ a_ b_ : Bool, (a_ == b_) = (!(a_ != b_)) from by decide) _ _), by repeat (first | exact Drawn0.refl _ | apply Drawn0.step)⟩
 ·rw [if_neg c3] at H
  have c3b0 : (t165 == 0) = false := beq_eq_false_iff_ne.mpr c3
  have c3b1 : (t165 != 0) = true := bne_iff_ne.mpr c3
  simp only [Option.some.injEq, Prod.mk.injEq] at H
  obtain ⟨rfl, rfl, rfl⟩ := H
  go_enter Tryd.func23, Tryd.ntmps23
  go_wp2_with (first | ((with_reducible refine gate_callee (f := 54) rfl ?_); refine goesL_ (some 7) rfl rfl Tryd.func54 (by kernel_rfl) rfl #[.int .i64 a0, .int .i64 1051898399] rfl (by (try simp only [List.map_toArray, List.map_cons, List.map_nil]); first | done | rfl | (simp only [List.length_drop, List.length_take]; rfl)) ?_; (with_reducible refine (civil_within.calls a0 1051898399 t165 _ A2.out).mono ?_); rintro e w' ⟨rfl, ⟨nd, rfl⟩⟩; refine ⟨_, rfl, ?_⟩))
  go_ret3
  exact ⟨by first | rfl | (simp; done) | (simp [*]; done) | (simp; exact (show ∀ a_ b_ : Bool, (a_ == b_) = (!(a_ != b_)) from by decide) _ _), by repeat (first | exact Drawn0.refl _ | apply Drawn0.step)⟩
def cmp_isNaN_int.f (a0 : Int) : Option (Bool) := some (a0 != a0)
set_option maxHeartbeats 8000000 in
set_option maxRecDepth 100000 in
theorem cmp_isNaN_int.calls (a0 : Int) (r : Bool) (w : World) (h : cmp_isNaN_int.f a0 = some r) :
  Calls Tryd.prog 74 #[.int .i64 a0] w fun e w' => e = .returned (.bool r) ∧ Drawn0 w w' := by
 have H : (some (a0 != a0)) = some r := h
 clear h
 obtain rfl := Option.some.inj H
 go_enter Tryd.func74, Tryd.ntmps74
 go_wp2
 go_ret
 exact ⟨by first | rfl | (simp; done) | (simp [*]; done) | (simp; exact (show ∀ a_ b_ : Bool, (a_ == b_) = (!(a_ != b_)) from by decide) _ _), by repeat (first | exact Drawn0.refl _ | apply Drawn0.step)⟩
def cmp_Less_int.f (a0 : Int) (a1 : Int) : Option (Bool) := (cmp_isNaN_int.f a0).bind fun t166 => (if t166 = true then ((cmp_isNaN_int.f a1).bind fun t167 => (if t167 = true then (some (decide (a0 < a1))) else (some true))) else (some (decide (a0 < a1))))
set_option maxHeartbeats 8000000 in
set_option maxRecDepth 100000 in
theorem cmp_Less_int.calls (a0 : Int) (a1 : Int) (r : Bool) (w : World) (h : cmp_Less_int.f a0 a1 = some r) :
  Calls Tryd.prog 70 #[.int .i64 a0, .int .i64 a1] w fun e w' => e = .returned (.bool r) ∧ Drawn0 w w' := by
 have H : ((cmp_isNaN_int.f a0).bind fun t166 => (if t166 = true then ((cmp_isNaN_int.f a1).bind fun t167 => (if t167 = true then (some (decide (a0 < a1))) else (some true))) else (some (decide (a0 < a1))))) = some r := h
 clear h
 replace H := Option.bind_eq_some_iff.mp H
 obtain ⟨t166, A30, H⟩ := H
 replace H : (if t166 = true then ((cmp_isNaN_int.f a1).bind fun t167 => (if t167 = true then (some (decide (a0 < a1))) else (some true))) else (some (decide (a0 < a1)))) = some r := H
 have A3 := Aside0.mk A30
 clear A30
 by_cases c4 : t166 = true
 ·subst c4
  have H1 : ((cmp_isNaN_int.f a1).bind fun t167 => (if t167 = true then (some (decide (a0 < a1))) else (some true))) = some r := by rw [if_pos rfl] at H; exact H
  clear H
  have H := H1
  clear H1
  replace H := Option.bind_eq_some_iff.mp H
  obtain ⟨t167, A50, H⟩ := H
  replace H : (if t167 = true then (some (decide (a0 < a1))) else (some true)) = some r := H
  have A5 := Aside0.mk A50
  clear A50
  by_cases c6 : t167 = true
  ·subst c6
   have H1 : (some (decide (a0 < a1))) = some r := by rw [if_pos rfl] at H; exact H
   clear H
   have H := H1
   clear H1
   obtain rfl := Option.some.inj H
   go_enter Tryd.func70, Tryd.ntmps70
   go_wp2_with (first | ((with_reducible refine gate_callee (f := 74) rfl ?_); refine goesL_ (some 6) rfl rfl Tryd.func74 (by kernel_rfl) rfl #[.int .i64 a0] rfl (by (try simp only [List.map_toArray, List.map_cons, List.map_nil]); first | done | rfl | (simp only [List.length_drop, List.length_take]; rfl)) ?_; (with_reducible refine (cmp_isNaN_int.calls a0 true _ A3.out).mono ?_); rintro e w' ⟨rfl, ⟨nd, rfl⟩⟩; refine ⟨_, rfl, ?_⟩) | (go_at_call 74; (with_reducible refine (cmp_isNaN_int.calls a1 true _ A5.out).mono ?_); rintro e w' ⟨rfl, ⟨nd, rfl⟩⟩))
   go_ret
   exact ⟨by first | rfl | (simp; done) | (simp [*]; done) | (simp; exact (show ∀ a_ b_ : Bool, (a_ == b_) = (!(a_ != b_)) from by decide) _ _), by repeat (first | exact Drawn0.refl _ | apply Drawn0.step)⟩
  ·replace c6 := Bool.eq_false_iff.mpr c6
   subst c6
   have H1 : (some true) = some r := by rw [if_neg (show ¬ (false = true) by decide)] at H; exact H
   clear H
   have H := H1
   clear H1
   obtain rfl := Option.some.inj H
   go_enter Tryd.func70, Tryd.ntmps70
   go_wp2_with (first | ((with_reducible refine gate_callee (f := 74) rfl ?_); refine goesL_ (some 6) rfl rfl Tryd.func74 (by kernel_rfl) rfl #[.int .i64 a0] rfl (by (try simp only [List.map_toArray, List.map_cons, List.map_nil]); first | done | rfl | (simp only [List.length_drop, List.length_take]; rfl)) ?_; (with_reducible refine (cmp_isNaN_int.calls a0 true _ A3.out).mono ?_); rintro e w' ⟨rfl, ⟨nd, rfl⟩⟩; refine ⟨_, rfl, ?_⟩) | (go_at_call 74; (with_reducible refine (cmp_isNaN_int.calls a1 false _ A5.out).mono ?_); rintro e w' ⟨rfl, ⟨nd, rfl⟩⟩))
   go_ret
   exact ⟨by first | rfl | (simp; done) | (simp [*]; done) | (simp; exact (show ∀ a_ b_ : Bool, (a_ == b_) = (!(a_ != b_)) from by decide) _ _), by repeat (first | exact Drawn0.refl _ | apply Drawn0.step)⟩
 ·replace c4 := Bool.eq_false_iff.mpr c4
  subst c4
  have H1 : (some (decide (a0 < a1))) = some r := by rw [if_neg (show ¬ (false = true) by decide)] at H; exact H
  clear H
  have H := H1
  clear H1
  obtain rfl := Option.some.inj H
  go_enter Tryd.func70, Tryd.ntmps70
  go_wp2_with (first | ((with_reducible refine gate_callee (f := 74) rfl ?_); refine goesL_ (some 6) rfl rfl Tryd.func74 (by kernel_rfl) rfl #[.int .i64 a0] rfl (by (try simp only [List.map_toArray, List.map_cons, List.map_nil]); first | done | rfl | (simp only [List.length_drop, List.length_take]; rfl)) ?_; (with_reducible refine (cmp_isNaN_int.calls a0 false _ A3.out).mono ?_); rintro e w' ⟨rfl, ⟨nd, rfl⟩⟩; refine ⟨_, rfl, ?_⟩))
  go_ret
  exact ⟨by first | rfl | (simp; done) | (simp [*]; done) | (simp; exact (show ∀ a_ b_ : Bool, (a_ == b_) = (!(a_ != b_)) from by decide) _ _), by repeat (first | exact Drawn0.refl _ | apply Drawn0.step)⟩
def slices_isNaN_int.f (a0 : Int) : Option (Bool) := some (a0 != a0)
set_option maxHeartbeats 8000000 in
set_option maxRecDepth 100000 in
theorem slices_isNaN_int.calls (a0 : Int) (r : Bool) (w : World) (h : slices_isNaN_int.f a0 = some r) :
  Calls Tryd.prog 71 #[.int .i64 a0] w fun e w' => e = .returned (.bool r) ∧ Drawn0 w w' := by
 have H : (some (a0 != a0)) = some r := h
 clear h
 obtain rfl := Option.some.inj H
 go_enter Tryd.func71, Tryd.ntmps71
 go_wp2
 go_ret
 exact ⟨by first | rfl | (simp; done) | (simp [*]; done) | (simp; exact (show ∀ a_ b_ : Bool, (a_ == b_) = (!(a_ != b_)) from by decide) _ _), by repeat (first | exact Drawn0.refl _ | apply Drawn0.step)⟩
end Go.Proofs.YtehnhedifhpalaaDoor.Cp
set_option linter.unusedVariables false
set_option linter.unusedSimpArgs false
namespace Go.Proofs.YtehnhedifhpalaaDoor.Cp
open Go.RowKit Go.Proofs.YtehnhedifhpalaaDoorW.PrintWords Go.Proofs.YtehnhedifhpalaaDoorW.PrintLast Go.Proofs.YtehnhedifhpalaaDoorW.PrintMore
/-- The bytes of a text. -/
def nb (s : ByteArray) : List Int := s.data.toList.map fun b => (b.toNat : Int)
theorem nb_len (s : ByteArray) : (nb s).length = s.size := by
  unfold nb ByteArray.size
  rw [List.length_map, Array.length_toList]
theorem str_nb (s : ByteArray) : strOfNums (nb s) = s := by
  unfold strOfNums nb
  rw [List.map_map]
  have : ((fun n : Int => UInt8.ofNat n.toNat) ∘ fun b : UInt8 => (b.toNat : Int)) = id := by funext b; simp
  rw [this]
  simp
theorem nb_str {l : List Int} (h : ∀ b ∈ l, 0 ≤ b ∧ b ≤ 255) : nb (strOfNums l) = l := by
  unfold nb
  rw [strOfNums_data, List.map_map]
  refine Eq.trans (List.map_congr_left (g := id) fun b hb => ?_) (List.map_id l)
  have := h b hb
  simp
  omega
theorem nb_inj {s t : ByteArray} (h : nb s = nb t) : s = t := by rw [← str_nb s, h, str_nb]
theorem nb_append (s t : ByteArray) : nb (s ++ t) = nb s ++ nb t := by
  unfold nb
  rw [← List.map_append]
  congr 1
theorem str_append (l m : List Int) : strOfNums l ++ strOfNums m = strOfNums (l ++ m) := by
  apply ByteArray.ext
  simp [strOfNums]
theorem nb_extract (s : ByteArray) (a b : Nat) : nb (s.extract a b) = ((nb s).take b).drop a := by
  unfold nb
  rw [← List.map_take, ← List.map_drop, ByteArray.data_extract]
  congr 1
  simp [List.drop_take]
theorem bt_nb (s : ByteArray) (i : Nat) (h : i < (nb s).length) : bt s (i : Int) = (nb s)[i] := by
  have h' : (i : Int).toNat < s.size := by rw [nb_len] at h; omega
  unfold bt
  rw [dif_pos h']
  simp [nb]
  rfl
theorem loop_data (s : ByteArray) : ∀ (d i : Nat) (r : List UInt8), s.size - i = d → ByteArray.toList.loop s i r = r.reverse ++ s.data.toList.drop i := by
  intro d
  induction d with
  | zero =>
    intro i r hd
    rw [ByteArray.toList.loop.eq_def, if_neg (by omega), List.drop_of_length_le (by simp only [Array.length_toList]; exact Nat.le_of_sub_eq_zero hd), List.append_nil]
  | succ d ih =>
    intro i r hd
    have hi : i < s.size := by omega
    have hi' : i < s.data.toList.length := hi
    rw [ByteArray.toList.loop.eq_def, if_pos hi, ih (i + 1) _ (by omega), List.drop_eq_getElem_cons hi', List.reverse_cons, List.append_assoc]
    congr 2
    have h2 : i < s.data.size := hi
    simp only [ByteArray.get!]
    rw [getElem!_pos s.data i h2]
    rfl
theorem toList_data (s : ByteArray) : s.toList = s.data.toList := by
  unfold ByteArray.toList
  rw [loop_data s _ 0 [] rfl]
  simp
theorem toList_nb {s t : ByteArray} : s.toList = t.toList ↔ nb s = nb t := by
  constructor
  · intro h
    rw [toList_data, toList_data] at h
    unfold nb
    rw [h]
  · intro h
    rw [nb_inj h]
end Go.Proofs.YtehnhedifhpalaaDoor.Cp
namespace Go.Proofs.YtehnhedifhpalaaDoor.Cp
open Go.RowKit Go.Proofs.YtehnhedifhpalaaDoorW.PrintWords Go.Proofs.YtehnhedifhpalaaDoorW.PrintLast Go.Proofs.YtehnhedifhpalaaDoorW.PrintMore
attribute [local go_sem] max2_int min2_int max_two min_two max_three min_three max_four min_four
set_option linter.unusedVariables false
set_option linter.unusedSimpArgs false
def civil_TimeText.f (k : Nat) (a0 : Int) : Option (ByteArray × Int) :=
  if a0 < 0 then some (txt [], 2) else if 1051898399 < a0 then some (txt [], 3)
  else (civil_Text.f k (a0 / 1440)).bind fun r => if r.1.size = 10 then some (r.1 ++ txt (32 :: (Cv.dig 2 (a0 % 1440 / 60) ++ 58 :: Cv.dig 2 (a0 % 1440 % 60))), 0) else none
theorem conv_new (w : World) (s : ByteArray) (n : Nat) (hs : s.size = n) : ∃ (c z : Nat) (W : World), (convert 9 27 (.string s)).run Tryd.prog w = .ok (.slice (some ⟨w.heap.size, 0, none⟩) n c) W ∧ n ≤ c ∧
    W.heap[w.heap.size]? = some (.cells (nums .u8 (nb s ++ List.replicate z 0)).toArray 5 (n + z, n + z + 1)) ∧ Below w.heap.size w W := by
  subst hs
  refine ⟨grownCap w s.size 0 5, grownCap w s.size 0 5 - s.size, Lib.bytesWorld w 5 s, Lib.run_convert_string_bytes w 9 27 5 s Tryd.underlying9 Tryd.underlying27 Tryd.underlying5, grownCap_ge _ _ _ _, ?_, ?_⟩
  · have hz : (Lib.bytesCells w 5 s) = (nums .u8 (nb s ++ List.replicate (grownCap w s.size 0 5 - s.size) 0)).toArray := by
      apply Array.ext'
      simp [Lib.bytesCells, nums, nb]
    have hl : (Lib.bytesCells w 5 s).size = s.size + (grownCap w s.size 0 5 - s.size) := by
      rw [hz]; simp [nums, nb_len]
    rw [Lib.bytesWorld_at_new, hl, hz]
  · refine ⟨rfl, rfl, rfl, by rw [Lib.bytesWorld_size]; omega, fun i hi => Lib.bytesWorld_at_old w 5 s i hi⟩
theorem ten_bytes {l : List Int} (h : l.length = 10) : ∃ a b c d e f g i j k, l = [a, b, c, d, e, f, g, i, j, k] := by
  match l, h with
  | [a, b, c, d, e, f, g, i, j, k], _ => exact ⟨a, b, c, d, e, f, g, i, j, k, rfl⟩
theorem nums_at2 (us Z : List Int) (i : Nat) (h : i < us.length) : (nums .u8 (us ++ Z)).toArray[i]? = some (.int .u8 (us.getD i 0)) := by
  simp [nums, List.getElem?_append_left, h, List.getD_eq_getElem?_getD]
theorem str_zeros : (⟨#[32, 48, 48, 58, 48, 48]⟩ : ByteArray) = strOfNums [32, 48, 48, 58, 48, 48] := rfl
set_option maxHeartbeats 2000000 in
set_option maxRecDepth 100000 in
theorem civil_TimeText.calls (k : Nat) (a0 : Int) (r1 : ByteArray) (r2 : Int) (w : World) (hg : Aside0 (Tab w)) (h : civil_TimeText.f k a0 = some (r1, r2)) :
    Calls Tryd.prog 24 #[.int .i64 a0] w fun e w' => e = .returned (.tuple #[.string r1, .int .i64 r2]) ∧ Below w.heap.size w w' := by
  unfold civil_TimeText.f at h
  by_cases c1 : a0 < 0
  · rw [if_pos c1] at h
    obtain ⟨rfl, rfl⟩ : txt [] = r1 ∧ 2 = r2 := by simpa using h
    have hs : civil_Split.f a0 = some (0, 0, 2) := by
      unfold civil_Split.f civil_within.f
      rw [if_pos c1]; rfl
    have HS := Aside0.mk hs
    clear h c1 hs
    go_enter Tryd.func24, Tryd.ntmps24
    go_wp2_with (first | (go_at_call 23; (with_reducible refine (civil_Split.calls a0 0 0 2 _ HS.out).mono ?_); rintro e w1 ⟨rfl, ⟨nd, rfl⟩⟩))
    go_ret2
    exact ⟨rfl, ((Drawn0.refl _).step _).below⟩
  · rw [if_neg c1] at h
    by_cases c2 : 1051898399 < a0
    · rw [if_pos c2] at h
      obtain ⟨rfl, rfl⟩ : txt [] = r1 ∧ 3 = r2 := by simpa using h
      have hs : civil_Split.f a0 = some (0, 0, 3) := by
        unfold civil_Split.f civil_within.f
        rw [if_neg c1, if_pos c2]; rfl
      have HS := Aside0.mk hs
      clear h c1 c2 hs
      go_enter Tryd.func24, Tryd.ntmps24
      go_wp2_with (first | (go_at_call 23; (with_reducible refine (civil_Split.calls a0 0 0 3 _ HS.out).mono ?_); rintro e w1 ⟨rfl, ⟨nd, rfl⟩⟩))
      go_ret2
      exact ⟨rfl, ((Drawn0.refl _).step _).below⟩
    · rw [if_neg c2] at h
      obtain ⟨⟨s, e0⟩, ht, h⟩ := Option.bind_eq_some_iff.mp h
      simp only at h
      by_cases c3 : s.size = 10
      · rw [if_pos c3] at h
        have hs : civil_Split.f a0 = some (a0 / 1440, a0 % 1440, 0) := by
          unfold civil_Split.f civil_within.f
          rw [if_neg c1, if_neg c2]
          simp only [Option.bind_some, if_true]
          rw [Int.tdiv_eq_ediv_of_nonneg (by omega), Int.tmod_eq_emod_of_nonneg (by omega), w64 (by omega) (by omega)]
        have b1 : 0 ≤ a0 / 1440 := by omega
        have b2 : 0 ≤ a0 % 1440 ∧ a0 % 1440 < 1440 := by omega
        generalize a0 / 1440 = dy at hs ht b1
        generalize a0 % 1440 = mi at hs b2 h
        obtain ⟨p, q, eh⟩ : ∃ p q, Cv.dig 2 (mi / 60) = [p, q] := ⟨_, _, rfl⟩
        obtain ⟨u, v, em⟩ : ∃ u v, Cv.dig 2 (mi % 60) = [u, v] := ⟨_, _, rfl⟩
        rw [eh, em] at h
        obtain ⟨x0, x1, x2, x3, x4, x5, x6, x7, x8, x9, es⟩ := ten_bytes (l := nb s) (by rw [nb_len]; exact c3)
        have es' : s = strOfNums [x0, x1, x2, x3, x4, x5, x6, x7, x8, x9] := by rw [← es, str_nb]
        have hnb : nb (s ++ (⟨#[32, 48, 48, 58, 48, 48]⟩ : ByteArray)) = [x0, x1, x2, x3, x4, x5, x6, x7, x8, x9, 32, 48, 48, 58, 48, 48] := by
          rw [nb_append, es, str_zeros, nb_str (by decide)]; rfl
        have hsz : (s ++ (⟨#[32, 48, 48, 58, 48, 48]⟩ : ByteArray)).size = 16 := by rw [← nb_len, hnb]; rfl
        obtain ⟨er1, rfl⟩ : strOfNums [x0, x1, x2, x3, x4, x5, x6, x7, x8, x9, 32, p, q, 58, u, v] = r1 ∧ 0 = r2 := by
          have h' : s ++ txt (32 :: ([p, q] ++ 58 :: [u, v])) = r1 ∧ 0 = r2 := by simpa using h
          refine ⟨?_, h'.2⟩
          rw [← h'.1, es']
          exact (str_append [x0, x1, x2, x3, x4, x5, x6, x7, x8, x9] [32, p, q, 58, u, v]).symm
        subst er1
        have hp1 : ∀ (cc g f f2 : Nat) (Z : List Int) (w : World) (hf : 13 ≤ f) (h : w.heap[g]? = some (.cells (nums .u8 ([x0, x1, x2, x3, x4, x5, x6, x7, x8, x9, 32, 48, 48, 58, 48, 48] ++ Z)).toArray 5 (f, f2))),
            Calls Tryd.prog 56 #[.slice (some ⟨g, 11, none⟩) 2 cc, .int .i64 (mi / 60)] w (Cq.PutPost g f f2 ([x0, x1, x2, x3, x4, x5, x6, x7, x8, x9, 32, p, q, 58, 48, 48] ++ Z) w) := by
          intro cc g f f2 Z w hf h
          have := Cq.put_any g 11 2 cc (mi / 60) _ f f2 w hf h (by simp) (by decide) (by omega)
          rw [eh] at this
          exact this
        have hp2 : ∀ (cc g f f2 : Nat) (Z : List Int) (w : World) (hf : 16 ≤ f) (h : w.heap[g]? = some (.cells (nums .u8 ([x0, x1, x2, x3, x4, x5, x6, x7, x8, x9, 32, p, q, 58, 48, 48] ++ Z)).toArray 5 (f, f2))),
            Calls Tryd.prog 56 #[.slice (some ⟨g, 14, none⟩) 2 cc, .int .i64 (mi % 60)] w (Cq.PutPost g f f2 ([x0, x1, x2, x3, x4, x5, x6, x7, x8, x9, 32, p, q, 58, u, v] ++ Z) w) := by
          intro cc g f f2 Z w hf h
          have := Cq.put_any g 14 2 cc (mi % 60) _ f f2 w hf h (by simp) (by decide) (by omega)
          rw [em] at this
          exact this
        have cadd : (9223372036854775807 < s.size + 6) = False := eq_false (by omega)
        have t1 : Int.tdiv mi 60 = mi / 60 := Int.tdiv_eq_ediv_of_nonneg b2.1
        have t2 : Int.tmod mi 60 = mi % 60 := Int.tmod_eq_emod_of_nonneg b2.1
        have q1 : -9223372036854775808 ≤ mi / 60 ∧ mi / 60 ≤ 9223372036854775807 := by omega
        have q2 : -9223372036854775808 ≤ mi % 60 ∧ mi % 60 ≤ 9223372036854775807 := by omega
        have w1 := w64 q1.1 q1.2
        have w2 := w64 q2.1 q2.2
        have HS := Aside0.mk hs
        have HT := Aside0.mk ht
        have HZ := Aside0.mk hsz
        have HN := Aside0.mk hnb
        have HP1 := Aside0.mk hp1
        have HP2 := Aside0.mk hp2
        clear hs ht hsz hnb hp1 hp2 h q1 q2 b1 b2 c1 c2 c3 eh em es es'
        go_enter Tryd.func24, Tryd.ntmps24
        go_wp2_with (first | (go_at_call 23; (with_reducible refine (civil_Split.calls a0 dy mi 0 _ HS.out).mono ?_); rintro e w3 ⟨rfl, ⟨nd, rfl⟩⟩) | (go_at_call 21; (with_reducible refine (civil_Text.calls k dy s e0 _ ?tabG HT.out).mono ?_); (case tabG => first | exact hg | exact ⟨hg.out.drewN _⟩); rintro e w4 ⟨rfl, hb⟩; obtain ⟨c, z, W, hcz, hc, hB, hb2⟩ := conv_new w4 _ 16 HZ.out; rw [HN.out] at hB; have B0 := Aside0.mk hB; have K0 := Aside0.mk (below_then (first_below _ _) (below_size (first_below _ _)) hb); have K1 := Aside0.mk hb2; clear hB hb hb2; have hc13 : 13 ≤ c := by omega) | (go_at_call 56; (with_reducible refine (HP1.out _ w4.heap.size (16 + z) (16 + z + 1) (List.replicate z 0) _ (by omega) B0.out).mono ?_); rintro e w5 ⟨rfl, hB5, hK5⟩; have B1 := Aside0.mk hB5; have K2 := Aside0.mk hK5; clear hB5 hK5) | (go_at_call 56; (with_reducible refine (HP2.out _ w4.heap.size (16 + z) (16 + z + 1) (List.replicate z 0) _ (by omega) B1.out).mono ?_); rintro e w6 ⟨rfl, hB6, hK6⟩; have hcv := run_convert_bytes_arg (P := Tryd.prog) w6 27 5 Tryd.underlying27 Tryd.underlying5 w4.heap.size 0 16 c [x0, x1, x2, x3, x4, x5, x6, x7, x8, x9, 32, p, q, 58, u, v] rfl (fun i hi => (cell_of_row _ _ (0 + i) _ 5 _ hB6).trans (by rw [Nat.zero_add]; exact nums_at2 _ _ i hi)) 9 Tryd.underlying9; have K3 := Aside0.mk hK6; clear hB6 hK6))
        go_ret2
        exact ⟨rfl, below_keep (below_keep (below_then K0.out (below_size K0.out) K1.out) K2.out (below_size K0.out)) K3.out (below_size K0.out)⟩
      · rw [if_neg c3] at h; exact absurd h (by simp)
end Go.Proofs.YtehnhedifhpalaaDoor.Cp
set_option linter.unusedVariables false
set_option linter.unusedSimpArgs false
namespace Go.Proofs.YtehnhedifhpalaaDoor.Cp
open Go.RowKit Go.Proofs.YtehnhedifhpalaaDoorW.PrintWords Go.Proofs.YtehnhedifhpalaaDoorW.PrintLast Go.Proofs.YtehnhedifhpalaaDoorW.PrintMore
theorem cdate_f {y m k : Int} (h : Cv.IsDate y m k) : Ev (fun n => civil_Date.f n (Cv.dayOf y m k)) (y, m, k, 0) := by
  obtain ⟨y', m', k', i1, i2, i3⟩ := date_f (Cv.dayOf_bd h).2.2
  obtain ⟨rfl, rfl, rfl⟩ := Cv.dayOf_inj i1 h i2
  exact i3
/-- A day has a date. -/
theorem has_date {a : Int} (h : 0 ≤ a ∧ a ≤ 730484) : ∃ y m k, Cv.IsDate y m k ∧ Cv.dayOf y m k = a := by
  obtain ⟨y, m, k, h1, h2, _⟩ := date_f h
  exact ⟨y, m, k, h1, h2⟩
/-- The error of a number that should be from 0 to a greatest one. -/
def errOf (n most : Int) : Int := if n < 0 then 2 else if n > most then 3 else 0
theorem errOf_ok {n most : Int} (h : 0 ≤ n ∧ n ≤ most) : errOf n most = 0 := by unfold errOf; rw [if_neg (by omega), if_neg (by omega)]
theorem errOf_ne {n most : Int} (h : ¬ (0 ≤ n ∧ n ≤ most)) : errOf n most ≠ 0 := by unfold errOf; split <;> (try split) <;> omega
theorem cwithin_f (n most : Int) : civil_within.f n most = some (errOf n most) := by unfold civil_within.f errOf; split <;> (try split) <;> rfl
theorem cdate_no {a : Int} (h : ¬ (0 ≤ a ∧ a ≤ 730484)) : Ev (fun n => civil_Date.f n a) (0, 0, 0, errOf a 730484) := by
  unfold civil_Date.f
  exact Ev.bind (ev_val (cwithin_f a _)) (ev_neg (errOf_ne h) (Ev.now _))
theorem date_nat {y m d : Int} (h : Cv.IsDate y m d) : (0 ≤ y ∧ y ≤ 1000000) ∧ (0 ≤ m ∧ m ≤ 1000000) ∧ 0 ≤ d ∧ d ≤ 1000000 := by
  have := Cv.mlen_bd y h.m1 h.m2
  have := h.y1; have := h.y2; have := h.m1; have := h.m2; have := h.d1; have := h.d2
  omega
theorem ctext_f {y m d : Int} (h : Cv.IsDate y m d) : Ev (fun k => civil_Text.f k (Cv.dayOf y m d)) (strOfNums (Cv.dtext y m d), 0) := by
  unfold civil_Text.f
  exact Ev.bind (cdate_f h) (ev_pos rfl (ev_pos (date_nat h) (Ev.now _)))
theorem ctext_no {a : Int} (h : ¬ (0 ≤ a ∧ a ≤ 730484)) : Ev (fun k => civil_Text.f k a) (strOfNums [], errOf a 730484) := by
  unfold civil_Text.f
  exact Ev.bind (cdate_no h) (ev_neg (errOf_ne h) (ev_eq rfl (Ev.now _)))
def weekB (a : Int) : Int × Int := if errOf a 730484 = 0 then (Int.tmod a 7, 0) else (0, errOf a 730484)
theorem cweek_f (a : Int) : civil_Weekday.f a = some (weekB a) := by
  unfold civil_Weekday.f weekB
  rw [cwithin_f, Option.bind_some]
  split <;> rfl
def splitB (a : Int) : Int × Int × Int := if errOf a 1051898399 = 0 then (wrap64 (Int.tdiv a 1440), Int.tmod a 1440, 0) else (0, 0, errOf a 1051898399)
theorem csplit_f (a : Int) : civil_Split.f a = some (splitB a) := by
  unfold civil_Split.f splitB
  rw [cwithin_f, Option.bind_some]
  split <;> rfl
theorem splitB_ok {a : Int} (h : 0 ≤ a ∧ a ≤ 1051898399) : splitB a = (a / 1440, a % 1440, 0) := by
  unfold splitB
  have b : -10000000 ≤ a / 1440 ∧ a / 1440 ≤ 10000000 := by omega
  rw [if_pos (errOf_ok h), Int.tdiv_eq_ediv_of_nonneg h.1, Int.tmod_eq_emod_of_nonneg h.1, wb b]
theorem splitB_no {a : Int} (h : ¬ (0 ≤ a ∧ a ≤ 1051898399)) : splitB a = (0, 0, errOf a 1051898399) := by
  unfold splitB
  rw [if_neg (errOf_ne h)]
def timeB (d m : Int) : Int × Int := if m < 0 ∨ 1440 ≤ m then (0, 2) else if errOf d 730484 = 0 then (d * 1440 + m, 0) else (0, errOf d 730484)
theorem timeB_no {d m : Int} (h : m < 0 ∨ 1440 ≤ m) : timeB d m = (0, 2) := by unfold timeB; rw [if_pos h]
theorem timeB_ok {d m : Int} (h : ¬ (m < 0 ∨ 1440 ≤ m)) (hd : 0 ≤ d ∧ d ≤ 730484) : timeB d m = (d * 1440 + m, 0) := by unfold timeB; rw [if_neg h, if_pos (errOf_ok hd)]
theorem timeB_err {d m : Int} (h : ¬ (m < 0 ∨ 1440 ≤ m)) (hd : ¬ (0 ≤ d ∧ d ≤ 730484)) : timeB d m = (0, errOf d 730484) := by unfold timeB; rw [if_neg h, if_neg (errOf_ne hd)]
theorem ctime_f (d m : Int) : Ev (fun k => civil_Time.f k d m) (timeB d m) := by
  have no : ∀ x : Bool, x = true → (m < 0 ∨ 1440 ≤ m) → Ev (fun k => civil_Time.j0 k d m x) (timeB d m) := by
    intro x hx hm
    rw [timeB_no hm]
    exact Ev.step (fun k => civil_Time.j0.eq_2 _ _ _ k) (ev_pos hx (Ev.now _))
  unfold civil_Time.f
  by_cases c1 : m < 0
  · exact ev_pos c1 (no _ rfl (.inl c1))
  · refine ev_neg c1 ?_
    by_cases c2 : 1440 ≤ m
    · exact no _ (decide_eq_true c2) (.inr c2)
    · have hm : ¬ (m < 0 ∨ 1440 ≤ m) := by omega
      refine Ev.step (fun k => civil_Time.j0.eq_2 _ _ _ k) (ev_neg (by rw [decide_eq_false (show ¬ m ≥ 1440 from c2)]; exact Bool.false_ne_true) (Ev.bind (ev_val (cwithin_f d _)) ?_))
      by_cases hd : 0 ≤ d ∧ d ≤ 730484
      · refine ev_pos (errOf_ok hd) (ev_eq ?_ (Ev.now _))
        rw [timeB_ok hm hd, w64 (n := d * 1440) (by omega) (by omega), w64 (by omega) (by omega)]
      · refine ev_neg (errOf_ne hd) (ev_eq ?_ (Ev.now _))
        rw [timeB_err hm hd]
theorem ctt_f {y m d t : Int} (h : Cv.IsDate y m d) (ht : 0 ≤ t ∧ t ≤ 1051898399) (hd : t / 1440 = Cv.dayOf y m d) :
    Ev (fun k => civil_TimeText.f k t) (strOfNums (Cv.ttext y m d (t % 1440 / 60) (t % 1440 % 60)), 0) := by
  unfold civil_TimeText.f
  refine ev_neg (by omega) (ev_neg (by omega) ?_)
  rw [hd]
  refine Ev.bind (ctext_f h) (ev_pos (by rw [strOfNums_size, Cv.dtext_len]) (ev_eq ?_ (Ev.now _)))
  unfold Cv.ttext
  rw [← str_append]
  rfl
theorem ctt_no {t : Int} (ht : ¬ (0 ≤ t ∧ t ≤ 1051898399)) : Ev (fun k => civil_TimeText.f k t) (strOfNums [], errOf t 1051898399) := by
  unfold civil_TimeText.f errOf
  by_cases c : t < 0
  · exact ev_pos c (ev_eq (by rw [if_pos c]; rfl) (Ev.now _))
  · exact ev_neg c (ev_pos (by omega) (ev_eq (by rw [if_neg c, if_pos (by omega)]; rfl) (Ev.now _)))
theorem cleap_b (y : Int) : civil_Leap.f y = some (leapB y) := by
  unfold civil_Leap.f leapB
  by_cases c1 : Int.tmod y 4 = 0
  · rw [if_pos c1, decide_eq_true c1]
    by_cases c2 : Int.tmod y 100 = 0
    · rw [if_pos c2, decide_eq_false (fun hh => hh c2)]
      simp only [Bool.false_or, Bool.true_and]; rfl
    · rw [if_neg c2, decide_eq_true c2]; rfl
  · rw [if_neg c1, decide_eq_false c1]; rfl
end Go.Proofs.YtehnhedifhpalaaDoor.Cp
namespace Go.Proofs.YtehnhedifhpalaaDoor.Cp
open Go.RowKit Go.Proofs.YtehnhedifhpalaaDoorW.PrintWords Go.Proofs.YtehnhedifhpalaaDoorW.PrintLast Go.Proofs.YtehnhedifhpalaaDoorW.PrintMore
end Go.Proofs.YtehnhedifhpalaaDoor.Cp
namespace Go.Proofs.YtehnhedifhpalaaDoor.Cp
open Go.RowKit Go.Proofs.YtehnhedifhpalaaDoorW.PrintWords Go.Proofs.YtehnhedifhpalaaDoorW.PrintLast Go.Proofs.YtehnhedifhpalaaDoorW.PrintMore
attribute [local go_sem] max2_int min2_int max_two min_two max_three min_three max_four min_four   -- for this text's walks alone
set_option linter.unusedVariables false
set_option linter.unusedSimpArgs false
def slices_BinarySearch_int_int.l0 : Nat → List Int → Int → Int → Int → Int → Option (Int × Bool)
 | 0, _, _, _, _, _ => none
 | k + 1, x0, x1, x6, x7, x8 => if x7 < x8 then (if 0 ≤ (wrap64 ((IntKind.u64.wrap (wrap64 (x7 + x8))) / 2)) then (if (wrap64 ((IntKind.u64.wrap (wrap64 (x7 + x8))) / 2)) < (x0.length : Int) then ((cmp_Less_int.f (rd x0 (wrap64 ((IntKind.u64.wrap (wrap64 (x7 + x8))) / 2))) x1).bind fun t169 => (if t169 = true then (slices_BinarySearch_int_int.l0 k x0 x1 x6 (wrap64 ((wrap64 ((IntKind.u64.wrap (wrap64 (x7 + x8))) / 2)) + 1)) x8) else (slices_BinarySearch_int_int.l0 k x0 x1 x6 x7 (wrap64 ((IntKind.u64.wrap (wrap64 (x7 + x8))) / 2))))) else (none)) else (none)) else (if x7 < x6 then (if 0 ≤ x7 then (if x7 < (x0.length : Int) then (if (rd x0 x7) = x1 then (some (x7, true)) else ((slices_isNaN_int.f (rd x0 x7)).bind fun t172 => (if t172 = true then ((slices_isNaN_int.f x1).bind fun t173 => (some (x7, t173))) else (some (x7, false))))) else (none)) else (none)) else (some (x7, false)))
def slices_BinarySearch_int_int.f (k : Nat) (l0 : List Int) (a1 : Int) : Option (Int × Bool) := slices_BinarySearch_int_int.l0 k l0 a1 (l0.length : Int) 0 (l0.length : Int)
set_option maxHeartbeats 8000000 in
set_option maxRecDepth 100000 in
theorem slices_BinarySearch_int_int.calls (k : Nat) (A0 : Option Addr) (c0 : Nat) (l0 : List Int) (a1 : Int) (r1 : Int) (r2 : Bool) (w : World) (hr0 : Kd.C (Kd.int .i64) w A0 l0.length l0) (hc0 : l0.length ≤ c0) (h : slices_BinarySearch_int_int.f k l0 a1 = some (r1, r2)) :
  Calls Tryd.prog 57 #[.slice A0 l0.length c0, .int .i64 a1] w fun e w' => e = .returned (.tuple #[.int .i64 r1, .bool r2]) ∧ Drawn0 w w' := by
 have HR0 := Aside0.mk hr0
 have HC0 := Aside0.mk hc0
 clear hr0 hc0
 have H : (slices_BinarySearch_int_int.l0 k l0 a1 (l0.length : Int) 0 (l0.length : Int)) = some (r1, r2) := h
 clear h
 have H' := Aside0.mk H
 clear H
 go_enter Tryd.func57, Tryd.ntmps57
 go_wp2
 go_loopg [7, 8] k (fun kq v7 v8 w' => ∃ (x7_1 : Int) (x8_1 : Int), v7 = .int .i64 x7_1 ∧ v8 = .int .i64 x8_1 ∧ Aside0 (slices_BinarySearch_int_int.l0 kq l0 a1 (l0.length : Int) x7_1 x8_1 = some (r1, r2)) ∧ Aside0 (kq ≤ k) ∧ Drawn0 w w')
 case atStart => exact ⟨(0), ((l0.length : Int)), (by first | rfl | (simp; done) | (simp [*]; done) | (simp; exact (show ∀ a_ b_ : Bool, (a_ == b_) = (!(a_ != b_)) from by decide) _ _) | (rw [Bool.eq_iff_iff]; simp; done) | (simp; rw [Bool.eq_iff_iff]; simp; done)), (by first | rfl | (simp; done) | (simp [*]; done) | (simp; exact (show ∀ a_ b_ : Bool, (a_ == b_) = (!(a_ != b_)) from by decide) _ _) | (rw [Bool.eq_iff_iff]; simp; done) | (simp; rw [Bool.eq_iff_iff]; simp; done)), H', ⟨Nat.le_refl _⟩, by repeat (first | exact Drawn0.refl _ | apply Drawn0.step)⟩
 case round =>
  clear H'
  try clear p2
  obtain ⟨x7_1, x8_1, rfl, rfl, HA, HK1, ⟨m1, rfl⟩⟩ := hrel
  cases gk with
  | zero => exact absurd HA.out (by simp [slices_BinarySearch_int_int.l0])
  | succ k1 =>
   have H := HA.out
   clear HA
   simp only [slices_BinarySearch_int_int.l0] at H
   by_cases c3 : x7_1 < x8_1
   ·rw [if_pos c3] at H
    have c3b0 : decide (x7_1 < x8_1) = true := decide_eq_true c3
    clear c3
    obtain ⟨ji4, hji4⟩ : ∃ j_ : Int, (wrap64 ((IntKind.u64.wrap (wrap64 (x7_1 + x8_1))) / 2)) = j_ := ⟨_, rfl⟩
    replace H : (if 0 ≤ (ji4) then (if (ji4) < (l0.length : Int) then ((cmp_Less_int.f (rd l0 (ji4)) a1).bind fun t169 => (if t169 = true then (slices_BinarySearch_int_int.l0 k1 l0 a1 (l0.length : Int) (wrap64 ((ji4) + 1)) x8_1) else (slices_BinarySearch_int_int.l0 k1 l0 a1 (l0.length : Int) x7_1 ji4))) else (none)) else (none)) = some (r1, r2) := by first | (rw [hji4] at H; exact H) | (simp only [hji4] at H ⊢; exact H)
    have hji4w : (IntKind.i64.wrap ((IntKind.u64.wrap (wrap64 (x7_1 + x8_1))) / 2)) = ji4 := (i64_w _).trans hji4
    by_cases c5 : 0 ≤ (ji4)
    ·rw [if_pos c5] at H
     have c5b0 : decide (0 ≤ (ji4)) = true := decide_eq_true c5
     clear c5
     by_cases c6 : (ji4) < (l0.length : Int)
     ·rw [if_pos c6] at H
      have c6b0 : decide ((ji4) < (l0.length : Int)) = true := decide_eq_true c6
      clear c6
      replace H := Option.bind_eq_some_iff.mp H
      obtain ⟨t169, A70, H⟩ := H
      replace H : (if t169 = true then (slices_BinarySearch_int_int.l0 k1 l0 a1 (l0.length : Int) (wrap64 ((ji4) + 1)) x8_1) else (slices_BinarySearch_int_int.l0 k1 l0 a1 (l0.length : Int) x7_1 ji4)) = some (r1, r2) := H
      have A7 := Aside0.mk A70
      clear A70
      by_cases c8 : t169 = true
      ·subst c8
       have H1 : (slices_BinarySearch_int_int.l0 k1 l0 a1 (l0.length : Int) (wrap64 ((ji4) + 1)) x8_1) = some (r1, r2) := by rw [if_pos rfl] at H; exact H
       clear H
       have H := H1
       clear H1
       have H' := Aside0.mk H
       clear H
       have p168 : 0 ≤ ((ji4) : Int) := of_decide_eq_true (by first | (with_reducible assumption) | assumption)
       have q168 : (ji4) < (l0.length : Int) := of_decide_eq_true (by first | (with_reducible assumption) | assumption)
       obtain ⟨ad168, e168, hx168_0⟩ := Kd.at_int HR0.out (ji4) p168 q168
       cases e168
       replace p168 := eq_true p168
       replace q168 := eq_true q168
       go_wp2_with (first | ((with_reducible refine gate_callee (f := 70) rfl ?_); refine goesL_ (some 27) rfl rfl Tryd.func70 (by kernel_rfl) rfl #[.int .i64 (rd l0 (ji4)), .int .i64 a1] rfl (by (try simp only [List.map_toArray, List.map_cons, List.map_nil]); first | done | (simp only [hji4]; rfl) | rfl | (simp only [List.length_drop, List.length_take]; rfl)) ?_; (with_reducible refine (cmp_Less_int.calls (rd l0 (ji4)) a1 true _ A7.out).mono ?_); rintro e w' ⟨rfl, ⟨nd, rfl⟩⟩; refine ⟨_, rfl, ?_⟩))
       go_roundg k1
       case measure => have := HK1.out; omega
       case rel => exact ⟨(wrap64 ((ji4) + 1)), (x8_1), (by first | rfl | (simp; done) | (simp only [← hji4] <;> (first | rfl | simp)) | (simp [*]; done) | (simp; exact (show ∀ a_ b_ : Bool, (a_ == b_) = (!(a_ != b_)) from by decide) _ _) | (rw [Bool.eq_iff_iff]; simp; done) | (simp; rw [Bool.eq_iff_iff]; simp; done)), (by first | rfl | (simp; done) | (simp [*]; done) | (simp; exact (show ∀ a_ b_ : Bool, (a_ == b_) = (!(a_ != b_)) from by decide) _ _) | (rw [Bool.eq_iff_iff]; simp; done) | (simp; rw [Bool.eq_iff_iff]; simp; done)), H', ⟨by have := HK1.out; omega⟩, by repeat (first | exact Drawn0.refl _ | apply Drawn0.step)⟩
      ·replace c8 := Bool.eq_false_iff.mpr c8
       subst c8
       have H1 : (slices_BinarySearch_int_int.l0 k1 l0 a1 (l0.length : Int) x7_1 ji4) = some (r1, r2) := by rw [if_neg (show ¬ (false = true) by decide)] at H; exact H
       clear H
       have H := H1
       clear H1
       have H' := Aside0.mk H
       clear H
       have p168 : 0 ≤ ((ji4) : Int) := of_decide_eq_true (by first | (with_reducible assumption) | assumption)
       have q168 : (ji4) < (l0.length : Int) := of_decide_eq_true (by first | (with_reducible assumption) | assumption)
       obtain ⟨ad168, e168, hx168_0⟩ := Kd.at_int HR0.out (ji4) p168 q168
       cases e168
       replace p168 := eq_true p168
       replace q168 := eq_true q168
       go_wp2_with (first | ((with_reducible refine gate_callee (f := 70) rfl ?_); refine goesL_ (some 27) rfl rfl Tryd.func70 (by kernel_rfl) rfl #[.int .i64 (rd l0 (ji4)), .int .i64 a1] rfl (by (try simp only [List.map_toArray, List.map_cons, List.map_nil]); first | done | (simp only [hji4]; rfl) | rfl | (simp only [List.length_drop, List.length_take]; rfl)) ?_; (with_reducible refine (cmp_Less_int.calls (rd l0 (ji4)) a1 false _ A7.out).mono ?_); rintro e w' ⟨rfl, ⟨nd, rfl⟩⟩; refine ⟨_, rfl, ?_⟩))
       go_roundg k1
       case measure => have := HK1.out; omega
       case rel => exact ⟨(x7_1), (ji4), (by first | rfl | (simp; done) | (simp [*]; done) | (simp; exact (show ∀ a_ b_ : Bool, (a_ == b_) = (!(a_ != b_)) from by decide) _ _) | (rw [Bool.eq_iff_iff]; simp; done) | (simp; rw [Bool.eq_iff_iff]; simp; done)), (by first | rfl | (simp; done) | (simp only [← hji4] <;> (first | rfl | simp)) | (simp [*]; done) | (simp; exact (show ∀ a_ b_ : Bool, (a_ == b_) = (!(a_ != b_)) from by decide) _ _) | (rw [Bool.eq_iff_iff]; simp; done) | (simp; rw [Bool.eq_iff_iff]; simp; done)), H', ⟨by have := HK1.out; omega⟩, by repeat (first | exact Drawn0.refl _ | apply Drawn0.step)⟩
     ·rw [if_neg c6] at H
      exact absurd H (by simp)
    ·rw [if_neg c5] at H
     exact absurd H (by simp)
   ·rw [if_neg c3] at H
    have c3b0 : decide (x7_1 < x8_1) = false := decide_eq_false c3
    clear c3
    by_cases c9 : x7_1 < (l0.length : Int)
    ·rw [if_pos c9] at H
     have c9b0 : decide (x7_1 < (l0.length : Int)) = true := decide_eq_true c9
     clear c9
     by_cases c10 : 0 ≤ x7_1
     ·rw [if_pos c10] at H
      have c10b0 : decide (0 ≤ x7_1) = true := decide_eq_true c10
      clear c10
      by_cases c11 : x7_1 < (l0.length : Int)
      ·rw [if_pos c11] at H
       have c11b0 : decide (x7_1 < (l0.length : Int)) = true := decide_eq_true c11
       clear c11
       by_cases c12 : (rd l0 x7_1) = a1
       ·rw [if_pos c12] at H
        have c12b0 : ((rd l0 x7_1) == a1) = true := beq_iff_eq.mpr c12
        have c12b1 : ((rd l0 x7_1) != a1) = false := bne_eq_false_iff_eq.mpr c12
        clear c12
        simp only [Option.some.injEq, Prod.mk.injEq] at H
        obtain ⟨rfl, rfl⟩ := H
        have p170 : 0 ≤ (x7_1 : Int) := of_decide_eq_true (by first | (with_reducible assumption) | assumption)
        have q170 : x7_1 < (l0.length : Int) := of_decide_eq_true (by first | (with_reducible assumption) | assumption)
        obtain ⟨ad170, e170, hx170_0⟩ := Kd.at_int HR0.out x7_1 p170 q170
        cases e170
        replace p170 := eq_true p170
        replace q170 := eq_true q170
        go_wp2
        go_ret2
        exact ⟨by first | rfl | (simp; done) | (simp [*]; done) | (simp; exact (show ∀ a_ b_ : Bool, (a_ == b_) = (!(a_ != b_)) from by decide) _ _), by repeat (first | exact Drawn0.refl _ | apply Drawn0.step)⟩
       ·rw [if_neg c12] at H
        have c12b0 : ((rd l0 x7_1) == a1) = false := beq_eq_false_iff_ne.mpr c12
        have c12b1 : ((rd l0 x7_1) != a1) = true := bne_iff_ne.mpr c12
        replace H := Option.bind_eq_some_iff.mp H
        obtain ⟨t172, A130, H⟩ := H
        replace H : (if t172 = true then ((slices_isNaN_int.f a1).bind fun t173 => (some (x7_1, t173))) else (some (x7_1, false))) = some (r1, r2) := H
        have A13 := Aside0.mk A130
        clear A130
        by_cases c14 : t172 = true
        ·subst c14
         have H1 : ((slices_isNaN_int.f a1).bind fun t173 => (some (x7_1, t173))) = some (r1, r2) := by rw [if_pos rfl] at H; exact H
         clear H
         have H := H1
         clear H1
         replace H := Option.bind_eq_some_iff.mp H
         obtain ⟨t173, A150, H⟩ := H
         replace H : (some (x7_1, t173)) = some (r1, r2) := H
         have A15 := Aside0.mk A150
         clear A150
         simp only [Option.some.injEq, Prod.mk.injEq] at H
         obtain ⟨rfl, rfl⟩ := H
         have p170 : 0 ≤ (x7_1 : Int) := of_decide_eq_true (by first | (with_reducible assumption) | assumption)
         have q170 : x7_1 < (l0.length : Int) := of_decide_eq_true (by first | (with_reducible assumption) | assumption)
         obtain ⟨ad170, e170, hx170_0⟩ := Kd.at_int HR0.out x7_1 p170 q170
         cases e170
         replace p170 := eq_true p170
         replace q170 := eq_true q170
         have p171 : 0 ≤ (x7_1 : Int) := of_decide_eq_true (by first | (with_reducible assumption) | assumption)
         have q171 : x7_1 < (l0.length : Int) := of_decide_eq_true (by first | (with_reducible assumption) | assumption)
         obtain ⟨ad171, e171, hx171_0⟩ := Kd.at_int HR0.out x7_1 p171 q171
         obtain rfl : ad170 = ad171 := (by injection e171)
         replace p171 := eq_true p171
         replace q171 := eq_true q171
         go_wp2_with (first | (go_at_call 71; (with_reducible refine (slices_isNaN_int.calls (rd l0 x7_1) true _ A13.out).mono ?_); rintro e w' ⟨rfl, ⟨nd, rfl⟩⟩) | (go_at_call 71; (with_reducible refine (slices_isNaN_int.calls a1 t173 _ A15.out).mono ?_); rintro e w' ⟨rfl, ⟨nd, rfl⟩⟩))
         go_ret2
         exact ⟨by first | rfl | (simp; done) | (simp [*]; done) | (simp; exact (show ∀ a_ b_ : Bool, (a_ == b_) = (!(a_ != b_)) from by decide) _ _), by repeat (first | exact Drawn0.refl _ | apply Drawn0.step)⟩
        ·replace c14 := Bool.eq_false_iff.mpr c14
         subst c14
         have H1 : (some (x7_1, false)) = some (r1, r2) := by rw [if_neg (show ¬ (false = true) by decide)] at H; exact H
         clear H
         have H := H1
         clear H1
         simp only [Option.some.injEq, Prod.mk.injEq] at H
         obtain ⟨rfl, rfl⟩ := H
         have p170 : 0 ≤ (x7_1 : Int) := of_decide_eq_true (by first | (with_reducible assumption) | assumption)
         have q170 : x7_1 < (l0.length : Int) := of_decide_eq_true (by first | (with_reducible assumption) | assumption)
         obtain ⟨ad170, e170, hx170_0⟩ := Kd.at_int HR0.out x7_1 p170 q170
         cases e170
         replace p170 := eq_true p170
         replace q170 := eq_true q170
         have p171 : 0 ≤ (x7_1 : Int) := of_decide_eq_true (by first | (with_reducible assumption) | assumption)
         have q171 : x7_1 < (l0.length : Int) := of_decide_eq_true (by first | (with_reducible assumption) | assumption)
         obtain ⟨ad171, e171, hx171_0⟩ := Kd.at_int HR0.out x7_1 p171 q171
         obtain rfl : ad170 = ad171 := (by injection e171)
         replace p171 := eq_true p171
         replace q171 := eq_true q171
         go_wp2_with (first | (go_at_call 71; (with_reducible refine (slices_isNaN_int.calls (rd l0 x7_1) false _ A13.out).mono ?_); rintro e w' ⟨rfl, ⟨nd, rfl⟩⟩))
         go_ret2
         exact ⟨by first | rfl | (simp; done) | (simp [*]; done) | (simp; exact (show ∀ a_ b_ : Bool, (a_ == b_) = (!(a_ != b_)) from by decide) _ _), by repeat (first | exact Drawn0.refl _ | apply Drawn0.step)⟩
      ·rw [if_neg c11] at H
       exact absurd H (by simp)
     ·rw [if_neg c10] at H
      exact absurd H (by simp)
    ·rw [if_neg c9] at H
     have c9b0 : decide (x7_1 < (l0.length : Int)) = false := decide_eq_false c9
     clear c9
     simp only [Option.some.injEq, Prod.mk.injEq] at H
     obtain ⟨rfl, rfl⟩ := H
     go_wp2
     go_ret2
     exact ⟨by first | rfl | (simp; done) | (simp [*]; done) | (simp; exact (show ∀ a_ b_ : Bool, (a_ == b_) = (!(a_ != b_)) from by decide) _ _), by repeat (first | exact Drawn0.refl _ | apply Drawn0.step)⟩
def civil_Works.f (k : Nat) (a0 : Int) (l1 : List Int) : Option (Bool × Int) := (civil_Right.f k l1).bind fun t174 => (if t174 = true then ((civil_within.f a0 730484).bind fun t175 => (if t175 = 0 then ((slices_BinarySearch_int_int.f k l1 a0).bind fun bt176 => (if (Int.tmod a0 7) < 5 then (some (!bt176.2, 0)) else (some (false, 0)))) else (some (false, t175)))) else (some (false, 2)))
set_option maxHeartbeats 8000000 in
set_option maxRecDepth 100000 in
theorem civil_Works.calls (k : Nat) (a0 : Int) (A1 : Option Addr) (c1 : Nat) (l1 : List Int) (r1 : Bool) (r2 : Int) (w : World) (hr1 : Kd.C (Kd.int .i64) w A1 l1.length l1) (hc1 : l1.length ≤ c1) (h : civil_Works.f k a0 l1 = some (r1, r2)) :
  Calls Tryd.prog 25 #[.int .i64 a0, .slice A1 l1.length c1] w fun e w' => e = .returned (.tuple #[.bool r1, .int .i64 r2]) ∧ Drawn0 w w' := by
 have HR1 := Aside0.mk hr1
 have HC1 := Aside0.mk hc1
 clear hr1 hc1
 have H : ((civil_Right.f k l1).bind fun t174 => (if t174 = true then ((civil_within.f a0 730484).bind fun t175 => (if t175 = 0 then ((slices_BinarySearch_int_int.f k l1 a0).bind fun bt176 => (if (Int.tmod a0 7) < 5 then (some (!bt176.2, 0)) else (some (false, 0)))) else (some (false, t175)))) else (some (false, 2)))) = some (r1, r2) := h
 clear h
 replace H := Option.bind_eq_some_iff.mp H
 obtain ⟨t174, A30, H⟩ := H
 replace H : (if t174 = true then ((civil_within.f a0 730484).bind fun t175 => (if t175 = 0 then ((slices_BinarySearch_int_int.f k l1 a0).bind fun bt176 => (if (Int.tmod a0 7) < 5 then (some (!bt176.2, 0)) else (some (false, 0)))) else (some (false, t175)))) else (some (false, 2))) = some (r1, r2) := H
 have A3 := Aside0.mk A30
 clear A30
 by_cases c4 : t174 = true
 ·subst c4
  have H1 : ((civil_within.f a0 730484).bind fun t175 => (if t175 = 0 then ((slices_BinarySearch_int_int.f k l1 a0).bind fun bt176 => (if (Int.tmod a0 7) < 5 then (some (!bt176.2, 0)) else (some (false, 0)))) else (some (false, t175)))) = some (r1, r2) := by rw [if_pos rfl] at H; exact H
  clear H
  have H := H1
  clear H1
  replace H := Option.bind_eq_some_iff.mp H
  obtain ⟨t175, A50, H⟩ := H
  replace H : (if t175 = 0 then ((slices_BinarySearch_int_int.f k l1 a0).bind fun bt176 => (if (Int.tmod a0 7) < 5 then (some (!bt176.2, 0)) else (some (false, 0)))) else (some (false, t175))) = some (r1, r2) := H
  have A5 := Aside0.mk A50
  clear A50
  by_cases c6 : t175 = 0
  ·rw [if_pos c6] at H
   have c6b0 : (t175 == 0) = true := beq_iff_eq.mpr c6
   have c6b1 : (t175 != 0) = false := bne_eq_false_iff_eq.mpr c6
   clear c6
   replace H := Option.bind_eq_some_iff.mp H
   obtain ⟨⟨t176, t177⟩, A70, H⟩ := H
   replace H : (if (Int.tmod a0 7) < 5 then (some (!t177, 0)) else (some (false, 0))) = some (r1, r2) := H
   have A7 := Aside0.mk A70
   clear A70
   by_cases c8 : (Int.tmod a0 7) < 5
   ·rw [if_pos c8] at H
    have c8b0 : decide ((Int.tmod a0 7) < 5) = true := decide_eq_true c8
    clear c8
    simp only [Option.some.injEq, Prod.mk.injEq] at H
    obtain ⟨rfl, rfl⟩ := H
    go_enter Tryd.func25, Tryd.ntmps25
    go_wp2_with (first | ((with_reducible refine gate_callee (f := 29) rfl ?_); refine goesL_ (some 10) rfl rfl Tryd.func29 (by kernel_rfl) rfl #[.slice A1 l1.length c1] rfl (by (try simp only [List.map_toArray, List.map_cons, List.map_nil]); first | done | rfl | (simp only [List.length_drop, List.length_take]; rfl)) ?_; (with_reducible refine (civil_Right.calls k _ _ l1 true _ ?side1 ?side2 A3.out).mono ?_); (case side1 => repeat (first | exact HR1.out | (with_reducible refine Kd.C_alloc ?_ _) | (with_reducible refine Kd.C_drewN ?_ _) | (with_reducible refine Kd.C_drew ?_))); (case side2 => exact HC1.out); rintro e w' ⟨rfl, ⟨nd, rfl⟩⟩; refine ⟨_, rfl, ?_⟩) | ((with_reducible refine gate_callee (f := 54) rfl ?_); refine goesL_ (some 13) rfl rfl Tryd.func54 (by kernel_rfl) rfl #[.int .i64 a0, .int .i64 730484] rfl (by (try simp only [List.map_toArray, List.map_cons, List.map_nil]); first | done | rfl | (simp only [List.length_drop, List.length_take]; rfl)) ?_; (with_reducible refine (civil_within.calls a0 730484 t175 _ A5.out).mono ?_); rintro e w' ⟨rfl, ⟨nd, rfl⟩⟩; refine ⟨_, rfl, ?_⟩) | ((with_reducible refine gate_callee (f := 57) rfl ?_); refine goesL_ (some 20) rfl rfl Tryd.func57 (by kernel_rfl) rfl #[.slice A1 l1.length c1, .int .i64 a0] rfl (by (try simp only [List.map_toArray, List.map_cons, List.map_nil]); first | done | rfl | (simp only [List.length_drop, List.length_take]; rfl)) ?_; (with_reducible refine (slices_BinarySearch_int_int.calls k _ _ l1 a0 t176 t177 _ ?side1 ?side2 A7.out).mono ?_); (case side1 => repeat (first | exact HR1.out | (with_reducible refine Kd.C_alloc ?_ _) | (with_reducible refine Kd.C_drewN ?_ _) | (with_reducible refine Kd.C_drew ?_))); (case side2 => exact HC1.out); rintro e w' ⟨rfl, ⟨nd, rfl⟩⟩; refine ⟨_, rfl, ?_⟩))
    go_ret2
    exact ⟨by first | rfl | (simp; done) | (simp [*]; done) | (simp; exact (show ∀ a_ b_ : Bool, (a_ == b_) = (!(a_ != b_)) from by decide) _ _), by repeat (first | exact Drawn0.refl _ | apply Drawn0.step)⟩
   ·rw [if_neg c8] at H
    have c8b0 : decide ((Int.tmod a0 7) < 5) = false := decide_eq_false c8
    clear c8
    simp only [Option.some.injEq, Prod.mk.injEq] at H
    obtain ⟨rfl, rfl⟩ := H
    go_enter Tryd.func25, Tryd.ntmps25
    go_wp2_with (first | ((with_reducible refine gate_callee (f := 29) rfl ?_); refine goesL_ (some 10) rfl rfl Tryd.func29 (by kernel_rfl) rfl #[.slice A1 l1.length c1] rfl (by (try simp only [List.map_toArray, List.map_cons, List.map_nil]); first | done | rfl | (simp only [List.length_drop, List.length_take]; rfl)) ?_; (with_reducible refine (civil_Right.calls k _ _ l1 true _ ?side1 ?side2 A3.out).mono ?_); (case side1 => repeat (first | exact HR1.out | (with_reducible refine Kd.C_alloc ?_ _) | (with_reducible refine Kd.C_drewN ?_ _) | (with_reducible refine Kd.C_drew ?_))); (case side2 => exact HC1.out); rintro e w' ⟨rfl, ⟨nd, rfl⟩⟩; refine ⟨_, rfl, ?_⟩) | ((with_reducible refine gate_callee (f := 54) rfl ?_); refine goesL_ (some 13) rfl rfl Tryd.func54 (by kernel_rfl) rfl #[.int .i64 a0, .int .i64 730484] rfl (by (try simp only [List.map_toArray, List.map_cons, List.map_nil]); first | done | rfl | (simp only [List.length_drop, List.length_take]; rfl)) ?_; (with_reducible refine (civil_within.calls a0 730484 t175 _ A5.out).mono ?_); rintro e w' ⟨rfl, ⟨nd, rfl⟩⟩; refine ⟨_, rfl, ?_⟩) | ((with_reducible refine gate_callee (f := 57) rfl ?_); refine goesL_ (some 20) rfl rfl Tryd.func57 (by kernel_rfl) rfl #[.slice A1 l1.length c1, .int .i64 a0] rfl (by (try simp only [List.map_toArray, List.map_cons, List.map_nil]); first | done | rfl | (simp only [List.length_drop, List.length_take]; rfl)) ?_; (with_reducible refine (slices_BinarySearch_int_int.calls k _ _ l1 a0 t176 t177 _ ?side1 ?side2 A7.out).mono ?_); (case side1 => repeat (first | exact HR1.out | (with_reducible refine Kd.C_alloc ?_ _) | (with_reducible refine Kd.C_drewN ?_ _) | (with_reducible refine Kd.C_drew ?_))); (case side2 => exact HC1.out); rintro e w' ⟨rfl, ⟨nd, rfl⟩⟩; refine ⟨_, rfl, ?_⟩))
    go_ret2
    exact ⟨by first | rfl | (simp; done) | (simp [*]; done) | (simp; exact (show ∀ a_ b_ : Bool, (a_ == b_) = (!(a_ != b_)) from by decide) _ _), by repeat (first | exact Drawn0.refl _ | apply Drawn0.step)⟩
  ·rw [if_neg c6] at H
   have c6b0 : (t175 == 0) = false := beq_eq_false_iff_ne.mpr c6
   have c6b1 : (t175 != 0) = true := bne_iff_ne.mpr c6
   simp only [Option.some.injEq, Prod.mk.injEq] at H
   obtain ⟨rfl, rfl⟩ := H
   go_enter Tryd.func25, Tryd.ntmps25
   go_wp2_with (first | ((with_reducible refine gate_callee (f := 29) rfl ?_); refine goesL_ (some 10) rfl rfl Tryd.func29 (by kernel_rfl) rfl #[.slice A1 l1.length c1] rfl (by (try simp only [List.map_toArray, List.map_cons, List.map_nil]); first | done | rfl | (simp only [List.length_drop, List.length_take]; rfl)) ?_; (with_reducible refine (civil_Right.calls k _ _ l1 true _ ?side1 ?side2 A3.out).mono ?_); (case side1 => repeat (first | exact HR1.out | (with_reducible refine Kd.C_alloc ?_ _) | (with_reducible refine Kd.C_drewN ?_ _) | (with_reducible refine Kd.C_drew ?_))); (case side2 => exact HC1.out); rintro e w' ⟨rfl, ⟨nd, rfl⟩⟩; refine ⟨_, rfl, ?_⟩) | ((with_reducible refine gate_callee (f := 54) rfl ?_); refine goesL_ (some 13) rfl rfl Tryd.func54 (by kernel_rfl) rfl #[.int .i64 a0, .int .i64 730484] rfl (by (try simp only [List.map_toArray, List.map_cons, List.map_nil]); first | done | rfl | (simp only [List.length_drop, List.length_take]; rfl)) ?_; (with_reducible refine (civil_within.calls a0 730484 t175 _ A5.out).mono ?_); rintro e w' ⟨rfl, ⟨nd, rfl⟩⟩; refine ⟨_, rfl, ?_⟩))
   go_ret2
   exact ⟨by first | rfl | (simp; done) | (simp [*]; done) | (simp; exact (show ∀ a_ b_ : Bool, (a_ == b_) = (!(a_ != b_)) from by decide) _ _), by repeat (first | exact Drawn0.refl _ | apply Drawn0.step)⟩
 ·replace c4 := Bool.eq_false_iff.mpr c4
  subst c4
  have H1 : (some (false, 2)) = some (r1, r2) := by rw [if_neg (show ¬ (false = true) by decide)] at H; exact H
  clear H
  have H := H1
  clear H1
  simp only [Option.some.injEq, Prod.mk.injEq] at H
  obtain ⟨rfl, rfl⟩ := H
  go_enter Tryd.func25, Tryd.ntmps25
  go_wp2_with (first | ((with_reducible refine gate_callee (f := 29) rfl ?_); refine goesL_ (some 10) rfl rfl Tryd.func29 (by kernel_rfl) rfl #[.slice A1 l1.length c1] rfl (by (try simp only [List.map_toArray, List.map_cons, List.map_nil]); first | done | rfl | (simp only [List.length_drop, List.length_take]; rfl)) ?_; (with_reducible refine (civil_Right.calls k _ _ l1 false _ ?side1 ?side2 A3.out).mono ?_); (case side1 => repeat (first | exact HR1.out | (with_reducible refine Kd.C_alloc ?_ _) | (with_reducible refine Kd.C_drewN ?_ _) | (with_reducible refine Kd.C_drew ?_))); (case side2 => exact HC1.out); rintro e w' ⟨rfl, ⟨nd, rfl⟩⟩; refine ⟨_, rfl, ?_⟩))
  go_ret2
  exact ⟨by first | rfl | (simp; done) | (simp [*]; done) | (simp; exact (show ∀ a_ b_ : Bool, (a_ == b_) = (!(a_ != b_)) from by decide) _ _), by repeat (first | exact Drawn0.refl _ | apply Drawn0.step)⟩
end Go.Proofs.YtehnhedifhpalaaDoor.Cp
set_option linter.unusedVariables false
set_option linter.unusedSimpArgs false
namespace Go.Proofs.YtehnhedifhpalaaDoor.Cp
open Go.RowKit Go.Proofs.YtehnhedifhpalaaDoorW.PrintWords Go.Proofs.YtehnhedifhpalaaDoorW.PrintLast Go.Proofs.YtehnhedifhpalaaDoorW.PrintMore
theorem bs_same (F : List Int) (x n : Int) : ∀ (k : Nat) (lo hi : Int), slices_BinarySearch_int_int.l0 k F x n lo hi = Cq.slices_BinarySearch_int_int.l0 k F x n lo hi := by
  intro k
  induction k with
  | zero => intro lo hi; rfl
  | succ k ih =>
    intro lo hi
    rw [slices_BinarySearch_int_int.l0.eq_2, Cq.slices_BinarySearch_int_int.l0.eq_2]
    simp only [ih]
    rfl
theorem cbs_f {F : List Int} (hF : F.Pairwise (· < ·)) (hl : F.length ≤ 100000) (x : Int) : Ev (fun k => slices_BinarySearch_int_int.f k F x) ((Cv.less F x : Int), F.contains x) :=
  Ev.congr (fun k => bs_same F x _ k _ _) (Cq.bs_f hF hl x)
/-- What Works returns. -/
def worksB (l : List Int) (a : Int) : Bool × Int := if rightB l = true then (if errOf a 730484 = 0 then (Cv.wk l a, 0) else (false, errOf a 730484)) else (false, 2)
theorem worksB_bad {l : List Int} {a : Int} (h : rightB l = false) : worksB l a = (false, 2) := by unfold worksB; rw [h]; rfl
theorem worksB_err {l : List Int} {a : Int} (h : rightB l = true) (ha : ¬ (0 ≤ a ∧ a ≤ 730484)) : worksB l a = (false, errOf a 730484) := by unfold worksB; rw [if_pos h, if_neg (errOf_ne ha)]
theorem worksB_ok {l : List Int} {a : Int} (h : rightB l = true) (ha : 0 ≤ a ∧ a ≤ 730484) : worksB l a = (Cv.wk l a, 0) := by unfold worksB; rw [if_pos h, if_pos (errOf_ok ha)]
theorem cworks_f (l : List Int) (a : Int) (hl : l.length ≤ 9223372036854775807) : Ev (fun k => civil_Works.f k a l) (worksB l a) := by
  have hr := right_f l hl
  unfold civil_Works.f
  cases hR : rightB l with
  | false =>
    rw [hR] at hr
    rw [worksB_bad hR]
    exact Ev.bind hr (ev_neg Bool.false_ne_true (Ev.now _))
  | true =>
    rw [hR] at hr
    obtain ⟨h1, h2⟩ := rightB_of hR
    refine Ev.bind hr (ev_pos rfl (Ev.bind (ev_val (cwithin_f a _)) ?_))
    by_cases ha : 0 ≤ a ∧ a ≤ 730484
    · rw [worksB_ok hR ha]
      refine ev_pos (errOf_ok ha) (Ev.bind (cbs_f h1.ord (by omega) a) ?_)
      rw [Int.tmod_eq_emod_of_nonneg ha.1]
      unfold Cv.wk
      by_cases c : a % 7 < 5
      · refine ev_pos c (ev_eq ?_ (Ev.now _))
        rw [decide_eq_true c, Bool.true_and]
      · refine ev_neg c (ev_eq ?_ (Ev.now _))
        rw [decide_eq_false c, Bool.false_and]
    · rw [worksB_err hR ha]
      exact ev_neg (errOf_ne ha) (Ev.now _)
theorem cbetween_ok {l : List Int} {a b : Int} (hr : rightB l = true) (ha : 0 ≤ a) (hab : a ≤ b) (hb : b ≤ 730484) : civil_Between.f a b l = some (Cv.cnt (Cv.wk l) a b, 0) := by
  unfold civil_Between.f
  rw [if_pos ⟨hr, ha, hab⟩, if_pos hb, Cv.below_cnt (rightB_of hr).1 b hab]
theorem ahead_l0 {l : List Int} (hr : rightB l = true) {a n : Int} (hn : 0 ≤ n) (d : Nat) : ∀ lo hi : Int, a ≤ lo → lo ≤ hi → hi ≤ 730484 → hi - lo ≤ d → n < Cv.cnt (Cv.wk l) a (hi + 1) → (∀ e, a ≤ e → e < lo → Cv.cnt (Cv.wk l) a (e + 1) ≤ n) →
    ∃ e, Cv.IsAhead (Cv.wk l) a n e ∧ Ev (fun k => civil_Ahead.l0 l (Cv.below l a) n k lo hi) e := by
  induction d with
  | zero =>
    intro lo hi h1 h2 h3 h4 h5 h6
    obtain rfl : lo = hi := by omega
    exact ⟨lo, Cv.ahead_of_least hn h1 h3 h5 h6, Ev.step (fun k => civil_Ahead.l0.eq_2 _ _ _ _ _ k) (ev_neg (by omega) (Ev.now _))⟩
  | succ d ih =>
    intro lo hi h1 h2 h3 h4 h5 h6
    by_cases e : lo = hi
    · exact ih lo hi h1 h2 h3 (by omega) h5 h6
    · have hc := Cv.below_cnt (rightB_of hr).1 (a := a) ((lo + hi) / 2 + 1) (by omega)
      by_cases c : n < Cv.below l ((lo + hi) / 2 + 1) - Cv.below l a
      · obtain ⟨e, k1, k2⟩ := ih lo ((lo + hi) / 2) h1 (by omega) (by omega) (by omega) (by rw [← hc]; exact c) h6
        exact ⟨e, k1, Ev.step (fun k => civil_Ahead.l0.eq_2 _ _ _ _ _ k) (ev_pos (by omega) (ev_pos c k2))⟩
      · obtain ⟨e, k1, k2⟩ := ih ((lo + hi) / 2 + 1) hi (by omega) (by omega) h3 (by omega) h5 (fun e he he2 => by
          have := Cv.cnt_mono_right (Cv.wk l) (a := a) (b := e + 1) (c := (lo + hi) / 2 + 1) (by omega)
          omega)
        exact ⟨e, k1, Ev.step (fun k => civil_Ahead.l0.eq_2 _ _ _ _ _ k) (ev_pos (by omega) (ev_neg c k2))⟩
theorem cahead_ok {l : List Int} (hr : rightB l = true) {a n : Int} (ha : 0 ≤ a ∧ a ≤ 730484) (hn : 0 ≤ n) (hc : n < Cv.cnt (Cv.wk l) a 730485) :
    ∃ e, Cv.IsAhead (Cv.wk l) a n e ∧ Ev (fun k => civil_Ahead.f k a n l) (e, 0) := by
  obtain ⟨e, k1, k2⟩ := ahead_l0 hr hn (730484 - a).toNat a 730484 (by omega) ha.2 (by omega) (by omega) hc (fun e h1 h2 => by omega)
  refine ⟨e, k1, ?_⟩
  unfold civil_Ahead.f
  have hb := Cv.below_cnt (rightB_of hr).1 (a := a) 730485 (by omega)
  exact ev_pos ⟨hr, ha.1, hn⟩ (ev_pos ⟨ha.2, by rw [hb]; exact hc⟩ (Ev.bind k2 (Ev.now _)))
theorem cahead_none {l : List Int} (hr : rightB l = true) {a n : Int} (ha : 0 ≤ a) (hn : 0 ≤ n) (hc : Cv.cnt (Cv.wk l) a 730485 ≤ n) : Ev (fun k => civil_Ahead.f k a n l) (0, 3) := by
  unfold civil_Ahead.f
  refine ev_pos ⟨hr, ha, hn⟩ (ev_neg (fun h => ?_) (Ev.now _))
  have hb := Cv.below_cnt (rightB_of hr).1 (a := a) 730485 (by omega)
  omega
theorem cahead_arg {l : List Int} {a n : Int} (h : ¬ (rightB l = true ∧ 0 ≤ a ∧ 0 ≤ n)) : Ev (fun k => civil_Ahead.f k a n l) (0, 2) := by
  unfold civil_Ahead.f
  exact ev_neg h (Ev.now _)
end Go.Proofs.YtehnhedifhpalaaDoor.Cp
namespace Go.Proofs.YtehnhedifhpalaaDoor.Cp
open Go.RowKit Go.Proofs.YtehnhedifhpalaaDoorW.PrintWords Go.Proofs.YtehnhedifhpalaaDoorW.PrintLast Go.Proofs.YtehnhedifhpalaaDoorW.PrintMore
attribute [local go_sem] max2_int min2_int max_two min_two max_three min_three max_four min_four   -- for this text's walks alone
set_option linter.unusedVariables false
set_option linter.unusedSimpArgs false
def letterbagref01_Leap.f (a0 : Int) : Option (Bool) := if (Int.tmod a0 400) = 0 then (some true) else (if (Int.tmod a0 4) = 0 then (some ((Int.tmod a0 100) != 0)) else (some false))
set_option maxHeartbeats 8000000 in
set_option maxRecDepth 100000 in
theorem letterbagref01_Leap.calls (a0 : Int) (r : Bool) (w : World) (h : letterbagref01_Leap.f a0 = some r) :
  Calls Tryd.prog 40 #[.int .i64 a0] w fun e w' => e = .returned (.bool r) ∧ Drawn0 w w' := by
 have H : (if (Int.tmod a0 400) = 0 then (some true) else (if (Int.tmod a0 4) = 0 then (some ((Int.tmod a0 100) != 0)) else (some false))) = some r := h
 clear h
 by_cases c2 : (Int.tmod a0 400) = 0
 ·rw [if_pos c2] at H
  have c2b0 : ((Int.tmod a0 400) == 0) = true := beq_iff_eq.mpr c2
  have c2b1 : ((Int.tmod a0 400) != 0) = false := bne_eq_false_iff_eq.mpr c2
  clear c2
  obtain rfl := Option.some.inj H
  go_enter Tryd.func40, Tryd.ntmps40
  go_wp2
  go_ret
  exact ⟨by first | rfl | (simp; done) | (simp [*]; done) | (simp; exact (show ∀ a_ b_ : Bool, (a_ == b_) = (!(a_ != b_)) from by decide) _ _), by repeat (first | exact Drawn0.refl _ | apply Drawn0.step)⟩
 ·rw [if_neg c2] at H
  have c2b0 : ((Int.tmod a0 400) == 0) = false := beq_eq_false_iff_ne.mpr c2
  have c2b1 : ((Int.tmod a0 400) != 0) = true := bne_iff_ne.mpr c2
  by_cases c3 : (Int.tmod a0 4) = 0
  ·rw [if_pos c3] at H
   have c3b0 : ((Int.tmod a0 4) == 0) = true := beq_iff_eq.mpr c3
   have c3b1 : ((Int.tmod a0 4) != 0) = false := bne_eq_false_iff_eq.mpr c3
   clear c3
   obtain rfl := Option.some.inj H
   go_enter Tryd.func40, Tryd.ntmps40
   go_wp2
   go_ret
   exact ⟨by first | rfl | (simp; done) | (simp [*]; done) | (simp; exact (show ∀ a_ b_ : Bool, (a_ == b_) = (!(a_ != b_)) from by decide) _ _), by repeat (first | exact Drawn0.refl _ | apply Drawn0.step)⟩
  ·rw [if_neg c3] at H
   have c3b0 : ((Int.tmod a0 4) == 0) = false := beq_eq_false_iff_ne.mpr c3
   have c3b1 : ((Int.tmod a0 4) != 0) = true := bne_iff_ne.mpr c3
   obtain rfl := Option.some.inj H
   go_enter Tryd.func40, Tryd.ntmps40
   go_wp2
   go_ret
   exact ⟨by first | rfl | (simp; done) | (simp [*]; done) | (simp; exact (show ∀ a_ b_ : Bool, (a_ == b_) = (!(a_ != b_)) from by decide) _ _), by repeat (first | exact Drawn0.refl _ | apply Drawn0.step)⟩
def letterbagref01_long.f (a0 : Int) (a1 : Int) : Option (Int) := if a1 = 2 then ((letterbagref01_Leap.f a0).bind fun t226 => (if t226 = true then (some 29) else (some 28))) else (if a1 = 4 then (some 30) else (if a1 = 6 then (some 30) else (if a1 = 9 then (some 30) else (if a1 = 11 then (some 30) else (some 31)))))
set_option maxHeartbeats 8000000 in
set_option maxRecDepth 100000 in
theorem letterbagref01_long.calls (a0 : Int) (a1 : Int) (r : Int) (w : World) (h : letterbagref01_long.f a0 a1 = some r) :
  Calls Tryd.prog 63 #[.int .i64 a0, .int .i64 a1] w fun e w' => e = .returned (.int .i64 r) ∧ Drawn0 w w' := by
 have H : (if a1 = 2 then ((letterbagref01_Leap.f a0).bind fun t226 => (if t226 = true then (some 29) else (some 28))) else (if a1 = 4 then (some 30) else (if a1 = 6 then (some 30) else (if a1 = 9 then (some 30) else (if a1 = 11 then (some 30) else (some 31)))))) = some r := h
 clear h
 by_cases c3 : a1 = 2
 ·rw [if_pos c3] at H
  have c3b0 : (a1 == 2) = true := beq_iff_eq.mpr c3
  have c3b1 : (a1 != 2) = false := bne_eq_false_iff_eq.mpr c3
  clear c3
  replace H := Option.bind_eq_some_iff.mp H
  obtain ⟨t226, A40, H⟩ := H
  replace H : (if t226 = true then (some 29) else (some 28)) = some r := H
  have A4 := Aside0.mk A40
  clear A40
  by_cases c5 : t226 = true
  ·subst c5
   have H1 : (some 29) = some r := by rw [if_pos rfl] at H; exact H
   clear H
   have H := H1
   clear H1
   obtain rfl := Option.some.inj H
   go_enter Tryd.func63, Tryd.ntmps63
   go_wp2_with (first | ((with_reducible refine gate_callee (f := 40) rfl ?_); refine goesL_ (some 9) rfl rfl Tryd.func40 (by kernel_rfl) rfl #[.int .i64 a0] rfl (by (try simp only [List.map_toArray, List.map_cons, List.map_nil]); first | done | rfl | (simp only [List.length_drop, List.length_take]; rfl)) ?_; (with_reducible refine (letterbagref01_Leap.calls a0 true _ A4.out).mono ?_); rintro e w' ⟨rfl, ⟨nd, rfl⟩⟩; refine ⟨_, rfl, ?_⟩))
   go_ret
   exact ⟨by first | rfl | (simp; done) | (simp [*]; done) | (simp; exact (show ∀ a_ b_ : Bool, (a_ == b_) = (!(a_ != b_)) from by decide) _ _), by repeat (first | exact Drawn0.refl _ | apply Drawn0.step)⟩
  ·replace c5 := Bool.eq_false_iff.mpr c5
   subst c5
   have H1 : (some 28) = some r := by rw [if_neg (show ¬ (false = true) by decide)] at H; exact H
   clear H
   have H := H1
   clear H1
   obtain rfl := Option.some.inj H
   go_enter Tryd.func63, Tryd.ntmps63
   go_wp2_with (first | ((with_reducible refine gate_callee (f := 40) rfl ?_); refine goesL_ (some 9) rfl rfl Tryd.func40 (by kernel_rfl) rfl #[.int .i64 a0] rfl (by (try simp only [List.map_toArray, List.map_cons, List.map_nil]); first | done | rfl | (simp only [List.length_drop, List.length_take]; rfl)) ?_; (with_reducible refine (letterbagref01_Leap.calls a0 false _ A4.out).mono ?_); rintro e w' ⟨rfl, ⟨nd, rfl⟩⟩; refine ⟨_, rfl, ?_⟩))
   go_ret
   exact ⟨by first | rfl | (simp; done) | (simp [*]; done) | (simp; exact (show ∀ a_ b_ : Bool, (a_ == b_) = (!(a_ != b_)) from by decide) _ _), by repeat (first | exact Drawn0.refl _ | apply Drawn0.step)⟩
 ·rw [if_neg c3] at H
  have c3b0 : (a1 == 2) = false := beq_eq_false_iff_ne.mpr c3
  have c3b1 : (a1 != 2) = true := bne_iff_ne.mpr c3
  by_cases c6 : a1 = 4
  ·rw [if_pos c6] at H
   have c6b0 : (a1 == 4) = true := beq_iff_eq.mpr c6
   have c6b1 : (a1 != 4) = false := bne_eq_false_iff_eq.mpr c6
   clear c6
   obtain rfl := Option.some.inj H
   go_enter Tryd.func63, Tryd.ntmps63
   go_wp2
   go_ret
   exact ⟨by first | rfl | (simp; done) | (simp [*]; done) | (simp; exact (show ∀ a_ b_ : Bool, (a_ == b_) = (!(a_ != b_)) from by decide) _ _), by repeat (first | exact Drawn0.refl _ | apply Drawn0.step)⟩
  ·rw [if_neg c6] at H
   have c6b0 : (a1 == 4) = false := beq_eq_false_iff_ne.mpr c6
   have c6b1 : (a1 != 4) = true := bne_iff_ne.mpr c6
   by_cases c7 : a1 = 6
   ·rw [if_pos c7] at H
    have c7b0 : (a1 == 6) = true := beq_iff_eq.mpr c7
    have c7b1 : (a1 != 6) = false := bne_eq_false_iff_eq.mpr c7
    clear c7
    obtain rfl := Option.some.inj H
    go_enter Tryd.func63, Tryd.ntmps63
    go_wp2
    go_ret
    exact ⟨by first | rfl | (simp; done) | (simp [*]; done) | (simp; exact (show ∀ a_ b_ : Bool, (a_ == b_) = (!(a_ != b_)) from by decide) _ _), by repeat (first | exact Drawn0.refl _ | apply Drawn0.step)⟩
   ·rw [if_neg c7] at H
    have c7b0 : (a1 == 6) = false := beq_eq_false_iff_ne.mpr c7
    have c7b1 : (a1 != 6) = true := bne_iff_ne.mpr c7
    by_cases c8 : a1 = 9
    ·rw [if_pos c8] at H
     have c8b0 : (a1 == 9) = true := beq_iff_eq.mpr c8
     have c8b1 : (a1 != 9) = false := bne_eq_false_iff_eq.mpr c8
     clear c8
     obtain rfl := Option.some.inj H
     go_enter Tryd.func63, Tryd.ntmps63
     go_wp2
     go_ret
     exact ⟨by first | rfl | (simp; done) | (simp [*]; done) | (simp; exact (show ∀ a_ b_ : Bool, (a_ == b_) = (!(a_ != b_)) from by decide) _ _), by repeat (first | exact Drawn0.refl _ | apply Drawn0.step)⟩
    ·rw [if_neg c8] at H
     have c8b0 : (a1 == 9) = false := beq_eq_false_iff_ne.mpr c8
     have c8b1 : (a1 != 9) = true := bne_iff_ne.mpr c8
     by_cases c9 : a1 = 11
     ·rw [if_pos c9] at H
      have c9b0 : (a1 == 11) = true := beq_iff_eq.mpr c9
      have c9b1 : (a1 != 11) = false := bne_eq_false_iff_eq.mpr c9
      clear c9
      obtain rfl := Option.some.inj H
      go_enter Tryd.func63, Tryd.ntmps63
      go_wp2
      go_ret
      exact ⟨by first | rfl | (simp; done) | (simp [*]; done) | (simp; exact (show ∀ a_ b_ : Bool, (a_ == b_) = (!(a_ != b_)) from by decide) _ _), by repeat (first | exact Drawn0.refl _ | apply Drawn0.step)⟩
     ·rw [if_neg c9] at H
      have c9b0 : (a1 == 11) = false := beq_eq_false_iff_ne.mpr c9
      have c9b1 : (a1 != 11) = true := bne_iff_ne.mpr c9
      obtain rfl := Option.some.inj H
      go_enter Tryd.func63, Tryd.ntmps63
      go_wp2
      go_ret
      exact ⟨by first | rfl | (simp; done) | (simp [*]; done) | (simp; exact (show ∀ a_ b_ : Bool, (a_ == b_) = (!(a_ != b_)) from by decide) _ _), by repeat (first | exact Drawn0.refl _ | apply Drawn0.step)⟩
def letterbagref01_date.f (a0 : Int) (a1 : Int) (a2 : Int) : Option (Bool) := if a0 ≥ 2001 then (if a0 ≤ 4000 then (if a1 ≥ 1 then (if a1 ≤ 12 then (if a2 ≥ 1 then ((letterbagref01_long.f a0 a1).bind fun t227 => (some (decide (a2 ≤ t227)))) else (some false)) else (some false)) else (some false)) else (some false)) else (some false)
set_option maxHeartbeats 8000000 in
set_option maxRecDepth 100000 in
theorem letterbagref01_date.calls (a0 : Int) (a1 : Int) (a2 : Int) (r : Bool) (w : World) (h : letterbagref01_date.f a0 a1 a2 = some r) :
  Calls Tryd.prog 62 #[.int .i64 a0, .int .i64 a1, .int .i64 a2] w fun e w' => e = .returned (.bool r) ∧ Drawn0 w w' := by
 have H : (if a0 ≥ 2001 then (if a0 ≤ 4000 then (if a1 ≥ 1 then (if a1 ≤ 12 then (if a2 ≥ 1 then ((letterbagref01_long.f a0 a1).bind fun t227 => (some (decide (a2 ≤ t227)))) else (some false)) else (some false)) else (some false)) else (some false)) else (some false)) = some r := h
 clear h
 by_cases c4 : a0 ≥ 2001
 ·rw [if_pos c4] at H
  have c4b0 : decide (2001 ≤ a0) = true := decide_eq_true c4
  clear c4
  by_cases c5 : a0 ≤ 4000
  ·rw [if_pos c5] at H
   have c5b0 : decide (a0 ≤ 4000) = true := decide_eq_true c5
   clear c5
   by_cases c6 : a1 ≥ 1
   ·rw [if_pos c6] at H
    have c6b0 : decide (1 ≤ a1) = true := decide_eq_true c6
    clear c6
    by_cases c7 : a1 ≤ 12
    ·rw [if_pos c7] at H
     have c7b0 : decide (a1 ≤ 12) = true := decide_eq_true c7
     clear c7
     by_cases c8 : a2 ≥ 1
     ·rw [if_pos c8] at H
      have c8b0 : decide (1 ≤ a2) = true := decide_eq_true c8
      clear c8
      replace H := Option.bind_eq_some_iff.mp H
      obtain ⟨t227, A90, H⟩ := H
      replace H : (some (decide (a2 ≤ t227))) = some r := H
      have A9 := Aside0.mk A90
      clear A90
      obtain rfl := Option.some.inj H
      go_enter Tryd.func62, Tryd.ntmps62
      go_wp2_with (first | (go_at_call 63; (with_reducible refine (letterbagref01_long.calls a0 a1 t227 _ A9.out).mono ?_); rintro e w' ⟨rfl, ⟨nd, rfl⟩⟩))
      go_ret
      exact ⟨by first | rfl | (simp; done) | (simp [*]; done) | (simp; exact (show ∀ a_ b_ : Bool, (a_ == b_) = (!(a_ != b_)) from by decide) _ _), by repeat (first | exact Drawn0.refl _ | apply Drawn0.step)⟩
     ·rw [if_neg c8] at H
      have c8b0 : decide (1 ≤ a2) = false := decide_eq_false c8
      clear c8
      obtain rfl := Option.some.inj H
      go_enter Tryd.func62, Tryd.ntmps62
      go_wp2
      go_ret
      exact ⟨by first | rfl | (simp; done) | (simp [*]; done) | (simp; exact (show ∀ a_ b_ : Bool, (a_ == b_) = (!(a_ != b_)) from by decide) _ _), by repeat (first | exact Drawn0.refl _ | apply Drawn0.step)⟩
    ·rw [if_neg c7] at H
     have c7b0 : decide (a1 ≤ 12) = false := decide_eq_false c7
     clear c7
     obtain rfl := Option.some.inj H
     go_enter Tryd.func62, Tryd.ntmps62
     go_wp2
     go_ret
     exact ⟨by first | rfl | (simp; done) | (simp [*]; done) | (simp; exact (show ∀ a_ b_ : Bool, (a_ == b_) = (!(a_ != b_)) from by decide) _ _), by repeat (first | exact Drawn0.refl _ | apply Drawn0.step)⟩
   ·rw [if_neg c6] at H
    have c6b0 : decide (1 ≤ a1) = false := decide_eq_false c6
    clear c6
    obtain rfl := Option.some.inj H
    go_enter Tryd.func62, Tryd.ntmps62
    go_wp2
    go_ret
    exact ⟨by first | rfl | (simp; done) | (simp [*]; done) | (simp; exact (show ∀ a_ b_ : Bool, (a_ == b_) = (!(a_ != b_)) from by decide) _ _), by repeat (first | exact Drawn0.refl _ | apply Drawn0.step)⟩
  ·rw [if_neg c5] at H
   have c5b0 : decide (a0 ≤ 4000) = false := decide_eq_false c5
   clear c5
   obtain rfl := Option.some.inj H
   go_enter Tryd.func62, Tryd.ntmps62
   go_wp2
   go_ret
   exact ⟨by first | rfl | (simp; done) | (simp [*]; done) | (simp; exact (show ∀ a_ b_ : Bool, (a_ == b_) = (!(a_ != b_)) from by decide) _ _), by repeat (first | exact Drawn0.refl _ | apply Drawn0.step)⟩
 ·rw [if_neg c4] at H
  have c4b0 : decide (2001 ≤ a0) = false := decide_eq_false c4
  clear c4
  obtain rfl := Option.some.inj H
  go_enter Tryd.func62, Tryd.ntmps62
  go_wp2
  go_ret
  exact ⟨by first | rfl | (simp; done) | (simp [*]; done) | (simp; exact (show ∀ a_ b_ : Bool, (a_ == b_) = (!(a_ != b_)) from by decide) _ _), by repeat (first | exact Drawn0.refl _ | apply Drawn0.step)⟩
mutual
def letterbagref01_Day.l0 : Nat → Int → Int → Int → Int → Option (Int × Int)
 | 0, _, _, _, _ => none
 | k + 1, x0, x1, x8, x9 => if x9 < x0 then ((letterbagref01_Leap.f x9).bind fun t229 => (if t229 = true then (letterbagref01_Day.l0 k x0 x1 (wrap64 ((wrap64 (x8 + 365)) + 1)) (wrap64 (x9 + 1))) else (letterbagref01_Day.l0 k x0 x1 (wrap64 (x8 + 365)) (wrap64 (x9 + 1))))) else (letterbagref01_Day.l1 k x0 x1 x8 1)
def letterbagref01_Day.l1 : Nat → Int → Int → Int → Int → Option (Int × Int)
 | 0, _, _, _, _ => none
 | k + 1, x0, x1, x8, x10 => if x10 < x1 then ((letterbagref01_long.f x0 x10).bind fun t230 => (letterbagref01_Day.l1 k x0 x1 (wrap64 (x8 + t230)) (wrap64 (x10 + 1)))) else (some (x8, 0))
end
def letterbagref01_Day.f (k : Nat) (a0 : Int) (a1 : Int) (a2 : Int) : Option (Int × Int) := (letterbagref01_date.f a0 a1 a2).bind fun t228 => (if t228 = true then (letterbagref01_Day.l0 k a0 a1 (wrap64 (a2 - 1)) 2001) else (some (0, 10)))
set_option maxHeartbeats 8000000 in
set_option maxRecDepth 100000 in
theorem letterbagref01_Day.calls (k : Nat) (a0 : Int) (a1 : Int) (a2 : Int) (r1 : Int) (r2 : Int) (w : World) (h : letterbagref01_Day.f k a0 a1 a2 = some (r1, r2)) :
  Calls Tryd.prog 39 #[.int .i64 a0, .int .i64 a1, .int .i64 a2] w fun e w' => e = .returned (.tuple #[.int .i64 r1, .int .i64 r2]) ∧ Drawn0 w w' := by
 have H : ((letterbagref01_date.f a0 a1 a2).bind fun t228 => (if t228 = true then (letterbagref01_Day.l0 k a0 a1 (wrap64 (a2 - 1)) 2001) else (some (0, 10)))) = some (r1, r2) := h
 clear h
 replace H := Option.bind_eq_some_iff.mp H
 obtain ⟨t228, A40, H⟩ := H
 replace H : (if t228 = true then (letterbagref01_Day.l0 k a0 a1 (wrap64 (a2 - 1)) 2001) else (some (0, 10))) = some (r1, r2) := H
 have A4 := Aside0.mk A40
 clear A40
 by_cases c5 : t228 = true
 ·subst c5
  have H1 : (letterbagref01_Day.l0 k a0 a1 (wrap64 (a2 - 1)) 2001) = some (r1, r2) := by rw [if_pos rfl] at H; exact H
  clear H
  have H := H1
  clear H1
  have H' := Aside0.mk H
  clear H
  go_enter Tryd.func39, Tryd.ntmps39
  go_wp2_with (first | ((with_reducible refine gate_callee (f := 62) rfl ?_); refine goesL_ (some 14) rfl rfl Tryd.func62 (by kernel_rfl) rfl #[.int .i64 a0, .int .i64 a1, .int .i64 a2] rfl (by (try simp only [List.map_toArray, List.map_cons, List.map_nil]); first | done | rfl | (simp only [List.length_drop, List.length_take]; rfl)) ?_; (with_reducible refine (letterbagref01_date.calls a0 a1 a2 true _ A4.out).mono ?_); rintro e w' ⟨rfl, ⟨nd, rfl⟩⟩; refine ⟨_, rfl, ?_⟩))
  go_loopg [8, 9] k (fun kq v8 v9 w' => ∃ (x8_1 : Int) (x9_1 : Int), v8 = .int .i64 x8_1 ∧ v9 = .int .i64 x9_1 ∧ Aside0 (letterbagref01_Day.l0 kq a0 a1 x8_1 x9_1 = some (r1, r2)) ∧ Aside0 (kq ≤ k) ∧ Drawn0 w w')
  case atStart => exact ⟨(wrap64 (a2 - 1)), (2001), (by first | rfl | (simp; done) | (simp [*]; done) | (simp; exact (show ∀ a_ b_ : Bool, (a_ == b_) = (!(a_ != b_)) from by decide) _ _) | (rw [Bool.eq_iff_iff]; simp; done) | (simp; rw [Bool.eq_iff_iff]; simp; done)), (by first | rfl | (simp; done) | (simp [*]; done) | (simp; exact (show ∀ a_ b_ : Bool, (a_ == b_) = (!(a_ != b_)) from by decide) _ _) | (rw [Bool.eq_iff_iff]; simp; done) | (simp; rw [Bool.eq_iff_iff]; simp; done)), H', ⟨Nat.le_refl _⟩, by repeat (first | exact Drawn0.refl _ | apply Drawn0.step)⟩
  case round =>
   clear H'
   try clear p2
   try clear c3
   try clear c5
   obtain ⟨x8_1, x9_1, rfl, rfl, HA, HK1, ⟨m1, rfl⟩⟩ := hrel
   cases gk with
   | zero => exact absurd HA.out (by simp [letterbagref01_Day.l0])
   | succ k1 =>
    have H := HA.out
    clear HA
    simp only [letterbagref01_Day.l0] at H
    by_cases c6 : x9_1 < a0
    ·rw [if_pos c6] at H
     have c6b0 : decide (x9_1 < a0) = true := decide_eq_true c6
     clear c6
     replace H := Option.bind_eq_some_iff.mp H
     obtain ⟨t229, A70, H⟩ := H
     replace H : (if t229 = true then (letterbagref01_Day.l0 k1 a0 a1 (wrap64 ((wrap64 (x8_1 + 365)) + 1)) (wrap64 (x9_1 + 1))) else (letterbagref01_Day.l0 k1 a0 a1 (wrap64 (x8_1 + 365)) (wrap64 (x9_1 + 1)))) = some (r1, r2) := H
     have A7 := Aside0.mk A70
     clear A70
     by_cases c8 : t229 = true
     ·subst c8
      have H1 : (letterbagref01_Day.l0 k1 a0 a1 (wrap64 ((wrap64 (x8_1 + 365)) + 1)) (wrap64 (x9_1 + 1))) = some (r1, r2) := by rw [if_pos rfl] at H; exact H
      clear H
      have H := H1
      clear H1
      have H' := Aside0.mk H
      clear H
      go_wp2_with (first | ((with_reducible refine gate_callee (f := 40) rfl ?_); refine goesL_ (some 26) rfl rfl Tryd.func40 (by kernel_rfl) rfl #[.int .i64 x9_1] rfl (by (try simp only [List.map_toArray, List.map_cons, List.map_nil]); first | done | rfl | (simp only [List.length_drop, List.length_take]; rfl)) ?_; (with_reducible refine (letterbagref01_Leap.calls x9_1 true _ A7.out).mono ?_); rintro e w' ⟨rfl, ⟨nd, rfl⟩⟩; refine ⟨_, rfl, ?_⟩))
      go_roundg k1
      case measure => have := HK1.out; omega
      case rel => exact ⟨(wrap64 ((wrap64 (x8_1 + 365)) + 1)), (wrap64 (x9_1 + 1)), (by first | rfl | (simp; done) | (simp [*]; done) | (simp; exact (show ∀ a_ b_ : Bool, (a_ == b_) = (!(a_ != b_)) from by decide) _ _) | (rw [Bool.eq_iff_iff]; simp; done) | (simp; rw [Bool.eq_iff_iff]; simp; done)), (by first | rfl | (simp; done) | (simp [*]; done) | (simp; exact (show ∀ a_ b_ : Bool, (a_ == b_) = (!(a_ != b_)) from by decide) _ _) | (rw [Bool.eq_iff_iff]; simp; done) | (simp; rw [Bool.eq_iff_iff]; simp; done)), H', ⟨by have := HK1.out; omega⟩, by repeat (first | exact Drawn0.refl _ | apply Drawn0.step)⟩
     ·replace c8 := Bool.eq_false_iff.mpr c8
      subst c8
      have H1 : (letterbagref01_Day.l0 k1 a0 a1 (wrap64 (x8_1 + 365)) (wrap64 (x9_1 + 1))) = some (r1, r2) := by rw [if_neg (show ¬ (false = true) by decide)] at H; exact H
      clear H
      have H := H1
      clear H1
      have H' := Aside0.mk H
      clear H
      go_wp2_with (first | ((with_reducible refine gate_callee (f := 40) rfl ?_); refine goesL_ (some 26) rfl rfl Tryd.func40 (by kernel_rfl) rfl #[.int .i64 x9_1] rfl (by (try simp only [List.map_toArray, List.map_cons, List.map_nil]); first | done | rfl | (simp only [List.length_drop, List.length_take]; rfl)) ?_; (with_reducible refine (letterbagref01_Leap.calls x9_1 false _ A7.out).mono ?_); rintro e w' ⟨rfl, ⟨nd, rfl⟩⟩; refine ⟨_, rfl, ?_⟩))
      go_roundg k1
      case measure => have := HK1.out; omega
      case rel => exact ⟨(wrap64 (x8_1 + 365)), (wrap64 (x9_1 + 1)), (by first | rfl | (simp; done) | (simp [*]; done) | (simp; exact (show ∀ a_ b_ : Bool, (a_ == b_) = (!(a_ != b_)) from by decide) _ _) | (rw [Bool.eq_iff_iff]; simp; done) | (simp; rw [Bool.eq_iff_iff]; simp; done)), (by first | rfl | (simp; done) | (simp [*]; done) | (simp; exact (show ∀ a_ b_ : Bool, (a_ == b_) = (!(a_ != b_)) from by decide) _ _) | (rw [Bool.eq_iff_iff]; simp; done) | (simp; rw [Bool.eq_iff_iff]; simp; done)), H', ⟨by have := HK1.out; omega⟩, by repeat (first | exact Drawn0.refl _ | apply Drawn0.step)⟩
    ·rw [if_neg c6] at H
     have c6b0 : decide (x9_1 < a0) = false := decide_eq_false c6
     clear c6
     have H' := Aside0.mk H
     clear H
     go_wp2
     go_loopg [8, 10] k1 (fun kq v8 v10 w' => ∃ (x8_2 : Int) (x10_2 : Int), v8 = .int .i64 x8_2 ∧ v10 = .int .i64 x10_2 ∧ Aside0 (letterbagref01_Day.l1 kq a0 a1 x8_2 x10_2 = some (r1, r2)) ∧ Aside0 (kq ≤ k1) ∧ Drawn0 w w')
     case atStart => exact ⟨(x8_1), (1), (by first | rfl | (simp; done) | (simp [*]; done) | (simp; exact (show ∀ a_ b_ : Bool, (a_ == b_) = (!(a_ != b_)) from by decide) _ _) | (rw [Bool.eq_iff_iff]; simp; done) | (simp; rw [Bool.eq_iff_iff]; simp; done)), (by first | rfl | (simp; done) | (simp [*]; done) | (simp; exact (show ∀ a_ b_ : Bool, (a_ == b_) = (!(a_ != b_)) from by decide) _ _) | (rw [Bool.eq_iff_iff]; simp; done) | (simp; rw [Bool.eq_iff_iff]; simp; done)), H', ⟨Nat.le_refl _⟩, by repeat (first | exact Drawn0.refl _ | apply Drawn0.step)⟩
     case round =>
      clear H'
      try clear p2
      try clear c3
      try clear c4
      try clear c5
      try clear c6
      try clear c6b0
      try clear p6
      try clear c8
      try clear p2
      obtain ⟨x8_2, x10_2, rfl, rfl, HA, HK2, ⟨m2, rfl⟩⟩ := hrel
      cases gk with
      | zero => exact absurd HA.out (by simp [letterbagref01_Day.l1])
      | succ k2 =>
       have H := HA.out
       clear HA
       simp only [letterbagref01_Day.l1] at H
       by_cases c9 : x10_2 < a1
       ·rw [if_pos c9] at H
        have c9b0 : decide (x10_2 < a1) = true := decide_eq_true c9
        clear c9
        replace H := Option.bind_eq_some_iff.mp H
        obtain ⟨t230, A100, H⟩ := H
        replace H : (letterbagref01_Day.l1 k2 a0 a1 (wrap64 (x8_2 + t230)) (wrap64 (x10_2 + 1))) = some (r1, r2) := H
        have A10 := Aside0.mk A100
        clear A100
        have H' := Aside0.mk H
        clear H
        go_wp2_with (first | ((with_reducible refine gate_callee (f := 63) rfl ?_); refine goesL_ (some 37) rfl rfl Tryd.func63 (by kernel_rfl) rfl #[.int .i64 a0, .int .i64 x10_2] rfl (by (try simp only [List.map_toArray, List.map_cons, List.map_nil]); first | done | rfl | (simp only [List.length_drop, List.length_take]; rfl)) ?_; (with_reducible refine (letterbagref01_long.calls a0 x10_2 t230 _ A10.out).mono ?_); rintro e w' ⟨rfl, ⟨nd, rfl⟩⟩; refine ⟨_, rfl, ?_⟩))
        go_roundg k2
        case measure => have := HK1.out; have := HK2.out; omega
        case rel => exact ⟨(wrap64 (x8_2 + t230)), (wrap64 (x10_2 + 1)), (by first | rfl | (simp; done) | (simp [*]; done) | (simp; exact (show ∀ a_ b_ : Bool, (a_ == b_) = (!(a_ != b_)) from by decide) _ _) | (rw [Bool.eq_iff_iff]; simp; done) | (simp; rw [Bool.eq_iff_iff]; simp; done)), (by first | rfl | (simp; done) | (simp [*]; done) | (simp; exact (show ∀ a_ b_ : Bool, (a_ == b_) = (!(a_ != b_)) from by decide) _ _) | (rw [Bool.eq_iff_iff]; simp; done) | (simp; rw [Bool.eq_iff_iff]; simp; done)), H', ⟨by have := HK1.out; have := HK2.out; omega⟩, by repeat (first | exact Drawn0.refl _ | apply Drawn0.step)⟩
       ·rw [if_neg c9] at H
        have c9b0 : decide (x10_2 < a1) = false := decide_eq_false c9
        clear c9
        simp only [Option.some.injEq, Prod.mk.injEq] at H
        obtain ⟨rfl, rfl⟩ := H
        go_wp2
        go_ret2
        exact ⟨by first | rfl | (simp; done) | (simp [*]; done) | (simp; exact (show ∀ a_ b_ : Bool, (a_ == b_) = (!(a_ != b_)) from by decide) _ _), by repeat (first | exact Drawn0.refl _ | apply Drawn0.step)⟩
 ·replace c5 := Bool.eq_false_iff.mpr c5
  subst c5
  have H1 : (some (0, 10)) = some (r1, r2) := by rw [if_neg (show ¬ (false = true) by decide)] at H; exact H
  clear H
  have H := H1
  clear H1
  simp only [Option.some.injEq, Prod.mk.injEq] at H
  obtain ⟨rfl, rfl⟩ := H
  go_enter Tryd.func39, Tryd.ntmps39
  go_wp2_with (first | ((with_reducible refine gate_callee (f := 62) rfl ?_); refine goesL_ (some 14) rfl rfl Tryd.func62 (by kernel_rfl) rfl #[.int .i64 a0, .int .i64 a1, .int .i64 a2] rfl (by (try simp only [List.map_toArray, List.map_cons, List.map_nil]); first | done | rfl | (simp only [List.length_drop, List.length_take]; rfl)) ?_; (with_reducible refine (letterbagref01_date.calls a0 a1 a2 false _ A4.out).mono ?_); rintro e w' ⟨rfl, ⟨nd, rfl⟩⟩; refine ⟨_, rfl, ?_⟩))
  go_ret2
  exact ⟨by first | rfl | (simp; done) | (simp [*]; done) | (simp; exact (show ∀ a_ b_ : Bool, (a_ == b_) = (!(a_ != b_)) from by decide) _ _), by repeat (first | exact Drawn0.refl _ | apply Drawn0.step)⟩
def letterbagref01_within.f (a0 : Int) (a1 : Int) : Option (Int) := if a0 < 0 then (some 2) else (if a0 > a1 then (some 3) else (some 0))
set_option maxHeartbeats 8000000 in
set_option maxRecDepth 100000 in
theorem letterbagref01_within.calls (a0 : Int) (a1 : Int) (r : Int) (w : World) (h : letterbagref01_within.f a0 a1 = some r) :
  Calls Tryd.prog 64 #[.int .i64 a0, .int .i64 a1] w fun e w' => e = .returned (.int .i64 r) ∧ Drawn0 w w' := by
 have H : (if a0 < 0 then (some 2) else (if a0 > a1 then (some 3) else (some 0))) = some r := h
 clear h
 by_cases c3 : a0 < 0
 ·rw [if_pos c3] at H
  have c3b0 : decide (a0 < 0) = true := decide_eq_true c3
  clear c3
  obtain rfl := Option.some.inj H
  go_enter Tryd.func64, Tryd.ntmps64
  go_wp2
  go_ret
  exact ⟨by first | rfl | (simp; done) | (simp [*]; done) | (simp; exact (show ∀ a_ b_ : Bool, (a_ == b_) = (!(a_ != b_)) from by decide) _ _), by repeat (first | exact Drawn0.refl _ | apply Drawn0.step)⟩
 ·rw [if_neg c3] at H
  have c3b0 : decide (a0 < 0) = false := decide_eq_false c3
  clear c3
  by_cases c4 : a0 > a1
  ·rw [if_pos c4] at H
   have c4b0 : decide (a1 < a0) = true := decide_eq_true c4
   clear c4
   obtain rfl := Option.some.inj H
   go_enter Tryd.func64, Tryd.ntmps64
   go_wp2
   go_ret
   exact ⟨by first | rfl | (simp; done) | (simp [*]; done) | (simp; exact (show ∀ a_ b_ : Bool, (a_ == b_) = (!(a_ != b_)) from by decide) _ _), by repeat (first | exact Drawn0.refl _ | apply Drawn0.step)⟩
  ·rw [if_neg c4] at H
   have c4b0 : decide (a1 < a0) = false := decide_eq_false c4
   clear c4
   obtain rfl := Option.some.inj H
   go_enter Tryd.func64, Tryd.ntmps64
   go_wp2
   go_ret
   exact ⟨by first | rfl | (simp; done) | (simp [*]; done) | (simp; exact (show ∀ a_ b_ : Bool, (a_ == b_) = (!(a_ != b_)) from by decide) _ _), by repeat (first | exact Drawn0.refl _ | apply Drawn0.step)⟩
mutual
def letterbagref01_Date.j1 : Nat → Int → Int → Int → Option (Int × Int × Int × Int)
 | 0, _, _, _ => none
 | k + 1, x0, x7, x8 => letterbagref01_Date.l1 k x0 x7 x8
def letterbagref01_Date.l1 : Nat → Int → Int → Int → Option (Int × Int × Int × Int)
 | 0, _, _, _ => none
 | k + 1, x0, x7, x8 => (letterbagref01_long.f x7 x8).bind fun t233 => (if x0 ≥ t233 then ((letterbagref01_long.f x7 x8).bind fun t234 => (letterbagref01_Date.l1 k (wrap64 (x0 - t234)) x7 (wrap64 (x8 + 1)))) else (some (x7, x8, wrap64 (x0 + 1), 0)))
def letterbagref01_Date.l0 : Nat → Int → Int → Int → Option (Int × Int × Int × Int)
 | 0, _, _, _ => none
 | k + 1, x0, x7, x8 => (letterbagref01_Leap.f x7).bind fun t232 => (if t232 = true then (if x0 < 366 then (letterbagref01_Date.j1 k x0 x7 x8) else (letterbagref01_Date.l0 k (wrap64 (x0 - 366)) (wrap64 (x7 + 1)) x8)) else (if x0 < 365 then (letterbagref01_Date.j1 k x0 x7 x8) else (letterbagref01_Date.l0 k (wrap64 (x0 - 365)) (wrap64 (x7 + 1)) x8)))
end
def letterbagref01_Date.f (k : Nat) (a0 : Int) : Option (Int × Int × Int × Int) := (letterbagref01_within.f a0 730484).bind fun t231 => (if t231 = 0 then (letterbagref01_Date.l0 k a0 2001 1) else (some (0, 0, 0, t231)))
set_option maxHeartbeats 8000000 in
set_option maxRecDepth 100000 in
theorem letterbagref01_Date.calls (k : Nat) (a0 : Int) (r1 : Int) (r2 : Int) (r3 : Int) (r4 : Int) (w : World) (h : letterbagref01_Date.f k a0 = some (r1, r2, r3, r4)) :
  Calls Tryd.prog 41 #[.int .i64 a0] w fun e w' => e = .returned (.tuple #[.int .i64 r1, .int .i64 r2, .int .i64 r3, .int .i64 r4]) ∧ Drawn0 w w' := by
 have H : ((letterbagref01_within.f a0 730484).bind fun t231 => (if t231 = 0 then (letterbagref01_Date.l0 k a0 2001 1) else (some (0, 0, 0, t231)))) = some (r1, r2, r3, r4) := h
 clear h
 replace H := Option.bind_eq_some_iff.mp H
 obtain ⟨t231, A20, H⟩ := H
 replace H : (if t231 = 0 then (letterbagref01_Date.l0 k a0 2001 1) else (some (0, 0, 0, t231))) = some (r1, r2, r3, r4) := H
 have A2 := Aside0.mk A20
 clear A20
 by_cases c3 : t231 = 0
 ·rw [if_pos c3] at H
  have c3b0 : (t231 == 0) = true := beq_iff_eq.mpr c3
  have c3b1 : (t231 != 0) = false := bne_eq_false_iff_eq.mpr c3
  clear c3
  have HC4 := Aside0.mk H
  clear H
  go_enter Tryd.func41, Tryd.ntmps41
  go_upto_block 0 with (first | ((with_reducible refine gate_callee (f := 64) rfl ?_); refine goesL_ (some 11) rfl rfl Tryd.func64 (by kernel_rfl) rfl #[.int .i64 a0, .int .i64 730484] rfl (by (try simp only [List.map_toArray, List.map_cons, List.map_nil]); first | done | rfl | (simp only [List.length_drop, List.length_take]; rfl)) ?_; (with_reducible refine (letterbagref01_within.calls a0 730484 t231 _ A2.out).mono ?_); rintro e w' ⟨rfl, ⟨nd, rfl⟩⟩; refine ⟨_, rfl, ?_⟩))
  (try simp only [Act.put, List.setIfInBounds_toArray, List.set_cons_zero, List.set_cons_succ])
  go_cut [0, 7] (fun v0 v7 wc => ∃ (kq : Nat) (x0_3 : Int) (x7_3 : Int), v0 = .int .i64 x0_3 ∧ v7 = .int .i64 x7_3 ∧ Aside0 (letterbagref01_Date.j1 kq x0_3 x7_3 1 = some (r1, r2, r3, r4)) ∧ Aside0 (kq ≤ k) ∧ Drawn0 w wc)
  case first =>
   have H := HC4.out
   clear HC4
   have H' := Aside0.mk H
   clear H
   go_wp2
   go_loopg [0, 7] k (fun kq v0 v7 w' => ∃ (x0_1 : Int) (x7_1 : Int), v0 = .int .i64 x0_1 ∧ v7 = .int .i64 x7_1 ∧ Aside0 (letterbagref01_Date.l0 kq x0_1 x7_1 1 = some (r1, r2, r3, r4)) ∧ Aside0 (kq ≤ k) ∧ Drawn0 w w')
   case atStart => exact ⟨(a0), (2001), (by first | rfl | (simp; done) | (simp [*]; done) | (simp; exact (show ∀ a_ b_ : Bool, (a_ == b_) = (!(a_ != b_)) from by decide) _ _) | (rw [Bool.eq_iff_iff]; simp; done) | (simp; rw [Bool.eq_iff_iff]; simp; done)), (by first | rfl | (simp; done) | (simp [*]; done) | (simp; exact (show ∀ a_ b_ : Bool, (a_ == b_) = (!(a_ != b_)) from by decide) _ _) | (rw [Bool.eq_iff_iff]; simp; done) | (simp; rw [Bool.eq_iff_iff]; simp; done)), H', ⟨Nat.le_refl _⟩, by repeat (first | exact Drawn0.refl _ | apply Drawn0.step)⟩
   case round =>
    clear H'
    try clear p2
    try clear c3
    try clear c3b0
    try clear c3b1
    try clear c4
    obtain ⟨x0_1, x7_1, rfl, rfl, HA, HK1, ⟨m1, rfl⟩⟩ := hrel
    cases gk with
    | zero => exact absurd HA.out (by simp [letterbagref01_Date.l0])
    | succ k1 =>
     have H := HA.out
     clear HA
     simp only [letterbagref01_Date.l0] at H
     replace H := Option.bind_eq_some_iff.mp H
     obtain ⟨t232, A50, H⟩ := H
     replace H : (if t232 = true then (if x0_1 < 366 then (letterbagref01_Date.j1 k1 x0_1 x7_1 1) else (letterbagref01_Date.l0 k1 (wrap64 (x0_1 - 366)) (wrap64 (x7_1 + 1)) 1)) else (if x0_1 < 365 then (letterbagref01_Date.j1 k1 x0_1 x7_1 1) else (letterbagref01_Date.l0 k1 (wrap64 (x0_1 - 365)) (wrap64 (x7_1 + 1)) 1))) = some (r1, r2, r3, r4) := H
     have A5 := Aside0.mk A50
     clear A50
     by_cases c6 : t232 = true
     ·subst c6
      have H1 : (if x0_1 < 366 then (letterbagref01_Date.j1 k1 x0_1 x7_1 1) else (letterbagref01_Date.l0 k1 (wrap64 (x0_1 - 366)) (wrap64 (x7_1 + 1)) 1)) = some (r1, r2, r3, r4) := by rw [if_pos rfl] at H; exact H
      clear H
      have H := H1
      clear H1
      by_cases c7 : x0_1 < 366
      ·rw [if_pos c7] at H
       have c7b0 : decide (x0_1 < 366) = true := decide_eq_true c7
       clear c7
       (first | rw [c7b0] | (simp only [i64_w, i32_w]; rw [c7b0]) | skip)
       have H' := Aside0.mk H
       clear H
       go_wp2_with (first | ((with_reducible refine gate_callee (f := 40) rfl ?_); refine goesL_ (some 16) rfl rfl Tryd.func40 (by kernel_rfl) rfl #[.int .i64 x7_1] rfl (by (try simp only [List.map_toArray, List.map_cons, List.map_nil]); first | done | rfl | (simp only [List.length_drop, List.length_take]; rfl)) ?_; (with_reducible refine (letterbagref01_Leap.calls x7_1 true _ A5.out).mono ?_); rintro e w' ⟨rfl, ⟨nd, rfl⟩⟩; refine ⟨_, rfl, ?_⟩))
       go_meet
       case rel => exact ⟨_, (x0_1), (x7_1), (by first | rfl | (simp; done) | (simp [*]; done) | (simp; exact (show ∀ a_ b_ : Bool, (a_ == b_) = (!(a_ != b_)) from by decide) _ _) | (rw [Bool.eq_iff_iff]; simp; done) | (simp; rw [Bool.eq_iff_iff]; simp; done)), (by first | rfl | (simp; done) | (simp [*]; done) | (simp; exact (show ∀ a_ b_ : Bool, (a_ == b_) = (!(a_ != b_)) from by decide) _ _) | (rw [Bool.eq_iff_iff]; simp; done) | (simp; rw [Bool.eq_iff_iff]; simp; done)), H', ⟨by have := HK1.out; first | omega | exact Nat.le_refl _⟩, by repeat (first | exact Drawn0.refl _ | apply Drawn0.step)⟩
      ·rw [if_neg c7] at H
       have c7b0 : decide (x0_1 < 366) = false := decide_eq_false c7
       clear c7
       (first | rw [c7b0] | (simp only [i64_w, i32_w]; rw [c7b0]) | skip)
       have H' := Aside0.mk H
       clear H
       go_wp2_with (first | ((with_reducible refine gate_callee (f := 40) rfl ?_); refine goesL_ (some 16) rfl rfl Tryd.func40 (by kernel_rfl) rfl #[.int .i64 x7_1] rfl (by (try simp only [List.map_toArray, List.map_cons, List.map_nil]); first | done | rfl | (simp only [List.length_drop, List.length_take]; rfl)) ?_; (with_reducible refine (letterbagref01_Leap.calls x7_1 true _ A5.out).mono ?_); rintro e w' ⟨rfl, ⟨nd, rfl⟩⟩; refine ⟨_, rfl, ?_⟩))
       go_roundg k1
       case measure => have := HK1.out; omega
       case rel => exact ⟨(wrap64 (x0_1 - 366)), (wrap64 (x7_1 + 1)), (by first | rfl | (simp; done) | (simp [*]; done) | (simp; exact (show ∀ a_ b_ : Bool, (a_ == b_) = (!(a_ != b_)) from by decide) _ _) | (rw [Bool.eq_iff_iff]; simp; done) | (simp; rw [Bool.eq_iff_iff]; simp; done)), (by first | rfl | (simp; done) | (simp [*]; done) | (simp; exact (show ∀ a_ b_ : Bool, (a_ == b_) = (!(a_ != b_)) from by decide) _ _) | (rw [Bool.eq_iff_iff]; simp; done) | (simp; rw [Bool.eq_iff_iff]; simp; done)), H', ⟨by have := HK1.out; omega⟩, by repeat (first | exact Drawn0.refl _ | apply Drawn0.step)⟩
     ·replace c6 := Bool.eq_false_iff.mpr c6
      subst c6
      have H1 : (if x0_1 < 365 then (letterbagref01_Date.j1 k1 x0_1 x7_1 1) else (letterbagref01_Date.l0 k1 (wrap64 (x0_1 - 365)) (wrap64 (x7_1 + 1)) 1)) = some (r1, r2, r3, r4) := by rw [if_neg (show ¬ (false = true) by decide)] at H; exact H
      clear H
      have H := H1
      clear H1
      by_cases c8 : x0_1 < 365
      ·rw [if_pos c8] at H
       have c8b0 : decide (x0_1 < 365) = true := decide_eq_true c8
       clear c8
       have H' := Aside0.mk H
       clear H
       go_wp2_with (first | ((with_reducible refine gate_callee (f := 40) rfl ?_); refine goesL_ (some 16) rfl rfl Tryd.func40 (by kernel_rfl) rfl #[.int .i64 x7_1] rfl (by (try simp only [List.map_toArray, List.map_cons, List.map_nil]); first | done | rfl | (simp only [List.length_drop, List.length_take]; rfl)) ?_; (with_reducible refine (letterbagref01_Leap.calls x7_1 false _ A5.out).mono ?_); rintro e w' ⟨rfl, ⟨nd, rfl⟩⟩; refine ⟨_, rfl, ?_⟩))
       go_meet
       case rel => exact ⟨_, (x0_1), (x7_1), (by first | rfl | (simp; done) | (simp [*]; done) | (simp; exact (show ∀ a_ b_ : Bool, (a_ == b_) = (!(a_ != b_)) from by decide) _ _) | (rw [Bool.eq_iff_iff]; simp; done) | (simp; rw [Bool.eq_iff_iff]; simp; done)), (by first | rfl | (simp; done) | (simp [*]; done) | (simp; exact (show ∀ a_ b_ : Bool, (a_ == b_) = (!(a_ != b_)) from by decide) _ _) | (rw [Bool.eq_iff_iff]; simp; done) | (simp; rw [Bool.eq_iff_iff]; simp; done)), H', ⟨by have := HK1.out; first | omega | exact Nat.le_refl _⟩, by repeat (first | exact Drawn0.refl _ | apply Drawn0.step)⟩
      ·rw [if_neg c8] at H
       have c8b0 : decide (x0_1 < 365) = false := decide_eq_false c8
       clear c8
       have H' := Aside0.mk H
       clear H
       go_wp2_with (first | ((with_reducible refine gate_callee (f := 40) rfl ?_); refine goesL_ (some 16) rfl rfl Tryd.func40 (by kernel_rfl) rfl #[.int .i64 x7_1] rfl (by (try simp only [List.map_toArray, List.map_cons, List.map_nil]); first | done | rfl | (simp only [List.length_drop, List.length_take]; rfl)) ?_; (with_reducible refine (letterbagref01_Leap.calls x7_1 false _ A5.out).mono ?_); rintro e w' ⟨rfl, ⟨nd, rfl⟩⟩; refine ⟨_, rfl, ?_⟩))
       go_roundg k1
       case measure => have := HK1.out; omega
       case rel => exact ⟨(wrap64 (x0_1 - 365)), (wrap64 (x7_1 + 1)), (by first | rfl | (simp; done) | (simp [*]; done) | (simp; exact (show ∀ a_ b_ : Bool, (a_ == b_) = (!(a_ != b_)) from by decide) _ _) | (rw [Bool.eq_iff_iff]; simp; done) | (simp; rw [Bool.eq_iff_iff]; simp; done)), (by first | rfl | (simp; done) | (simp [*]; done) | (simp; exact (show ∀ a_ b_ : Bool, (a_ == b_) = (!(a_ != b_)) from by decide) _ _) | (rw [Bool.eq_iff_iff]; simp; done) | (simp; rw [Bool.eq_iff_iff]; simp; done)), H', ⟨by have := HK1.out; omega⟩, by repeat (first | exact Drawn0.refl _ | apply Drawn0.step)⟩
  case rest =>
   clear HC4
   try clear p2
   try clear c3
   try clear c3b0
   try clear c3b1
   try clear c4
   try clear c6
   try clear p6
   try clear c7
   try clear c7b0
   try clear c8
   try clear c8b0
   try clear p2
   obtain ⟨kq, x0_3, x7_3, rfl, rfl, HA, HJ3, ⟨mc3, rfl⟩⟩ := hcut
   cases kq with
   | zero => exact absurd HA.out (by simp [letterbagref01_Date.j1])
   | succ kj3 =>
    have H := HA.out
    clear HA
    simp only [letterbagref01_Date.j1] at H
    have H' := Aside0.mk H
    clear H
    go_wp2
    go_loopg [0, 8] kj3 (fun kq v0 v8 w' => ∃ (x0_2 : Int) (x8_2 : Int), v0 = .int .i64 x0_2 ∧ v8 = .int .i64 x8_2 ∧ Aside0 (letterbagref01_Date.l1 kq x0_2 x7_3 x8_2 = some (r1, r2, r3, r4)) ∧ Aside0 (kq ≤ kj3) ∧ Drawn0 w w')
    case atStart => exact ⟨(x0_3), (1), (by first | rfl | (simp; done) | (simp [*]; done) | (simp; exact (show ∀ a_ b_ : Bool, (a_ == b_) = (!(a_ != b_)) from by decide) _ _) | (rw [Bool.eq_iff_iff]; simp; done) | (simp; rw [Bool.eq_iff_iff]; simp; done)), (by first | rfl | (simp; done) | (simp [*]; done) | (simp; exact (show ∀ a_ b_ : Bool, (a_ == b_) = (!(a_ != b_)) from by decide) _ _) | (rw [Bool.eq_iff_iff]; simp; done) | (simp; rw [Bool.eq_iff_iff]; simp; done)), H', ⟨Nat.le_refl _⟩, by repeat (first | exact Drawn0.refl _ | apply Drawn0.step)⟩
    case round =>
     clear H'
     try clear p2
     try clear c3
     try clear c3b0
     try clear c3b1
     try clear c4
     try clear c6
     try clear p6
     try clear c7
     try clear c7b0
     try clear c8
     try clear c8b0
     try clear p2
     try clear p6
     obtain ⟨x0_2, x8_2, rfl, rfl, HA, HK2, ⟨m2, rfl⟩⟩ := hrel
     cases gk with
     | zero => exact absurd HA.out (by simp [letterbagref01_Date.l1])
     | succ k2 =>
      have H := HA.out
      clear HA
      simp only [letterbagref01_Date.l1] at H
      replace H := Option.bind_eq_some_iff.mp H
      obtain ⟨t233, A90, H⟩ := H
      replace H : (if x0_2 ≥ t233 then ((letterbagref01_long.f x7_3 x8_2).bind fun t234 => (letterbagref01_Date.l1 k2 (wrap64 (x0_2 - t234)) x7_3 (wrap64 (x8_2 + 1)))) else (some (x7_3, x8_2, wrap64 (x0_2 + 1), 0))) = some (r1, r2, r3, r4) := H
      have A9 := Aside0.mk A90
      clear A90
      by_cases c10 : x0_2 ≥ t233
      ·rw [if_pos c10] at H
       have c10b0 : decide (t233 ≤ x0_2) = true := decide_eq_true c10
       clear c10
       replace H := Option.bind_eq_some_iff.mp H
       obtain ⟨t234, A110, H⟩ := H
       replace H : (letterbagref01_Date.l1 k2 (wrap64 (x0_2 - t234)) x7_3 (wrap64 (x8_2 + 1))) = some (r1, r2, r3, r4) := H
       have A11 := Aside0.mk A110
       clear A110
       have H' := Aside0.mk H
       clear H
       go_wp2_with (first | ((with_reducible refine gate_callee (f := 63) rfl ?_); refine goesL_ (some 28) rfl rfl Tryd.func63 (by kernel_rfl) rfl #[.int .i64 x7_3, .int .i64 x8_2] rfl (by (try simp only [List.map_toArray, List.map_cons, List.map_nil]); first | done | rfl | (simp only [List.length_drop, List.length_take]; rfl)) ?_; (with_reducible refine (letterbagref01_long.calls x7_3 x8_2 t233 _ A9.out).mono ?_); rintro e w' ⟨rfl, ⟨nd, rfl⟩⟩; refine ⟨_, rfl, ?_⟩) | ((with_reducible refine gate_callee (f := 63) rfl ?_); refine goesL_ (some 33) rfl rfl Tryd.func63 (by kernel_rfl) rfl #[.int .i64 x7_3, .int .i64 x8_2] rfl (by (try simp only [List.map_toArray, List.map_cons, List.map_nil]); first | done | rfl | (simp only [List.length_drop, List.length_take]; rfl)) ?_; (with_reducible refine (letterbagref01_long.calls x7_3 x8_2 t234 _ A11.out).mono ?_); rintro e w' ⟨rfl, ⟨nd, rfl⟩⟩; refine ⟨_, rfl, ?_⟩))
       go_roundg k2
       case measure => have := HJ3.out; have := HK2.out; omega
       case rel => exact ⟨(wrap64 (x0_2 - t234)), (wrap64 (x8_2 + 1)), (by first | rfl | (simp; done) | (simp [*]; done) | (simp; exact (show ∀ a_ b_ : Bool, (a_ == b_) = (!(a_ != b_)) from by decide) _ _) | (rw [Bool.eq_iff_iff]; simp; done) | (simp; rw [Bool.eq_iff_iff]; simp; done)), (by first | rfl | (simp; done) | (simp [*]; done) | (simp; exact (show ∀ a_ b_ : Bool, (a_ == b_) = (!(a_ != b_)) from by decide) _ _) | (rw [Bool.eq_iff_iff]; simp; done) | (simp; rw [Bool.eq_iff_iff]; simp; done)), H', ⟨by have := HJ3.out; have := HK2.out; omega⟩, by repeat (first | exact Drawn0.refl _ | apply Drawn0.step)⟩
      ·rw [if_neg c10] at H
       have c10b0 : decide (t233 ≤ x0_2) = false := decide_eq_false c10
       clear c10
       simp only [Option.some.injEq, Prod.mk.injEq] at H
       obtain ⟨rfl, rfl, rfl, rfl⟩ := H
       go_wp2_with (first | ((with_reducible refine gate_callee (f := 63) rfl ?_); refine goesL_ (some 28) rfl rfl Tryd.func63 (by kernel_rfl) rfl #[.int .i64 x7_3, .int .i64 x8_2] rfl (by (try simp only [List.map_toArray, List.map_cons, List.map_nil]); first | done | rfl | (simp only [List.length_drop, List.length_take]; rfl)) ?_; (with_reducible refine (letterbagref01_long.calls x7_3 x8_2 t233 _ A9.out).mono ?_); rintro e w' ⟨rfl, ⟨nd, rfl⟩⟩; refine ⟨_, rfl, ?_⟩))
       refine bodyPost_ret (results_list (rs := [.tmp 2, .tmp 3, .tmp 4, .tmp 5]) rfl (by simp) (.tmp (.tmp (.tmp (.tmp .nil))))) rfl ?_
       exact ⟨by first | rfl | (simp; done) | (simp [*]; done) | (simp; exact (show ∀ a_ b_ : Bool, (a_ == b_) = (!(a_ != b_)) from by decide) _ _), by repeat (first | exact Drawn0.refl _ | apply Drawn0.step)⟩
 ·rw [if_neg c3] at H
  have c3b0 : (t231 == 0) = false := beq_eq_false_iff_ne.mpr c3
  have c3b1 : (t231 != 0) = true := bne_iff_ne.mpr c3
  simp only [Option.some.injEq, Prod.mk.injEq] at H
  obtain ⟨rfl, rfl, rfl, rfl⟩ := H
  go_enter Tryd.func41, Tryd.ntmps41
  go_wp2_with (first | ((with_reducible refine gate_callee (f := 64) rfl ?_); refine goesL_ (some 11) rfl rfl Tryd.func64 (by kernel_rfl) rfl #[.int .i64 a0, .int .i64 730484] rfl (by (try simp only [List.map_toArray, List.map_cons, List.map_nil]); first | done | rfl | (simp only [List.length_drop, List.length_take]; rfl)) ?_; (with_reducible refine (letterbagref01_within.calls a0 730484 t231 _ A2.out).mono ?_); rintro e w' ⟨rfl, ⟨nd, rfl⟩⟩; refine ⟨_, rfl, ?_⟩))
  refine bodyPost_ret (results_list (rs := [.tmp 2, .tmp 3, .tmp 4, .tmp 5]) rfl (by simp) (.tmp (.tmp (.tmp (.tmp .nil))))) rfl ?_
  exact ⟨by first | rfl | (simp; done) | (simp [*]; done) | (simp; exact (show ∀ a_ b_ : Bool, (a_ == b_) = (!(a_ != b_)) from by decide) _ _), by repeat (first | exact Drawn0.refl _ | apply Drawn0.step)⟩
def letterbagref01_digits.l0 : Nat → Int → Int → ByteArray → Int → Option (ByteArray)
 | 0, _, _, _, _ => none
 | k + 1, x0, x1, x5, x6 => if x6 < x1 then ((some (([(wrap64 (48 + (Int.tmod x0 10))) % 256] : List Int) : List Int)).bind fun y235 => (if (strOfNums y235).size + x5.size ≤ 9223372036854775807 then (letterbagref01_digits.l0 k (wrap64 (Int.tdiv x0 10)) x1 ((strOfNums y235) ++ x5) (wrap64 (x6 + 1))) else (none))) else (some x5)
def letterbagref01_digits.f (k : Nat) (a0 : Int) (a1 : Int) : Option (ByteArray) := letterbagref01_digits.l0 k a0 a1 (⟨#[]⟩ : ByteArray) 0
set_option maxHeartbeats 8000000 in
set_option maxRecDepth 100000 in
theorem letterbagref01_digits.calls (k : Nat) (a0 : Int) (a1 : Int) (r : ByteArray) (w : World) (h : letterbagref01_digits.f k a0 a1 = some r) :
  Calls Tryd.prog 65 #[.int .i64 a0, .int .i64 a1] w fun e w' => e = .returned (.string r) ∧ Below w.heap.size w w' := by
 have HB := Aside0.mk (Below.refl w.heap.size w)
 have H : (letterbagref01_digits.l0 k a0 a1 (⟨#[]⟩ : ByteArray) 0) = some r := h
 clear h
 have H' := Aside0.mk H
 clear H
 go_enter Tryd.func65, Tryd.ntmps65
 go_wp2
 go_loopg [0, 5, 6] k (fun kq v0 v5 v6 w' => ∃ (x0_1 : Int) (x5_1 : ByteArray) (x6_1 : Int), v0 = .int .i64 x0_1 ∧ v5 = .string x5_1 ∧ v6 = .int .i64 x6_1 ∧ Aside0 (letterbagref01_digits.l0 kq x0_1 a1 x5_1 x6_1 = some r) ∧ Aside0 (kq ≤ k) ∧ Aside0 (Below w.heap.size w w'))
 case atStart => exact ⟨(a0), ((⟨#[]⟩ : ByteArray)), (0), (by first | rfl | (simp; done) | (simp [*]; done) | (simp; exact (show ∀ a_ b_ : Bool, (a_ == b_) = (!(a_ != b_)) from by decide) _ _) | (rw [Bool.eq_iff_iff]; simp; done) | (simp; rw [Bool.eq_iff_iff]; simp; done)), (by first | rfl | (simp; done) | (simp [*]; done) | (simp; exact (show ∀ a_ b_ : Bool, (a_ == b_) = (!(a_ != b_)) from by decide) _ _) | (rw [Bool.eq_iff_iff]; simp; done) | (simp; rw [Bool.eq_iff_iff]; simp; done)), (by first | rfl | (simp; done) | (simp [*]; done) | (simp; exact (show ∀ a_ b_ : Bool, (a_ == b_) = (!(a_ != b_)) from by decide) _ _) | (rw [Bool.eq_iff_iff]; simp; done) | (simp; rw [Bool.eq_iff_iff]; simp; done)), H', ⟨Nat.le_refl _⟩, ⟨by repeat (first | (with_reducible first | exact HB.out | apply below_alloc | apply pw_below_drewN | apply below_drew1) | exact HB.out)⟩⟩
 case round =>
  clear H'
  try clear p2
  obtain ⟨x0_1, x5_1, x6_1, rfl, rfl, rfl, HA, HK1, HB⟩ := hrel
  cases gk with
  | zero => exact absurd HA.out (by simp [letterbagref01_digits.l0])
  | succ k1 =>
   have H := HA.out
   clear HA
   simp only [letterbagref01_digits.l0] at H
   by_cases c3 : x6_1 < a1
   ·rw [if_pos c3] at H
    have c3b0 : decide (x6_1 < a1) = true := decide_eq_true c3
    clear c3
    obtain ⟨y235, hy235⟩ : ∃ y_ : List Int, y_ = (([(wrap64 (48 + (Int.tmod x0_1 10))) % 256] : List Int)) := ⟨_, rfl⟩
    replace H : (if (strOfNums y235).size + x5_1.size ≤ 9223372036854775807 then (letterbagref01_digits.l0 k1 (wrap64 (Int.tdiv x0_1 10)) a1 ((strOfNums y235) ++ x5_1) (wrap64 (x6_1 + 1))) else (none)) = some r := by first | (rw [hy235]; with_reducible exact H) | (have H2_ := (Option.bind_some _ _).symm.trans H; rw [hy235]; with_reducible exact H2_) | (have H2_ := (Option.bind_some _ _).symm.trans H; with_reducible exact H2_) | with_reducible exact H | (rw [hy235]; exact H) | exact H
    have Ny235 := Aside0.mk hy235
    clear hy235
    by_cases c4 : (strOfNums y235).size + x5_1.size ≤ 9223372036854775807
    ·rw [if_pos c4] at H
     have c4b0 := eq_true c4
     have c4b1 : decide ((strOfNums y235).size + x5_1.size ≤ 9223372036854775807) = true := decide_eq_true c4
     try have c4b2 : (9223372036854775807 < (strOfNums y235).size + x5_1.size) = False := eq_false (Nat.not_lt.2 c4)
     have H' := Aside0.mk H
     clear H
     go_wp2_with (first | ((with_reducible refine gate_dst (N := 16) rfl ?_); refine Kd.R_lit (Kd.int .u8) _ 5 ?hg (N := 16) ?hd (xs := ([(wrap64 (48 + (Int.tmod x0_1 10))) % 256] : List Int)) (inner := [.int .u8 ((wrap64 (48 + (Int.tmod x0_1 10))) % 256)]) (ok := fun _ => True) (okp := fun _ => True) ?hr ?hp (fun _ hk => hk) trivial (Below.refl _ _) (Nat.le_refl _) (by simp) ?_; (case hd => rfl); (case hg => rfl); (case hr => first | (go_simp; done) | (go_simp; rfl)); (case hp => exact (Reps.one (show Kd.M (Kd.int .u8) _ _ _ ((wrap64 (48 + (Int.tmod x0_1 10))) % 256) [.int .u8 ((wrap64 (48 + (Int.tmod x0_1 10))) % 256)] from rfl) (Reps.none _ _))); intro v236 w5 ho6 hb hg_ hnew_; clear hg_ hnew_; (first | rw [← Ny235.out] at ho6 | (simp only [Int.reduceToNat] at ho6; rw [← Ny235.out] at ho6)); have n0_ := Aside0.mk (Kd.R_lower ho6 (below_size (by repeat (first | (with_reducible first | exact HB.out | apply below_alloc | apply pw_below_drewN | apply below_drew1) | exact HB.out)))); have n1_ := Aside0.mk (below_step (by repeat (first | (with_reducible first | exact HB.out | apply below_alloc | apply pw_below_drewN | apply below_drew1) | exact HB.out)) hb); clear HB; have HO237 := n0_; have HB := n1_; clear n0_ n1_; clear hb ho6; have hcv7 := own_string (P := Tryd.prog) Tryd.underlying27 Tryd.underlying5 Tryd.underlying9 (Kd.own_of_R HO237.out)))
     go_roundg k1
     case measure => have := HK1.out; omega
     case rel => exact ⟨(wrap64 (Int.tdiv x0_1 10)), ((strOfNums y235) ++ x5_1), (wrap64 (x6_1 + 1)), (by first | rfl | (simp; done) | (simp [*]; done) | (simp; exact (show ∀ a_ b_ : Bool, (a_ == b_) = (!(a_ != b_)) from by decide) _ _) | (rw [Bool.eq_iff_iff]; simp; done) | (simp; rw [Bool.eq_iff_iff]; simp; done)), (by first | rfl | (simp; done) | (simp [*]; done) | (simp; exact (show ∀ a_ b_ : Bool, (a_ == b_) = (!(a_ != b_)) from by decide) _ _) | (rw [Bool.eq_iff_iff]; simp; done) | (simp; rw [Bool.eq_iff_iff]; simp; done)), (by first | rfl | (simp; done) | (simp [*]; done) | (simp; exact (show ∀ a_ b_ : Bool, (a_ == b_) = (!(a_ != b_)) from by decide) _ _) | (rw [Bool.eq_iff_iff]; simp; done) | (simp; rw [Bool.eq_iff_iff]; simp; done)), H', ⟨by have := HK1.out; omega⟩, ⟨by repeat (first | (with_reducible first | exact HB.out | apply below_alloc | apply pw_below_drewN | apply below_drew1) | exact HB.out)⟩⟩
    ·rw [if_neg c4] at H
     exact absurd H (by simp)
   ·rw [if_neg c3] at H
    have c3b0 : decide (x6_1 < a1) = false := decide_eq_false c3
    clear c3
    obtain rfl := Option.some.inj H
    go_wp2
    go_ret
    exact ⟨by first | rfl | (simp [errW_none, errW_some] <;> rfl) | (simp [*, errW_none, errW_some] <;> rfl), by repeat (first | (with_reducible first | exact HB.out | apply below_alloc | apply pw_below_drewN | apply below_drew1) | exact HB.out)⟩
def letterbagref01_Text.f (k : Nat) (a0 : Int) : Option (ByteArray × Int) := (letterbagref01_Date.f k a0).bind fun bt238 => (if bt238.2.2.2 = 0 then ((letterbagref01_digits.f k bt238.1 4).bind fun t242 => (if t242.size + 1 ≤ 9223372036854775807 then ((letterbagref01_digits.f k bt238.2.1 2).bind fun t243 => (if (t242 ++ (⟨#[45]⟩ : ByteArray)).size + t243.size ≤ 9223372036854775807 then (if ((t242 ++ (⟨#[45]⟩ : ByteArray)) ++ t243).size + 1 ≤ 9223372036854775807 then ((letterbagref01_digits.f k bt238.2.2.1 2).bind fun t244 => (if (((t242 ++ (⟨#[45]⟩ : ByteArray)) ++ t243) ++ (⟨#[45]⟩ : ByteArray)).size + t244.size ≤ 9223372036854775807 then (some ((((t242 ++ (⟨#[45]⟩ : ByteArray)) ++ t243) ++ (⟨#[45]⟩ : ByteArray)) ++ t244, 0)) else (none))) else (none)) else (none))) else (none))) else (some ((⟨#[]⟩ : ByteArray), bt238.2.2.2)))
set_option maxHeartbeats 8000000 in
set_option maxRecDepth 100000 in
theorem letterbagref01_Text.calls (k : Nat) (a0 : Int) (r1 : ByteArray) (r2 : Int) (w : World) (h : letterbagref01_Text.f k a0 = some (r1, r2)) :
  Calls Tryd.prog 43 #[.int .i64 a0] w fun e w' => e = .returned (.tuple #[.string r1, .int .i64 r2]) ∧ Below w.heap.size w w' := by
 have HB := Aside0.mk (Below.refl w.heap.size w)
 have H : ((letterbagref01_Date.f k a0).bind fun bt238 => (if bt238.2.2.2 = 0 then ((letterbagref01_digits.f k bt238.1 4).bind fun t242 => (if t242.size + 1 ≤ 9223372036854775807 then ((letterbagref01_digits.f k bt238.2.1 2).bind fun t243 => (if (t242 ++ (⟨#[45]⟩ : ByteArray)).size + t243.size ≤ 9223372036854775807 then (if ((t242 ++ (⟨#[45]⟩ : ByteArray)) ++ t243).size + 1 ≤ 9223372036854775807 then ((letterbagref01_digits.f k bt238.2.2.1 2).bind fun t244 => (if (((t242 ++ (⟨#[45]⟩ : ByteArray)) ++ t243) ++ (⟨#[45]⟩ : ByteArray)).size + t244.size ≤ 9223372036854775807 then (some ((((t242 ++ (⟨#[45]⟩ : ByteArray)) ++ t243) ++ (⟨#[45]⟩ : ByteArray)) ++ t244, 0)) else (none))) else (none)) else (none))) else (none))) else (some ((⟨#[]⟩ : ByteArray), bt238.2.2.2)))) = some (r1, r2) := h
 clear h
 replace H := Option.bind_eq_some_iff.mp H
 obtain ⟨⟨t238, t239, t240, t241⟩, A20, H⟩ := H
 replace H : (if t241 = 0 then ((letterbagref01_digits.f k t238 4).bind fun t242 => (if t242.size + 1 ≤ 9223372036854775807 then ((letterbagref01_digits.f k t239 2).bind fun t243 => (if (t242 ++ (⟨#[45]⟩ : ByteArray)).size + t243.size ≤ 9223372036854775807 then (if ((t242 ++ (⟨#[45]⟩ : ByteArray)) ++ t243).size + 1 ≤ 9223372036854775807 then ((letterbagref01_digits.f k t240 2).bind fun t244 => (if (((t242 ++ (⟨#[45]⟩ : ByteArray)) ++ t243) ++ (⟨#[45]⟩ : ByteArray)).size + t244.size ≤ 9223372036854775807 then (some ((((t242 ++ (⟨#[45]⟩ : ByteArray)) ++ t243) ++ (⟨#[45]⟩ : ByteArray)) ++ t244, 0)) else (none))) else (none)) else (none))) else (none))) else (some ((⟨#[]⟩ : ByteArray), t241))) = some (r1, r2) := H
 have A2 := Aside0.mk A20
 clear A20
 by_cases c3 : t241 = 0
 ·rw [if_pos c3] at H
  have c3b0 : (t241 == 0) = true := beq_iff_eq.mpr c3
  have c3b1 : (t241 != 0) = false := bne_eq_false_iff_eq.mpr c3
  clear c3
  replace H := Option.bind_eq_some_iff.mp H
  obtain ⟨t242, A40, H⟩ := H
  replace H : (if t242.size + 1 ≤ 9223372036854775807 then ((letterbagref01_digits.f k t239 2).bind fun t243 => (if (t242 ++ (⟨#[45]⟩ : ByteArray)).size + t243.size ≤ 9223372036854775807 then (if ((t242 ++ (⟨#[45]⟩ : ByteArray)) ++ t243).size + 1 ≤ 9223372036854775807 then ((letterbagref01_digits.f k t240 2).bind fun t244 => (if (((t242 ++ (⟨#[45]⟩ : ByteArray)) ++ t243) ++ (⟨#[45]⟩ : ByteArray)).size + t244.size ≤ 9223372036854775807 then (some ((((t242 ++ (⟨#[45]⟩ : ByteArray)) ++ t243) ++ (⟨#[45]⟩ : ByteArray)) ++ t244, 0)) else (none))) else (none)) else (none))) else (none)) = some (r1, r2) := H
  have A4 := Aside0.mk A40
  clear A40
  by_cases c5 : t242.size + 1 ≤ 9223372036854775807
  ·rw [if_pos c5] at H
   have c5b0 := eq_true c5
   have c5b1 : decide (t242.size + 1 ≤ 9223372036854775807) = true := decide_eq_true c5
   try have c5b2 : (9223372036854775807 < t242.size + 1) = False := eq_false (Nat.not_lt.2 c5)
   replace H := Option.bind_eq_some_iff.mp H
   obtain ⟨t243, A60, H⟩ := H
   replace H : (if (t242 ++ (⟨#[45]⟩ : ByteArray)).size + t243.size ≤ 9223372036854775807 then (if ((t242 ++ (⟨#[45]⟩ : ByteArray)) ++ t243).size + 1 ≤ 9223372036854775807 then ((letterbagref01_digits.f k t240 2).bind fun t244 => (if (((t242 ++ (⟨#[45]⟩ : ByteArray)) ++ t243) ++ (⟨#[45]⟩ : ByteArray)).size + t244.size ≤ 9223372036854775807 then (some ((((t242 ++ (⟨#[45]⟩ : ByteArray)) ++ t243) ++ (⟨#[45]⟩ : ByteArray)) ++ t244, 0)) else (none))) else (none)) else (none)) = some (r1, r2) := H
   have A6 := Aside0.mk A60
   clear A60
   by_cases c7 : (t242 ++ (⟨#[45]⟩ : ByteArray)).size + t243.size ≤ 9223372036854775807
   ·rw [if_pos c7] at H
    have c7b0 := eq_true c7
    have c7b1 : decide ((t242 ++ (⟨#[45]⟩ : ByteArray)).size + t243.size ≤ 9223372036854775807) = true := decide_eq_true c7
    try have c7b2 : (9223372036854775807 < (t242 ++ (⟨#[45]⟩ : ByteArray)).size + t243.size) = False := eq_false (Nat.not_lt.2 c7)
    try have c7b3 : (9223372036854775807 < t242.size + 1 + t243.size) = False := eq_false (by have h_ := c7; simp only [ByteArray.size_append, (show (⟨#[45]⟩ : ByteArray).size = 1 from rfl)] at h_; omega)
    by_cases c8 : ((t242 ++ (⟨#[45]⟩ : ByteArray)) ++ t243).size + 1 ≤ 9223372036854775807
    ·rw [if_pos c8] at H
     have c8b0 := eq_true c8
     have c8b1 : decide (((t242 ++ (⟨#[45]⟩ : ByteArray)) ++ t243).size + 1 ≤ 9223372036854775807) = true := decide_eq_true c8
     try have c8b2 : (9223372036854775807 < ((t242 ++ (⟨#[45]⟩ : ByteArray)) ++ t243).size + 1) = False := eq_false (Nat.not_lt.2 c8)
     try have c8b3 : (9223372036854775807 < t242.size + 1 + t243.size + 1) = False := eq_false (by have h_ := c8; simp only [ByteArray.size_append, (show (⟨#[45]⟩ : ByteArray).size = 1 from rfl)] at h_; omega)
     replace H := Option.bind_eq_some_iff.mp H
     obtain ⟨t244, A90, H⟩ := H
     replace H : (if (((t242 ++ (⟨#[45]⟩ : ByteArray)) ++ t243) ++ (⟨#[45]⟩ : ByteArray)).size + t244.size ≤ 9223372036854775807 then (some ((((t242 ++ (⟨#[45]⟩ : ByteArray)) ++ t243) ++ (⟨#[45]⟩ : ByteArray)) ++ t244, 0)) else (none)) = some (r1, r2) := H
     have A9 := Aside0.mk A90
     clear A90
     by_cases c10 : (((t242 ++ (⟨#[45]⟩ : ByteArray)) ++ t243) ++ (⟨#[45]⟩ : ByteArray)).size + t244.size ≤ 9223372036854775807
     ·rw [if_pos c10] at H
      have c10b0 := eq_true c10
      have c10b1 : decide ((((t242 ++ (⟨#[45]⟩ : ByteArray)) ++ t243) ++ (⟨#[45]⟩ : ByteArray)).size + t244.size ≤ 9223372036854775807) = true := decide_eq_true c10
      try have c10b2 : (9223372036854775807 < (((t242 ++ (⟨#[45]⟩ : ByteArray)) ++ t243) ++ (⟨#[45]⟩ : ByteArray)).size + t244.size) = False := eq_false (Nat.not_lt.2 c10)
      try have c10b3 : (9223372036854775807 < t242.size + 1 + t243.size + 1 + t244.size) = False := eq_false (by have h_ := c10; simp only [ByteArray.size_append, (show (⟨#[45]⟩ : ByteArray).size = 1 from rfl)] at h_; omega)
      simp only [Option.some.injEq, Prod.mk.injEq] at H
      obtain ⟨rfl, rfl⟩ := H
      go_enter Tryd.func43, Tryd.ntmps43
      go_wp2_with (first | ((with_reducible refine gate_callee (f := 41) rfl ?_); refine goesL_ (some 10) rfl rfl Tryd.func41 (by kernel_rfl) rfl #[.int .i64 a0] rfl (by (try simp only [List.map_toArray, List.map_cons, List.map_nil]); first | done | rfl | (simp only [List.length_drop, List.length_take]; rfl)) ?_; (with_reducible refine (letterbagref01_Date.calls k a0 t238 t239 t240 t241 _ A2.out).mono ?_); rintro e w' ⟨rfl, ⟨nd, rfl⟩⟩; refine ⟨_, rfl, ?_⟩) | ((with_reducible refine gate_callee (f := 65) rfl ?_); refine goesL_ (some 19) rfl rfl Tryd.func65 (by kernel_rfl) rfl #[.int .i64 t238, .int .i64 4] rfl (by (try simp only [List.map_toArray, List.map_cons, List.map_nil]); first | done | rfl | (simp only [List.length_drop, List.length_take]; rfl)) ?_; (with_reducible refine (letterbagref01_digits.calls k t238 4 t242 _ A4.out).mono ?_); rintro e w11 ⟨rfl, hb⟩; refine ⟨_, rfl, ?_⟩; have n0_ := Aside0.mk (below_step (by repeat (first | (with_reducible first | exact HB.out | apply below_alloc | apply pw_below_drewN | apply below_drew1) | exact HB.out)) hb); clear HB; have HB := n0_; clear n0_; (try clear hb); (try clear hb2); (try clear hk); (try clear hi)) | ((with_reducible refine gate_callee (f := 65) rfl ?_); refine goesL_ (some 22) rfl rfl Tryd.func65 (by kernel_rfl) rfl #[.int .i64 t239, .int .i64 2] rfl (by (try simp only [List.map_toArray, List.map_cons, List.map_nil]); first | done | rfl | (simp only [List.length_drop, List.length_take]; rfl)) ?_; (with_reducible refine (letterbagref01_digits.calls k t239 2 t243 _ A6.out).mono ?_); rintro e w12 ⟨rfl, hb⟩; refine ⟨_, rfl, ?_⟩; have n0_ := Aside0.mk (below_step (by repeat (first | (with_reducible first | exact HB.out | apply below_alloc | apply pw_below_drewN | apply below_drew1) | exact HB.out)) hb); clear HB; have HB := n0_; clear n0_; (try clear hb); (try clear hb2); (try clear hk); (try clear hi)) | ((with_reducible refine gate_callee (f := 65) rfl ?_); refine goesL_ (some 26) rfl rfl Tryd.func65 (by kernel_rfl) rfl #[.int .i64 t240, .int .i64 2] rfl (by (try simp only [List.map_toArray, List.map_cons, List.map_nil]); first | done | rfl | (simp only [List.length_drop, List.length_take]; rfl)) ?_; (with_reducible refine (letterbagref01_digits.calls k t240 2 t244 _ A9.out).mono ?_); rintro e w13 ⟨rfl, hb⟩; refine ⟨_, rfl, ?_⟩; have n0_ := Aside0.mk (below_step (by repeat (first | (with_reducible first | exact HB.out | apply below_alloc | apply pw_below_drewN | apply below_drew1) | exact HB.out)) hb); clear HB; have HB := n0_; clear n0_; (try clear hb); (try clear hb2); (try clear hk); (try clear hi)))
      go_ret2
      exact ⟨by first | rfl | (simp [errW_none, errW_some] <;> rfl) | (simp [*, errW_none, errW_some] <;> rfl), by repeat (first | (with_reducible first | exact HB.out | apply below_alloc | apply pw_below_drewN | apply below_drew1) | exact HB.out)⟩
     ·rw [if_neg c10] at H
      exact absurd H (by simp)
    ·rw [if_neg c8] at H
     exact absurd H (by simp)
   ·rw [if_neg c7] at H
    exact absurd H (by simp)
  ·rw [if_neg c5] at H
   exact absurd H (by simp)
 ·rw [if_neg c3] at H
  have c3b0 : (t241 == 0) = false := beq_eq_false_iff_ne.mpr c3
  have c3b1 : (t241 != 0) = true := bne_iff_ne.mpr c3
  simp only [Option.some.injEq, Prod.mk.injEq] at H
  obtain ⟨rfl, rfl⟩ := H
  go_enter Tryd.func43, Tryd.ntmps43
  go_wp2_with (first | ((with_reducible refine gate_callee (f := 41) rfl ?_); refine goesL_ (some 10) rfl rfl Tryd.func41 (by kernel_rfl) rfl #[.int .i64 a0] rfl (by (try simp only [List.map_toArray, List.map_cons, List.map_nil]); first | done | rfl | (simp only [List.length_drop, List.length_take]; rfl)) ?_; (with_reducible refine (letterbagref01_Date.calls k a0 t238 t239 t240 t241 _ A2.out).mono ?_); rintro e w' ⟨rfl, ⟨nd, rfl⟩⟩; refine ⟨_, rfl, ?_⟩))
  go_ret2
  exact ⟨by first | rfl | (simp [errW_none, errW_some] <;> rfl) | (simp [*, errW_none, errW_some] <;> rfl), by repeat (first | (with_reducible first | exact HB.out | apply below_alloc | apply pw_below_drewN | apply below_drew1) | exact HB.out)⟩
end Go.Proofs.YtehnhedifhpalaaDoor.Cp
set_option linter.unusedVariables false
set_option linter.unusedSimpArgs false
namespace Go.Proofs.YtehnhedifhpalaaDoor.Cp
open Go.RowKit Go.Proofs.YtehnhedifhpalaaDoorW.PrintWords Go.Proofs.YtehnhedifhpalaaDoorW.PrintLast Go.Proofs.YtehnhedifhpalaaDoorW.PrintMore
theorem rleap_f {y : Int} (h : 0 ≤ y) : letterbagref01_Leap.f y = some (decide (Cv.leap y)) := by
  unfold letterbagref01_Leap.f
  rw [Int.tmod_eq_emod_of_nonneg h, Int.tmod_eq_emod_of_nonneg h, Int.tmod_eq_emod_of_nonneg h]
  by_cases c4 : y % 400 = 0
  · rw [if_pos c4, decide_eq_true (show Cv.leap y by unfold Cv.leap; omega)]
  · rw [if_neg c4]
    by_cases c : y % 4 = 0
    · rw [if_pos c]
      by_cases c1 : y % 100 = 0
      · rw [decide_eq_false (show ¬ Cv.leap y by unfold Cv.leap; omega), c1]; rfl
      · rw [decide_eq_true (show Cv.leap y by unfold Cv.leap; omega), bne_iff_ne.mpr c1]
    · rw [if_neg c, decide_eq_false (show ¬ Cv.leap y by unfold Cv.leap; omega)]
theorem rlong_f {y m : Int} (hy : 0 ≤ y) (h1 : 1 ≤ m) (h2 : m ≤ 12) : letterbagref01_long.f y m = some (Cv.mlen y m) := by
  unfold letterbagref01_long.f
  rw [rleap_f hy]
  by_cases l : Cv.leap y
  · rw [decide_eq_true l]
    rcases Cv.month_cases h1 h2 with rfl | rfl | rfl | rfl | rfl | rfl | rfl | rfl | rfl | rfl | rfl | rfl <;> simp [Cv.mlen, Cv.fst, Cv.ah, Cv.lp, l]
  · rw [decide_eq_false l]
    rcases Cv.month_cases h1 h2 with rfl | rfl | rfl | rfl | rfl | rfl | rfl | rfl | rfl | rfl | rfl | rfl <;> simp [Cv.mlen, Cv.fst, Cv.ah, Cv.lp, l]
theorem rdate_b (y m d : Int) : letterbagref01_date.f y m d = some (decide (Cv.IsDate y m d)) := by
  unfold letterbagref01_date.f
  have no : ∀ {p : Prop}, ¬ Cv.IsDate y m d → (some false : Option Bool) = some (decide (Cv.IsDate y m d)) := fun h => by rw [decide_eq_false h]
  by_cases c1 : y ≥ 2001
  · rw [if_pos c1]
    by_cases c2 : y ≤ 4000
    · rw [if_pos c2]
      by_cases c3 : m ≥ 1
      · rw [if_pos c3]
        by_cases c4 : m ≤ 12
        · rw [if_pos c4]
          by_cases c5 : d ≥ 1
          · rw [if_pos c5, rlong_f (by omega) (by omega) (by omega)]
            simp only [Option.bind_some]
            congr 1
            rw [decide_eq_decide]
            constructor
            · intro h; exact ⟨c1, c2, c3, c4, c5, h⟩
            · intro h; exact h.d2
          · rw [if_neg c5]; exact no (p := True) (fun h => c5 h.d1)
        · rw [if_neg c4]; exact no (p := True) (fun h => c4 h.m2)
      · rw [if_neg c3]; exact no (p := True) (fun h => c3 h.m1)
    · rw [if_neg c2]; exact no (p := True) (fun h => c2 h.y2)
  · rw [if_neg c1]; exact no (p := True) (fun h => c1 h.y1)
theorem rday_l1 {y m : Int} (hy : 2001 ≤ y) (hm : m ≤ 12) (d : Nat) : ∀ (j n : Int), 1 ≤ j → j ≤ m → m - j = d → (0 ≤ n ∧ n ≤ 1000000) →
    Ev (fun k => letterbagref01_Day.l1 k y m (n + Cv.fst y j) j) (n + Cv.fst y m, 0) := by
  induction d with
  | zero =>
    intro j n h1 h2 hd hn
    obtain rfl : j = m := by omega
    exact Ev.step (fun k => letterbagref01_Day.l1.eq_2 _ _ _ _ k) (ev_neg (by omega) (Ev.now _))
  | succ d ih =>
    intro j n h1 h2 hd hn
    have hb := Cv.fst_bd y (m := j) h1 (by omega)
    have hb2 := Cv.mlen_bd y (m := j) h1 (by omega)
    have e1 := Cv.fst_succ y j
    have q0 : -10000000 ≤ j + 1 ∧ j + 1 ≤ 10000000 := by omega
    have q1 : -10000000 ≤ n + Cv.fst y j + Cv.mlen y j ∧ n + Cv.fst y j + Cv.mlen y j ≤ 10000000 := by omega
    refine Ev.step (fun k => letterbagref01_Day.l1.eq_2 _ _ _ _ k) (ev_pos (by omega) ?_)
    refine Ev.bind (ev_val (rlong_f (by omega) h1 (by omega))) ?_
    rw [wb q0, wb q1]
    rw [show n + Cv.fst y j + Cv.mlen y j = n + Cv.fst y (j + 1) by omega]
    exact ih (j + 1) n (by omega) (by omega) (by omega) hn
theorem rday_l0 {y m : Int} (hy2 : y ≤ 4000) (h1 : 1 ≤ m) (h2 : m ≤ 12) (c : Int) (hc : 0 ≤ c ∧ c ≤ 31) (d : Nat) : ∀ (z : Int), 2001 ≤ z → z ≤ y → y - z = d →
    Ev (fun k => letterbagref01_Day.l0 k y m (Cv.ys z + c) z) (Cv.ys y + c + Cv.fst y m, 0) := by
  induction d with
  | zero =>
    intro z hz hzy hd
    obtain rfl : z = y := by omega
    have b1 := Cv.ys_mono hz
    have b2 := Cv.ys_mono (show z ≤ 4001 by omega)
    rw [Cv.ys_2001] at b1
    rw [Cv.ys_4001] at b2
    refine Ev.step (fun k => letterbagref01_Day.l0.eq_2 _ _ _ _ k) (ev_neg (by omega) ?_)
    have := rday_l1 (y := z) (m := m) hz h2 (m - 1).toNat 1 (Cv.ys z + c) (by omega) h1 (by omega) (by omega)
    rw [Cv.fst_1, Int.add_zero] at this
    exact this
  | succ d ih =>
    intro z hz hzy hd
    have b1 := Cv.ys_mono hz
    have b2 := Cv.ys_mono (show z ≤ 4001 by omega)
    rw [Cv.ys_2001] at b1
    rw [Cv.ys_4001] at b2
    have e1 := Cv.ys_succ z
    have ih1 := ih (z + 1) (by omega) (by omega) (by omega)
    have q0 : -10000000 ≤ z + 1 ∧ z + 1 ≤ 10000000 := by omega
    have q1 : -10000000 ≤ Cv.ys z + c + 365 ∧ Cv.ys z + c + 365 ≤ 10000000 := by omega
    have q2 : -10000000 ≤ Cv.ys z + c + 365 + 1 ∧ Cv.ys z + c + 365 + 1 ≤ 10000000 := by omega
    refine Ev.step (fun k => letterbagref01_Day.l0.eq_2 _ _ _ _ k) (ev_pos (by omega) ?_)
    refine Ev.bind (ev_val (rleap_f (by omega))) ?_
    rw [wb q0, wb q1, wb q2]
    unfold Cv.lp at e1
    by_cases l : Cv.leap z
    · rw [if_pos l] at e1
      refine ev_pos (decide_eq_true l) ?_
      rw [show Cv.ys z + c + 365 + 1 = Cv.ys (z + 1) + c by omega]
      exact ih1
    · rw [if_neg l] at e1
      refine ev_neg (by rw [decide_eq_false l]; exact Bool.false_ne_true) ?_
      rw [show Cv.ys z + c + 365 = Cv.ys (z + 1) + c by omega]
      exact ih1
theorem rday_f {y m d : Int} (h : Cv.IsDate y m d) : Ev (fun k => letterbagref01_Day.f k y m d) (Cv.dayOf y m d, 0) := by
  unfold letterbagref01_Day.f
  have hb := Cv.mlen_bd y h.m1 h.m2
  have h1 := h.y1; have h2 := h.y2; have h5 := h.d1; have h6 := h.d2
  have q0 : -10000000 ≤ d - 1 ∧ d - 1 ≤ 10000000 := by omega
  refine Ev.bind (ev_val (rdate_b y m d)) (ev_pos (decide_eq_true h) ?_)
  rw [wb q0]
  have := rday_l0 (y := y) (m := m) h2 h.m1 h.m2 (d - 1) (by omega) (y - 2001).toNat 2001 (by omega) h1 (by omega)
  rw [Cv.ys_2001, Int.zero_add] at this
  refine ev_eq ?_ this
  unfold Cv.dayOf
  congr 1
  omega
theorem rday_no {y m d : Int} (h : ¬ Cv.IsDate y m d) : Ev (fun k => letterbagref01_Day.f k y m d) (0, 10) := by
  unfold letterbagref01_Day.f
  exact Ev.bind (ev_val (rdate_b y m d)) (ev_neg (by rw [decide_eq_false h]; exact Bool.false_ne_true) (Ev.now _))
theorem rdate_l1 {y u : Int} (hy : 0 ≤ y) (hu : u < Cv.fst y 13) (d : Nat) : ∀ m : Int, 1 ≤ m → m ≤ 12 → 12 - m = d → Cv.fst y m ≤ u →
    ∃ n, (1 ≤ n ∧ n ≤ 12) ∧ Cv.fst y n ≤ u ∧ u < Cv.fst y (n + 1) ∧ Ev (fun k => letterbagref01_Date.l1 k (u - Cv.fst y m) y m) (y, n, u - Cv.fst y n + 1, 0) := by
  induction d with
  | zero =>
    intro m h1 h2 hd hf
    obtain rfl : m = 12 := by omega
    refine ⟨12, by omega, hf, hu, ?_⟩
    have hb := Cv.fst_bd y (m := 12) (by decide) (by decide)
    have hb2 := Cv.fst_bd y (m := 13) (by decide) (by decide)
    have e1 : Cv.fst y 13 = Cv.fst y 12 + Cv.mlen y 12 := Cv.fst_succ y 12
    have q : -10000000 ≤ u - Cv.fst y 12 + 1 ∧ u - Cv.fst y 12 + 1 ≤ 10000000 := by omega
    refine Ev.step (fun k => letterbagref01_Date.l1.eq_2 _ _ _ k) ?_
    refine Ev.bind (ev_val (rlong_f hy (by decide) (by decide))) (ev_neg (by omega) (ev_eq ?_ (Ev.now _)))
    rw [wb q]
  | succ d ih =>
    intro m h1 h2 hd hf
    have hb := Cv.fst_bd y (m := m) h1 (by omega)
    have hb2 := Cv.fst_bd y (m := m + 1) (by omega) (by omega)
    have hb3 := Cv.fst_bd y (m := 13) (by decide) (by decide)
    have e1 := Cv.fst_succ y m
    have q0 : -10000000 ≤ m + 1 ∧ m + 1 ≤ 10000000 := by omega
    have q1 : -10000000 ≤ u - Cv.fst y m - Cv.mlen y m ∧ u - Cv.fst y m - Cv.mlen y m ≤ 10000000 := by omega
    have q2 : -10000000 ≤ u - Cv.fst y m + 1 ∧ u - Cv.fst y m + 1 ≤ 10000000 := by omega
    by_cases c : u ≥ Cv.fst y (m + 1)
    · obtain ⟨n, k1, k2, k3, k4⟩ := ih (m + 1) (by omega) (by omega) (by omega) c
      refine ⟨n, k1, k2, k3, Ev.step (fun k => letterbagref01_Date.l1.eq_2 _ _ _ k) ?_⟩
      refine Ev.bind (ev_val (rlong_f hy (by omega) (by omega))) (ev_pos (by omega) (Ev.bind (ev_val (rlong_f hy (by omega) (by omega))) ?_))
      rw [wb q0, wb q1, show u - Cv.fst y m - Cv.mlen y m = u - Cv.fst y (m + 1) by omega]
      exact k4
    · refine ⟨m, ⟨h1, h2⟩, hf, by omega, Ev.step (fun k => letterbagref01_Date.l1.eq_2 _ _ _ k) ?_⟩
      refine Ev.bind (ev_val (rlong_f hy (by omega) (by omega))) (ev_neg (by omega) (ev_eq ?_ (Ev.now _)))
      rw [wb q2]
theorem rdate_l0 {a : Int} (h : 0 ≤ a ∧ a ≤ 730484) (d : Nat) : ∀ z : Int, 2001 ≤ z → 4001 - z = d → Cv.ys z ≤ a →
    ∃ y m k, Cv.IsDate y m k ∧ Cv.dayOf y m k = a ∧ Ev (fun n => letterbagref01_Date.l0 n (a - Cv.ys z) z 1) (y, m, k, 0) := by
  induction d with
  | zero =>
    intro z h1 h2 hz
    obtain rfl : z = 4001 := by omega
    rw [Cv.ys_4001] at hz
    omega
  | succ d ih =>
    intro z h1 h2 hz
    have e1 := Cv.ys_succ z
    have b0 := Cv.ys_mono h1
    rw [Cv.ys_2001] at b0
    have l01 := Cv.lp_01 z
    have go : a < Cv.ys (z + 1) → ∃ y m k, Cv.IsDate y m k ∧ Cv.dayOf y m k = a ∧ Ev (fun n => letterbagref01_Date.j1 n (a - Cv.ys z) z 1) (y, m, k, 0) := by
      intro hlt
      obtain ⟨n, n1, n2, n3, hE⟩ := rdate_l1 (y := z) (u := a - Cv.ys z) (by omega) (by rw [Cv.fst_13]; omega) 11 1 (by decide) (by decide) (by decide) (by rw [Cv.fst_1]; omega)
      obtain ⟨i1, i2⟩ := Cv.month_of n1.1 n1.2 n2 n3 h1 (by omega)
      rw [Cv.fst_1, Int.sub_zero] at hE
      exact ⟨z, n, _, i1, by rw [i2]; omega, Ev.step (fun k => letterbagref01_Date.j1.eq_2 _ _ _ k) hE⟩
    have q0 : -10000000 ≤ z + 1 ∧ z + 1 ≤ 10000000 := by omega
    have q1 : -10000000 ≤ a - Cv.ys z - 366 ∧ a - Cv.ys z - 366 ≤ 10000000 := by omega
    have q2 : -10000000 ≤ a - Cv.ys z - 365 ∧ a - Cv.ys z - 365 ≤ 10000000 := by omega
    have lpe : Cv.lp z = if Cv.leap z then 1 else 0 := rfl
    by_cases c : a < Cv.ys (z + 1)
    · obtain ⟨y, m, k, k1, k2, k3⟩ := go c
      refine ⟨y, m, k, k1, k2, Ev.step (fun k => letterbagref01_Date.l0.eq_2 _ _ _ k) ?_⟩
      refine Ev.bind (ev_val (rleap_f (by omega))) ?_
      by_cases l : Cv.leap z
      · rw [if_pos l] at lpe
        exact ev_pos (decide_eq_true l) (ev_pos (by omega) k3)
      · rw [if_neg l] at lpe
        exact ev_neg (by rw [decide_eq_false l]; exact Bool.false_ne_true) (ev_pos (by omega) k3)
    · obtain ⟨y, m, k, k1, k2, k3⟩ := ih (z + 1) (by omega) (by omega) (by omega)
      refine ⟨y, m, k, k1, k2, Ev.step (fun k => letterbagref01_Date.l0.eq_2 _ _ _ k) ?_⟩
      refine Ev.bind (ev_val (rleap_f (by omega))) ?_
      rw [wb q0, wb q1, wb q2]
      by_cases l : Cv.leap z
      · rw [if_pos l] at lpe
        refine ev_pos (decide_eq_true l) (ev_neg (by omega) ?_)
        rw [show a - Cv.ys z - 366 = a - Cv.ys (z + 1) by omega]
        exact k3
      · rw [if_neg l] at lpe
        refine ev_neg (by rw [decide_eq_false l]; exact Bool.false_ne_true) (ev_neg (by omega) ?_)
        rw [show a - Cv.ys z - 365 = a - Cv.ys (z + 1) by omega]
        exact k3
theorem rdate_f {y m k : Int} (h : Cv.IsDate y m k) : Ev (fun n => letterbagref01_Date.f n (Cv.dayOf y m k)) (y, m, k, 0) := by
  have hd := (Cv.dayOf_bd h).2.2
  obtain ⟨y', m', k', i1, i2, i3⟩ := rdate_l0 hd 2000 2001 (by decide) (by decide) (by rw [Cv.ys_2001]; exact hd.1)
  obtain ⟨rfl, rfl, rfl⟩ := Cv.dayOf_inj i1 h i2
  rw [Cv.ys_2001, Int.sub_zero] at i3
  unfold letterbagref01_Date.f
  exact Ev.bind (ev_val (r := 0) (by unfold letterbagref01_within.f; rw [if_neg (by omega), if_neg (by omega)])) (ev_pos rfl i3)
theorem rwithin_f (n most : Int) : letterbagref01_within.f n most = some (errOf n most) := by unfold letterbagref01_within.f errOf; split <;> (try split) <;> rfl
theorem rdate_no {a : Int} (h : ¬ (0 ≤ a ∧ a ≤ 730484)) : Ev (fun n => letterbagref01_Date.f n a) (0, 0, 0, errOf a 730484) := by
  unfold letterbagref01_Date.f
  exact Ev.bind (ev_val (rwithin_f a _)) (ev_neg (errOf_ne h) (Ev.now _))
theorem rdigits_l0 (many : Int) (d : Nat) : ∀ (i x : Int) (l : List Int), 0 ≤ i → many ≤ 100 → many - i = d → (0 ≤ x ∧ x ≤ 1000000) → l.length ≤ i.toNat →
    Ev (fun k => letterbagref01_digits.l0 k x many (strOfNums l) i) (strOfNums (Cv.dig d x ++ l)) := by
  induction d with
  | zero =>
    intro i x l h0 hm hd hx hl
    exact Ev.step (fun k => letterbagref01_digits.l0.eq_2 _ _ _ _ k) (ev_neg (by omega) (Ev.now _))
  | succ d ih =>
    intro i x l h0 hm hd hx hl
    have q0 : -10000000 ≤ i + 1 ∧ i + 1 ≤ 10000000 := by omega
    have q1 : -10000000 ≤ x / 10 ∧ x / 10 ≤ 10000000 := by omega
    have q2 : -10000000 ≤ 48 + x % 10 ∧ 48 + x % 10 ≤ 10000000 := by omega
    have e1 : (48 + x % 10) % 256 = 48 + x % 10 := by omega
    have ih1 := ih (i + 1) (x / 10) ((48 + x % 10) :: l) (by omega) hm (by omega) (by omega) (by simp only [List.length_cons]; omega)
    refine Ev.step (fun k => letterbagref01_digits.l0.eq_2 _ _ _ _ k) (ev_pos (by omega) ?_)
    rw [Int.tmod_eq_emod_of_nonneg hx.1, Int.tdiv_eq_ediv_of_nonneg hx.1, wb q0, wb q1, wb q2, e1]
    simp only [Option.bind_some]
    rw [strOfNums_size, strOfNums_size]
    refine ev_pos (by simp only [List.length_cons, List.length_nil]; omega) ?_
    rw [str_append]
    refine ev_eq ?_ ih1
    rw [Cv.dig, List.append_assoc]; rfl
theorem rdigits_f {n : Int} (hn : 0 ≤ n ∧ n ≤ 1000000) (many : Nat) (hm : many ≤ 100) : Ev (fun k => letterbagref01_digits.f k n many) (strOfNums (Cv.dig many n)) := by
  have := rdigits_l0 many many 0 n [] (by decide) (by omega) (by omega) hn (by simp)
  rw [List.append_nil] at this
  exact this
theorem dash_eq : (⟨#[45]⟩ : ByteArray) = strOfNums [45] := rfl
theorem rtext_f {y m d : Int} (h : Cv.IsDate y m d) : Ev (fun k => letterbagref01_Text.f k (Cv.dayOf y m d)) (strOfNums (Cv.dtext y m d), 0) := by
  obtain ⟨hy, hm, hd⟩ := date_nat h
  unfold letterbagref01_Text.f
  refine Ev.bind (rdate_f h) (ev_pos rfl (Ev.bind (rdigits_f hy 4 (by decide)) ?_))
  simp only [dash_eq, str_append, strOfNums_size, List.length_append, Cv.dig_len, List.length_cons, List.length_nil]
  refine ev_pos (by decide) (Ev.bind (rdigits_f hm 2 (by decide)) ?_)
  simp only [dash_eq, str_append, strOfNums_size, List.length_append, Cv.dig_len, List.length_cons, List.length_nil]
  refine ev_pos (by decide) (ev_pos (by decide) (Ev.bind (rdigits_f hd 2 (by decide)) ?_))
  simp only [dash_eq, str_append, strOfNums_size, List.length_append, Cv.dig_len, List.length_cons, List.length_nil]
  refine ev_pos (by decide) (ev_eq ?_ (Ev.now _))
  unfold Cv.dtext
  simp
theorem rtext_no {a : Int} (h : ¬ (0 ≤ a ∧ a ≤ 730484)) : Ev (fun k => letterbagref01_Text.f k a) (strOfNums [], errOf a 730484) := by
  unfold letterbagref01_Text.f
  exact Ev.bind (rdate_no h) (ev_neg (errOf_ne h) (ev_eq rfl (Ev.now _)))
end Go.Proofs.YtehnhedifhpalaaDoor.Cp
namespace Go.Proofs.YtehnhedifhpalaaDoor.Cp
open Go.RowKit Go.Proofs.YtehnhedifhpalaaDoorW.PrintWords Go.Proofs.YtehnhedifhpalaaDoorW.PrintLast Go.Proofs.YtehnhedifhpalaaDoorW.PrintMore
attribute [local go_sem] max2_int min2_int max_two min_two max_three min_three max_four min_four   -- for this text's walks alone
set_option linter.unusedVariables false
set_option linter.unusedSimpArgs false
def letterbaglaw01_few.f (l0 : List Int) (a1 : Int) (a2 : Int) (a3 : Int) : Option (Bool) := if (l0.length : Int) ≤ 60 then (if a2 ≤ (wrap64 (a1 + 4000)) then (some (decide (a3 ≤ 1000))) else (some false)) else (some false)
set_option maxHeartbeats 8000000 in
set_option maxRecDepth 100000 in
theorem letterbaglaw01_few.calls (A0 : Option Addr) (c0 : Nat) (l0 : List Int) (a1 : Int) (a2 : Int) (a3 : Int) (r : Bool) (w : World) (hr0 : Kd.C (Kd.int .i64) w A0 l0.length l0) (hc0 : l0.length ≤ c0) (h : letterbaglaw01_few.f l0 a1 a2 a3 = some r) :
  Calls Tryd.prog 46 #[.slice A0 l0.length c0, .int .i64 a1, .int .i64 a2, .int .i64 a3] w fun e w' => e = .returned (.bool r) ∧ Drawn0 w w' := by
 have HR0 := Aside0.mk hr0
 have HC0 := Aside0.mk hc0
 clear hr0 hc0
 have H : (if (l0.length : Int) ≤ 60 then (if a2 ≤ (wrap64 (a1 + 4000)) then (some (decide (a3 ≤ 1000))) else (some false)) else (some false)) = some r := h
 clear h
 by_cases c5 : (l0.length : Int) ≤ 60
 ·rw [if_pos c5] at H
  have c5b0 : decide ((l0.length : Int) ≤ 60) = true := decide_eq_true c5
  have c5b1 : decide (l0.length ≤ 60) = true := decide_eq_true (by omega)
  clear c5
  by_cases c6 : a2 ≤ (wrap64 (a1 + 4000))
  ·rw [if_pos c6] at H
   have c6b0 : decide (a2 ≤ (wrap64 (a1 + 4000))) = true := decide_eq_true c6
   clear c6
   obtain rfl := Option.some.inj H
   go_enter Tryd.func46, Tryd.ntmps46
   go_wp2
   go_ret
   exact ⟨by first | rfl | (simp; done) | (simp [*]; done) | (simp; exact (show ∀ a_ b_ : Bool, (a_ == b_) = (!(a_ != b_)) from by decide) _ _), by repeat (first | exact Drawn0.refl _ | apply Drawn0.step)⟩
  ·rw [if_neg c6] at H
   have c6b0 : decide (a2 ≤ (wrap64 (a1 + 4000))) = false := decide_eq_false c6
   clear c6
   obtain rfl := Option.some.inj H
   go_enter Tryd.func46, Tryd.ntmps46
   go_wp2
   go_ret
   exact ⟨by first | rfl | (simp; done) | (simp [*]; done) | (simp; exact (show ∀ a_ b_ : Bool, (a_ == b_) = (!(a_ != b_)) from by decide) _ _), by repeat (first | exact Drawn0.refl _ | apply Drawn0.step)⟩
 ·rw [if_neg c5] at H
  have c5b0 : decide ((l0.length : Int) ≤ 60) = false := decide_eq_false c5
  have c5b1 : decide (l0.length ≤ 60) = false := decide_eq_false (by omega)
  clear c5
  obtain rfl := Option.some.inj H
  go_enter Tryd.func46, Tryd.ntmps46
  go_wp2
  go_ret
  exact ⟨by first | rfl | (simp; done) | (simp [*]; done) | (simp; exact (show ∀ a_ b_ : Bool, (a_ == b_) = (!(a_ != b_)) from by decide) _ _), by repeat (first | exact Drawn0.refl _ | apply Drawn0.step)⟩
def letterbagkit_mark.f (a0 : Int) (a1 : Int) : Option (Int) := some (wrap64 ((wrap64 (1000003 * (wrap64 (a0 + 7)))) + a1))
set_option maxHeartbeats 8000000 in
set_option maxRecDepth 100000 in
theorem letterbagkit_mark.calls (a0 : Int) (a1 : Int) (r : Int) (w : World) (h : letterbagkit_mark.f a0 a1 = some r) :
  Calls Tryd.prog 68 #[.int .i64 a0, .int .i64 a1] w fun e w' => e = .returned (.int .i64 r) ∧ Drawn0 w w' := by
 have H : (some (wrap64 ((wrap64 (1000003 * (wrap64 (a0 + 7)))) + a1))) = some r := h
 clear h
 obtain rfl := Option.some.inj H
 go_enter Tryd.func68, Tryd.ntmps68
 go_wp2
 go_ret
 exact ⟨by first | rfl | (simp; done) | (simp [*]; done) | (simp; exact (show ∀ a_ b_ : Bool, (a_ == b_) = (!(a_ != b_)) from by decide) _ _), by repeat (first | exact Drawn0.refl _ | apply Drawn0.step)⟩
def letterbagref01_Right.l0 : Nat → List Int → Int → Option (Bool)
 | 0, _, _ => none
 | k + 1, x0, x3 => if x3 < (x0.length : Int) then (if 0 ≤ x3 then (if (rd x0 x3) < 0 then (some false) else (if (rd x0 x3) > 730484 then (some false) else (if x3 > 0 then (if 0 ≤ (wrap64 (x3 - 1)) then (if (wrap64 (x3 - 1)) < (x0.length : Int) then (if (rd x0 (wrap64 (x3 - 1))) ≥ (rd x0 x3) then (some false) else (letterbagref01_Right.l0 k x0 (wrap64 (x3 + 1)))) else (none)) else (none)) else (letterbagref01_Right.l0 k x0 (wrap64 (x3 + 1)))))) else (none)) else (some (decide ((x0.length : Int) ≤ 1000)))
def letterbagref01_Right.f (k : Nat) (l0 : List Int) : Option (Bool) := letterbagref01_Right.l0 k l0 0
set_option maxHeartbeats 8000000 in
set_option maxRecDepth 100000 in
theorem letterbagref01_Right.calls (k : Nat) (A0 : Option Addr) (c0 : Nat) (l0 : List Int) (r : Bool) (w : World) (hr0 : Kd.C (Kd.int .i64) w A0 l0.length l0) (hc0 : l0.length ≤ c0) (h : letterbagref01_Right.f k l0 = some r) :
  Calls Tryd.prog 49 #[.slice A0 l0.length c0] w fun e w' => e = .returned (.bool r) ∧ Drawn0 w w' := by
 have HR0 := Aside0.mk hr0
 have HC0 := Aside0.mk hc0
 clear hr0 hc0
 have H : (letterbagref01_Right.l0 k l0 0) = some r := h
 clear h
 have H' := Aside0.mk H
 clear H
 go_enter Tryd.func49, Tryd.ntmps49
 go_wp2
 repeat (go_quiet (fail); try go_wp2)
 go_loopg [3] k (fun kq v3 w' => ∃ (x3_1 : Int), v3 = .int .i64 x3_1 ∧ Aside0 (letterbagref01_Right.l0 kq l0 x3_1 = some r) ∧ Aside0 (kq ≤ k) ∧ Drawn0 w w')
 case atStart => exact ⟨(0), (by first | rfl | (simp; done) | (simp [*]; done) | (simp; exact (show ∀ a_ b_ : Bool, (a_ == b_) = (!(a_ != b_)) from by decide) _ _) | (rw [Bool.eq_iff_iff]; simp; done) | (simp; rw [Bool.eq_iff_iff]; simp; done)), H', ⟨Nat.le_refl _⟩, by repeat (first | exact Drawn0.refl _ | apply Drawn0.step)⟩
 case round =>
  clear H'
  obtain ⟨x3_1, rfl, HA, HK1, ⟨m1, rfl⟩⟩ := hrel
  cases gk with
  | zero => exact absurd HA.out (by simp [letterbagref01_Right.l0])
  | succ k1 =>
   have H := HA.out
   clear HA
   simp only [letterbagref01_Right.l0] at H
   by_cases c2 : x3_1 < (l0.length : Int)
   ·rw [if_pos c2] at H
    have c2b0 : decide (x3_1 < (l0.length : Int)) = true := decide_eq_true c2
    clear c2
    by_cases c3 : 0 ≤ x3_1
    ·rw [if_pos c3] at H
     have c3b0 : decide (0 ≤ x3_1) = true := decide_eq_true c3
     clear c3
     by_cases c4 : (rd l0 x3_1) < 0
     ·rw [if_pos c4] at H
      have c4b0 : decide ((rd l0 x3_1) < 0) = true := decide_eq_true c4
      clear c4
      obtain rfl := Option.some.inj H
      have p301 : 0 ≤ (x3_1 : Int) := of_decide_eq_true (by first | (with_reducible assumption) | assumption)
      have q301 : x3_1 < (l0.length : Int) := of_decide_eq_true (by first | (with_reducible assumption) | assumption)
      obtain ⟨ad301, e301, hx301_0⟩ := Kd.at_int HR0.out x3_1 p301 q301
      cases e301
      replace p301 := eq_true p301
      replace q301 := eq_true q301
      go_wp2
      repeat (go_quiet (fail); try go_wp2)
      go_ret
      exact ⟨by first | rfl | (simp; done) | (simp [*]; done) | (simp; exact (show ∀ a_ b_ : Bool, (a_ == b_) = (!(a_ != b_)) from by decide) _ _), by repeat (first | exact Drawn0.refl _ | apply Drawn0.step)⟩
     ·rw [if_neg c4] at H
      have c4b0 : decide ((rd l0 x3_1) < 0) = false := decide_eq_false c4
      clear c4
      by_cases c5 : (rd l0 x3_1) > 730484
      ·rw [if_pos c5] at H
       have c5b0 : decide (730484 < (rd l0 x3_1)) = true := decide_eq_true c5
       clear c5
       obtain rfl := Option.some.inj H
       have p301 : 0 ≤ (x3_1 : Int) := of_decide_eq_true (by first | (with_reducible assumption) | assumption)
       have q301 : x3_1 < (l0.length : Int) := of_decide_eq_true (by first | (with_reducible assumption) | assumption)
       obtain ⟨ad301, e301, hx301_0⟩ := Kd.at_int HR0.out x3_1 p301 q301
       cases e301
       replace p301 := eq_true p301
       replace q301 := eq_true q301
       have p302 : 0 ≤ (x3_1 : Int) := of_decide_eq_true (by first | (with_reducible assumption) | assumption)
       have q302 : x3_1 < (l0.length : Int) := of_decide_eq_true (by first | (with_reducible assumption) | assumption)
       obtain ⟨ad302, e302, hx302_0⟩ := Kd.at_int HR0.out x3_1 p302 q302
       obtain rfl : ad301 = ad302 := (by injection e302)
       replace p302 := eq_true p302
       replace q302 := eq_true q302
       go_wp2
       repeat (go_quiet (fail); try go_wp2)
       go_ret
       exact ⟨by first | rfl | (simp; done) | (simp [*]; done) | (simp; exact (show ∀ a_ b_ : Bool, (a_ == b_) = (!(a_ != b_)) from by decide) _ _), by repeat (first | exact Drawn0.refl _ | apply Drawn0.step)⟩
      ·rw [if_neg c5] at H
       have c5b0 : decide (730484 < (rd l0 x3_1)) = false := decide_eq_false c5
       clear c5
       by_cases c6 : x3_1 > 0
       ·rw [if_pos c6] at H
        have c6b0 : decide (0 < x3_1) = true := decide_eq_true c6
        clear c6
        obtain ⟨ji7, hji7⟩ : ∃ j_ : Int, (wrap64 (x3_1 - 1)) = j_ := ⟨_, rfl⟩
        replace H : (if 0 ≤ (ji7) then (if (ji7) < (l0.length : Int) then (if (rd l0 (ji7)) ≥ (rd l0 x3_1) then (some false) else (letterbagref01_Right.l0 k1 l0 (wrap64 (x3_1 + 1)))) else (none)) else (none)) = some r := by first | (rw [hji7] at H; exact H) | (simp only [hji7] at H ⊢; exact H)
        have hji7w : (IntKind.i64.wrap (x3_1 - 1)) = ji7 := (i64_w _).trans hji7
        by_cases c8 : 0 ≤ (ji7)
        ·rw [if_pos c8] at H
         have c8b0 : decide (0 ≤ (ji7)) = true := decide_eq_true c8
         clear c8
         by_cases c9 : (ji7) < (l0.length : Int)
         ·rw [if_pos c9] at H
          have c9b0 : decide ((ji7) < (l0.length : Int)) = true := decide_eq_true c9
          clear c9
          by_cases c10 : (rd l0 (ji7)) ≥ (rd l0 x3_1)
          ·rw [if_pos c10] at H
           have c10b0 : decide ((rd l0 x3_1) ≤ (rd l0 (ji7))) = true := decide_eq_true c10
           clear c10
           obtain rfl := Option.some.inj H
           have p301 : 0 ≤ (x3_1 : Int) := of_decide_eq_true (by first | (with_reducible assumption) | assumption)
           have q301 : x3_1 < (l0.length : Int) := of_decide_eq_true (by first | (with_reducible assumption) | assumption)
           obtain ⟨ad301, e301, hx301_0⟩ := Kd.at_int HR0.out x3_1 p301 q301
           cases e301
           replace p301 := eq_true p301
           replace q301 := eq_true q301
           have p302 : 0 ≤ (x3_1 : Int) := of_decide_eq_true (by first | (with_reducible assumption) | assumption)
           have q302 : x3_1 < (l0.length : Int) := of_decide_eq_true (by first | (with_reducible assumption) | assumption)
           obtain ⟨ad302, e302, hx302_0⟩ := Kd.at_int HR0.out x3_1 p302 q302
           obtain rfl : ad301 = ad302 := (by injection e302)
           replace p302 := eq_true p302
           replace q302 := eq_true q302
           have p303 : 0 ≤ ((ji7) : Int) := of_decide_eq_true (by first | (with_reducible assumption) | assumption)
           have q303 : (ji7) < (l0.length : Int) := of_decide_eq_true (by first | (with_reducible assumption) | assumption)
           obtain ⟨ad303, e303, hx303_0⟩ := Kd.at_int HR0.out (ji7) p303 q303
           obtain rfl : ad301 = ad303 := (by injection e303)
           replace p303 := eq_true p303
           replace q303 := eq_true q303
           have p304 : 0 ≤ (x3_1 : Int) := of_decide_eq_true (by first | (with_reducible assumption) | assumption)
           have q304 : x3_1 < (l0.length : Int) := of_decide_eq_true (by first | (with_reducible assumption) | assumption)
           obtain ⟨ad304, e304, hx304_0⟩ := Kd.at_int HR0.out x3_1 p304 q304
           obtain rfl : ad301 = ad304 := (by injection e304)
           replace p304 := eq_true p304
           replace q304 := eq_true q304
           go_wp2
           repeat (go_quiet (fail); try go_wp2)
           go_ret
           exact ⟨by first | rfl | (simp; done) | (simp only [← hji7] <;> (first | rfl | simp)) | (simp [*]; done) | (simp; exact (show ∀ a_ b_ : Bool, (a_ == b_) = (!(a_ != b_)) from by decide) _ _), by repeat (first | exact Drawn0.refl _ | apply Drawn0.step)⟩
          ·rw [if_neg c10] at H
           have c10b0 : decide ((rd l0 x3_1) ≤ (rd l0 (ji7))) = false := decide_eq_false c10
           clear c10
           have H' := Aside0.mk H
           clear H
           have p301 : 0 ≤ (x3_1 : Int) := of_decide_eq_true (by first | (with_reducible assumption) | assumption)
           have q301 : x3_1 < (l0.length : Int) := of_decide_eq_true (by first | (with_reducible assumption) | assumption)
           obtain ⟨ad301, e301, hx301_0⟩ := Kd.at_int HR0.out x3_1 p301 q301
           cases e301
           replace p301 := eq_true p301
           replace q301 := eq_true q301
           have p302 : 0 ≤ (x3_1 : Int) := of_decide_eq_true (by first | (with_reducible assumption) | assumption)
           have q302 : x3_1 < (l0.length : Int) := of_decide_eq_true (by first | (with_reducible assumption) | assumption)
           obtain ⟨ad302, e302, hx302_0⟩ := Kd.at_int HR0.out x3_1 p302 q302
           obtain rfl : ad301 = ad302 := (by injection e302)
           replace p302 := eq_true p302
           replace q302 := eq_true q302
           have p303 : 0 ≤ ((ji7) : Int) := of_decide_eq_true (by first | (with_reducible assumption) | assumption)
           have q303 : (ji7) < (l0.length : Int) := of_decide_eq_true (by first | (with_reducible assumption) | assumption)
           obtain ⟨ad303, e303, hx303_0⟩ := Kd.at_int HR0.out (ji7) p303 q303
           obtain rfl : ad301 = ad303 := (by injection e303)
           replace p303 := eq_true p303
           replace q303 := eq_true q303
           have p304 : 0 ≤ (x3_1 : Int) := of_decide_eq_true (by first | (with_reducible assumption) | assumption)
           have q304 : x3_1 < (l0.length : Int) := of_decide_eq_true (by first | (with_reducible assumption) | assumption)
           obtain ⟨ad304, e304, hx304_0⟩ := Kd.at_int HR0.out x3_1 p304 q304
           obtain rfl : ad301 = ad304 := (by injection e304)
           replace p304 := eq_true p304
           replace q304 := eq_true q304
           go_wp2
           repeat (go_quiet (fail); try go_wp2)
           go_roundg k1
           case measure => have := HK1.out; omega
           case rel => exact ⟨(wrap64 (x3_1 + 1)), (by first | rfl | (simp; done) | (simp [*]; done) | (simp; exact (show ∀ a_ b_ : Bool, (a_ == b_) = (!(a_ != b_)) from by decide) _ _) | (rw [Bool.eq_iff_iff]; simp; done) | (simp; rw [Bool.eq_iff_iff]; simp; done)), H', ⟨by have := HK1.out; omega⟩, by repeat (first | exact Drawn0.refl _ | apply Drawn0.step)⟩
         ·rw [if_neg c9] at H
          exact absurd H (by simp)
        ·rw [if_neg c8] at H
         exact absurd H (by simp)
       ·rw [if_neg c6] at H
        have c6b0 : decide (0 < x3_1) = false := decide_eq_false c6
        clear c6
        have H' := Aside0.mk H
        clear H
        have p301 : 0 ≤ (x3_1 : Int) := of_decide_eq_true (by first | (with_reducible assumption) | assumption)
        have q301 : x3_1 < (l0.length : Int) := of_decide_eq_true (by first | (with_reducible assumption) | assumption)
        obtain ⟨ad301, e301, hx301_0⟩ := Kd.at_int HR0.out x3_1 p301 q301
        cases e301
        replace p301 := eq_true p301
        replace q301 := eq_true q301
        have p302 : 0 ≤ (x3_1 : Int) := of_decide_eq_true (by first | (with_reducible assumption) | assumption)
        have q302 : x3_1 < (l0.length : Int) := of_decide_eq_true (by first | (with_reducible assumption) | assumption)
        obtain ⟨ad302, e302, hx302_0⟩ := Kd.at_int HR0.out x3_1 p302 q302
        obtain rfl : ad301 = ad302 := (by injection e302)
        replace p302 := eq_true p302
        replace q302 := eq_true q302
        go_wp2
        repeat (go_quiet (fail); try go_wp2)
        go_roundg k1
        case measure => have := HK1.out; omega
        case rel => exact ⟨(wrap64 (x3_1 + 1)), (by first | rfl | (simp; done) | (simp [*]; done) | (simp; exact (show ∀ a_ b_ : Bool, (a_ == b_) = (!(a_ != b_)) from by decide) _ _) | (rw [Bool.eq_iff_iff]; simp; done) | (simp; rw [Bool.eq_iff_iff]; simp; done)), H', ⟨by have := HK1.out; omega⟩, by repeat (first | exact Drawn0.refl _ | apply Drawn0.step)⟩
    ·rw [if_neg c3] at H
     exact absurd H (by simp)
   ·rw [if_neg c2] at H
    have c2b0 : decide (x3_1 < (l0.length : Int)) = false := decide_eq_false c2
    clear c2
    obtain rfl := Option.some.inj H
    go_wp2
    repeat (go_quiet (fail); try go_wp2)
    go_ret
    exact ⟨by first | rfl | (simp; done) | (simp [*]; done) | (simp; exact (show ∀ a_ b_ : Bool, (a_ == b_) = (!(a_ != b_)) from by decide) _ _), by repeat (first | exact Drawn0.refl _ | apply Drawn0.step)⟩
end Go.Proofs.YtehnhedifhpalaaDoor.Cp
set_option linter.unusedVariables false
set_option linter.unusedSimpArgs false
namespace Go.Proofs.YtehnhedifhpalaaDoor.Cp
open Go.RowKit Go.Proofs.YtehnhedifhpalaaDoorW.PrintWords Go.Proofs.YtehnhedifhpalaaDoorW.PrintLast Go.Proofs.YtehnhedifhpalaaDoorW.PrintMore
attribute [local go_sem] max2_int min2_int max_two min_two max_three min_three max_four min_four
def marks (n : Nat) : List Int := (List.range n).map fun i : Nat => 8000024 + (i : Int)
theorem marks_succ (n : Nat) : marks (n + 1) = marks n ++ [8000024 + (n : Int)] := by simp [marks, List.range_succ]
theorem mark_f (i : Nat) (hi : i < 100) : letterbagkit_mark.f 1 (i : Int) = some (8000024 + (i : Int)) := by
  unfold letterbagkit_mark.f
  have e1 : wrap64 ((1 : Int) + 7) = 8 := w64 (by decide) (by decide)
  have e2 : wrap64 ((1000003 : Int) * 8) = 8000024 := w64 (by decide) (by decide)
  rw [e1, e2, w64 (by omega) (by omega)]
theorem append_none_any {P : Program} (w : World) {ops : Array Oper} {rest : List Oper} {o : Oper} {a : Act} {Q : Exit → Act → World → Prop}
    (hg : o.guard = none) (s x : Operand) (t : TypeId) (hop : o.op = Op.call { callee := Callee.builtin Builtin.append, args := #[s, x], argTypes := #[t, t] })
    (base : Nat) (e : TypeId) (i : TypeInfo) (size : Nat) (h1 : P.underlying t = some (.slice e)) (h2 : P.info? e = some i)
    (g k cap : Nat) (xs : List Value) (hs : a.eval s = .slice (some ⟨g, 0, none⟩) k cap) (hown : w.ownsRow base e size (.slice (some ⟨g, 0, none⟩) k cap) k xs) (c : Nat) (hx : a.eval x = .slice none 0 c)
    (hK : wpList P ops Q rest (a.put o.dst (.slice (some ⟨g, 0, none⟩) k cap)) w) :
    wpList P ops Q (o :: rest) a w := by
  refine wpList_plain hg fun K hK' => ?_
  have hrun : (Builtin.append_ #[t, t] o.type #[.slice (some ⟨g, 0, none⟩) k cap, .slice none 0 c]).run P w = .ok (.slice (some ⟨g, 0, none⟩) k cap) w := by
    rcases hown.2 with ⟨hv, rfl⟩ | ⟨g', cap', cur, hv, _, _, hnc, _⟩
    · cases hv
    · injection hv with h1' h2' h3'
      subst h3'
      simp [Builtin.append_, run_underlying h1, sizeOf, typeInfo, h2, Builtin.lenOf, Builtin.firstCells, hnc, storeCells]
  unfold Oper.wp
  simp [execOp, hop, resolve, invoke, builtin, hs, hx, hrun, Result.andThen]
  exact hK' _ _ hK
theorem nums_one (l : List Int) : ∀ u ∈ nums .i64 l, u.oneCell' = true := by
  intro u hu
  obtain ⟨x, _, rfl⟩ := List.mem_map.1 hu
  rfl
theorem list_cells {w : World} {A : Option Addr} {l : List Int} (h : Kd.C (Kd.int .i64) w A l.length l) : ∀ ad, A = some ad → ∀ j u, (nums .i64 l)[j]? = some u → w.cell? (ad.add j) = some u := by
  intro ad e j u hu
  have hj : j < l.length := by
    have := (List.getElem?_eq_some_iff.1 hu).1
    simpa [nums] using this
  obtain ⟨ad', e', hc⟩ := Kd.at_int h (j : Int) (by omega) (by omega)
  subst e
  cases e'
  have hu' : u = .int .i64 (rd l (j : Int)) := by
    have := hu
    simp [nums, hj] at this
    rw [← this]
    simp [rd, hj]
  rw [hu']
  exact hc
theorem fresh_cell (w : World) (m : Nat) (v : Value) : ∀ j u, [v][j]? = some u → ((w.drewN m).alloc (.cells #[v] 3)).cell? ((⟨w.heap.size, 0, none⟩ : Addr).add j) = some u := by
  intro j u h
  match j, h with
  | 0, h =>
    have hu : v = u := by simpa using h
    subst hu
    have hs : (w.drewN m).heap.size = w.heap.size := by simp
    have := blk_new (w.drewN m) (.cells #[v] 3)
    rw [hs] at this
    exact (cell_of_row _ w.heap.size 0 _ 3 (0, 0) this).trans rfl
theorem own_drawn {w : World} {base e size : Nat} {a : Addr} {k c n : Nat} {xs : List Value} (h : w.ownsRow base e size (.slice (some a) k c) n xs) (m : Nat) : (w.drewN m).ownsRow base e size (.slice (some a) k c) n xs :=
  h.kept (grown_of_below ((Drawn0.refl w).step m).below none) (.inr (by simp [Value.ownBlock]))
set_option maxHeartbeats 4000000 in
set_option maxRecDepth 100000 in
theorem lent_any (A0 : Option Addr) (c0 : Nat) (l : List Int) (w : World) (hr : Kd.C (Kd.int .i64) w A0 l.length l) (hc0 : l.length ≤ c0) (hn : l.length ≤ 60) :
    Calls Tryd.prog 47 #[.slice A0 l.length c0] w fun e w' => e = .returned (.slice (some ⟨w.heap.size, 0, none⟩) l.length (l.length + 12)) ∧
      Aside0 (w'.ownsRow w.heap.size 3 1 (.slice (some ⟨w.heap.size, 0, none⟩) (l.length + 12) (l.length + 12)) (l.length + 12) (nums .i64 (l ++ marks 12))) ∧ Aside0 (Below w.heap.size w w') := by
  obtain ⟨i0, hi, hz0, hz1, hz2⟩ := info_parts info3
  have HR := Aside0.mk hr
  have HN := Aside0.mk hn
  have HC := Aside0.mk hc0
  have en : wrap64 ((l.length : Int) + 12) = (l.length : Int) + 12 := by have := HN.out; exact w64 (by omega) (by omega)
  cases A0 with
  | none =>
    have hl : l = [] := by
      rcases l with _ | ⟨x, l⟩
      · rfl
      · obtain ⟨ad, e, _⟩ := Kd.at_int hr 0 (by omega) (by simp only [List.length_cons]; omega)
        cases e
    subst hl
    have en : wrap64 (((0 : Nat) : Int) + 12) = ((0 : Nat) : Int) + 12 := w64 (by decide) (by decide)
    clear hr hn hc0
    go_enter Tryd.func47, Tryd.ntmps47
    go_wp2_with (first
      | (at_make; refine wpList_make_own _ rfl _ _ 22 rfl w.heap.size 3 i0 (.int .i64 0) 1 Tryd.underlying22 hi hz0 hz1 _ _ _ 12 rfl rfl ?b1 ?b2 ?b3 (Nat.le_refl _) ?_; (case b1 => first | omega | (simp; done) | (push_cast; rfl)); (case b2 => rw [hz2]; have := HN.out; omega); (case b3 => unfold maxLen; have := HN.out; omega); intro w0 hown0 hgrow0; have HB0 := Aside0.mk ((Below.refl w.heap.size w).grown hgrow0 (Nat.le_refl _) (fun k h => by cases h)))
      | (at_builtin; refine append_none_any _ rfl (.tmp 9) (.tmp 10) 22 rfl w.heap.size 3 i0 1 Tryd.underlying22 hi w.heap.size 0 12 _ rfl hown0 _ rfl ?_; have hown1 := hown0; have HB1 := HB0))
    go_loopg [3, 4] 12 (fun kq v3 v4 wr => ∃ i : Nat, v3 = .slice (some ⟨w.heap.size, 0, none⟩) i 12 ∧ v4 = .int .i64 (i : Int) ∧ Aside0 (i ≤ 12 ∧ kq = 12 - i) ∧ Aside0 (wr.ownsRow w.heap.size 3 1 (.slice (some ⟨w.heap.size, 0, none⟩) i 12) i (nums .i64 ([] ++ marks i))) ∧ Aside0 (Below w.heap.size w wr))
    case atStart => exact ⟨0, rfl, rfl, ⟨by omega, by omega⟩, ⟨hown1⟩, HB1⟩
    case round =>
      obtain ⟨i, rfl, rfl, HI, HO, HB⟩ := hrel
      by_cases c : (i : Int) < 12
      · have cb : decide ((i : Int) < 12) = true := decide_eq_true c
        have HM := Aside0.mk (mark_f i (by omega))
        have CI := Aside0.mk c
        have q1 : -9223372036854775808 ≤ (i : Int) + 1 ∧ (i : Int) + 1 ≤ 9223372036854775807 := by omega
        have w1 := w64 q1.1 q1.2
        clear c q1
        go_wp2_with (first
          | (go_at_call 68; (with_reducible refine (letterbagkit_mark.calls 1 (i : Int) _ _ HM.out).mono ?_); rintro e wm ⟨rfl, ⟨nd, rfl⟩⟩)
          | (at_builtin; refine wpList_append_fits _ rfl (.tmp 16) (.tmp 19) 22 rfl w.heap.size 3 i0 1 Tryd.underlying22 hi hz1 w.heap.size i 12 _ rfl ((own_drawn HO.out nd).alloc _) ⟨wr.heap.size, 0, none⟩ 1 1 [.int .i64 (8000024 + (i : Int))] rfl rfl ?c1 ?c2 ?c3 ?_; (case c1 => exact fresh_cell wr nd _); (case c2 => intro u hu; rw [List.mem_singleton.1 hu]; rfl); (case c3 => have := CI.out; omega); intro w2 hown2 hgrow2))
        go_roundg (12 - (i + 1))
        case measure => have := HI.out; have := CI.out; omega
        case rel => exact ⟨i + 1, rfl, by first | rfl | simp [w1], ⟨by have := CI.out; omega, rfl⟩, ⟨by rw [marks_succ, ← List.append_assoc, nums_append]; exact hown2⟩, ⟨(below_alloc (pw_below_drewN HB.out nd) _).grown hgrow2 (below_size (below_alloc (pw_below_drewN HB.out nd) _)) (fun k hk => by cases hk; exact Nat.le_refl _)⟩⟩
      · have cb : decide ((i : Int) < 12) = false := decide_eq_false c
        have hi12 : i = 12 := by have := HI.out; omega
        subst hi12
        clear c
        go_wp2
        go_ret
        exact ⟨rfl, HO, HB⟩
  | some ad =>
    have HS := Aside0.mk (list_cells hr ad rfl)
    clear hr hn hc0
    go_enter Tryd.func47, Tryd.ntmps47
    go_wp2_with (first
      | (at_make; refine wpList_make_own _ rfl _ _ 22 rfl w.heap.size 3 i0 (.int .i64 0) 1 Tryd.underlying22 hi hz0 hz1 _ _ _ (l.length + 12) rfl rfl ?b1 ?b2 ?b3 (Nat.le_refl _) ?_; (case b1 => first | omega | (simp; done) | (push_cast; rfl)); (case b2 => rw [hz2]; have := HN.out; omega); (case b3 => unfold maxLen; have := HN.out; omega); intro w0 hown0 hgrow0; have HB0 := Aside0.mk ((Below.refl w.heap.size w).grown hgrow0 (Nat.le_refl _) (fun k h => by cases h)))
      | (at_builtin; refine wpList_append_fits _ rfl (.tmp 9) (.tmp 10) 22 rfl w.heap.size 3 i0 1 Tryd.underlying22 hi hz1 w.heap.size 0 (l.length + 12) _ rfl hown0 ad l.length _ (nums .i64 l) rfl ?a1 ?a2 (nums_one l) ?a3 ?_; (case a1 => simp [nums]); (case a2 => intro j u hj; exact pw_cell_below HB0.out (HS.out j u hj)); (case a3 => omega); intro w1 hown1 hgrow1; have HB1 := Aside0.mk (HB0.out.grown hgrow1 (below_size HB0.out) (fun k h => by cases h; exact Nat.le_refl _))))
    go_loopg [3, 4] 12 (fun kq v3 v4 wr => ∃ i : Nat, v3 = .slice (some ⟨w.heap.size, 0, none⟩) (l.length + i) (l.length + 12) ∧ v4 = .int .i64 (i : Int) ∧ Aside0 (i ≤ 12 ∧ kq = 12 - i) ∧ Aside0 (wr.ownsRow w.heap.size 3 1 (.slice (some ⟨w.heap.size, 0, none⟩) (l.length + i) (l.length + 12)) (l.length + i) (nums .i64 (l ++ marks i))) ∧ Aside0 (Below w.heap.size w wr))
    case atStart => exact ⟨0, rfl, rfl, ⟨by omega, by omega⟩, ⟨by simpa [marks] using hown1⟩, HB1⟩
    case round =>
      obtain ⟨i, rfl, rfl, HI, HO, HB⟩ := hrel
      by_cases c : (i : Int) < 12
      · have cb : decide ((i : Int) < 12) = true := decide_eq_true c
        have HM := Aside0.mk (mark_f i (by omega))
        have CI := Aside0.mk c
        have q1 : -9223372036854775808 ≤ (i : Int) + 1 ∧ (i : Int) + 1 ≤ 9223372036854775807 := by omega
        have w1 := w64 q1.1 q1.2
        clear c q1
        go_wp2_with (first
          | (go_at_call 68; (with_reducible refine (letterbagkit_mark.calls 1 (i : Int) _ _ HM.out).mono ?_); rintro e wm ⟨rfl, ⟨nd, rfl⟩⟩)
          | (at_builtin; refine wpList_append_fits _ rfl (.tmp 16) (.tmp 19) 22 rfl w.heap.size 3 i0 1 Tryd.underlying22 hi hz1 w.heap.size (l.length + i) (l.length + 12) _ rfl ((own_drawn HO.out nd).alloc _) ⟨wr.heap.size, 0, none⟩ 1 1 [.int .i64 (8000024 + (i : Int))] rfl rfl ?c1 ?c2 ?c3 ?_; (case c1 => exact fresh_cell wr nd _); (case c2 => intro u hu; rw [List.mem_singleton.1 hu]; rfl); (case c3 => have := CI.out; omega); intro w2 hown2 hgrow2))
        go_roundg (12 - (i + 1))
        case measure => have := HI.out; have := CI.out; omega
        case rel => exact ⟨i + 1, rfl, by first | rfl | simp [w1], ⟨by have := CI.out; omega, rfl⟩, ⟨by rw [marks_succ, ← List.append_assoc, nums_append]; exact hown2⟩, ⟨(below_alloc (pw_below_drewN HB.out nd) _).grown hgrow2 (below_size (below_alloc (pw_below_drewN HB.out nd) _)) (fun k hk => by cases hk; exact Nat.le_refl _)⟩⟩
      · have cb : decide ((i : Int) < 12) = false := decide_eq_false c
        have hi12 : i = 12 := by have := HI.out; omega
        subst hi12
        clear c
        go_wp2
        go_ret
        exact ⟨rfl, HO, HB⟩
end Go.Proofs.YtehnhedifhpalaaDoor.Cp
namespace Go.Proofs.YtehnhedifhpalaaDoor.Cp
open Go.RowKit Go.Proofs.YtehnhedifhpalaaDoorW.PrintWords Go.Proofs.YtehnhedifhpalaaDoorW.PrintLast Go.Proofs.YtehnhedifhpalaaDoorW.PrintMore
attribute [local go_sem] max2_int min2_int max_two min_two max_three min_three max_four min_four
theorem nums_left (l m : List Int) (i : Nat) (h : i < l.length) : (nums .i64 (l ++ m))[i]? = some (.int .i64 l[i]) := by simp [nums, List.getElem?_append_left, h]
theorem nums_mark (l : List Int) (i : Nat) (h0 : l.length ≤ i) (h : i < l.length + 12) : (nums .i64 (l ++ marks 12))[i]? = some (.int .i64 (8000024 + ((i : Int) - (l.length : Int)))) := by
  have hi : i - l.length < 12 := by omega
  simp only [nums, List.getElem?_map]
  rw [List.getElem?_append_right h0]
  simp only [marks, List.getElem?_map, List.getElem?_range hi, Option.map_some]
  congr 2
  omega
set_option maxHeartbeats 4000000 in
set_option maxRecDepth 100000 in
theorem kept_any (g c : Nat) (A0 : Option Addr) (c0 : Nat) (l : List Int) (w : World) (hx : ∀ j u, (nums .i64 (l ++ marks 12))[j]? = some u → w.cell? ⟨g, j, none⟩ = some u)
    (hr : Kd.C (Kd.int .i64) w A0 l.length l) (hc0 : l.length ≤ c0) (hn : l.length ≤ 60) (hc : l.length + 12 ≤ c) :
    Calls Tryd.prog 53 #[.slice (some ⟨g, 0, none⟩) l.length c, .slice A0 l.length c0] w fun e w' => e = .returned (.bool true) ∧ Drawn0 w w' := by
  have HX := Aside0.mk hx
  have HR := Aside0.mk hr
  have HN := Aside0.mk hn
  clear hx hr
  have en : wrap64 ((l.length : Int) + 12) = (l.length : Int) + 12 := w64 (by omega) (by omega)
  have p0 : (0 ≤ (l.length : Int) + 12) = True := eq_true (by omega)
  have p1 : ((l.length : Int) + 12 ≤ (c : Int)) = True := eq_true (by omega)
  go_enter Tryd.func53, Tryd.ntmps53
  go_wp2
  go_loopg [6] (l.length + 12) (fun kq v6 wr => ∃ i : Nat, v6 = .int .i64 (i : Int) ∧ Aside0 (i ≤ l.length + 12 ∧ kq = l.length + 12 - i) ∧ Drawn0 w wr)
  case atStart => exact ⟨0, rfl, ⟨by omega, by omega⟩, by repeat (first | exact Drawn0.refl _ | apply Drawn0.step)⟩
  case round =>
    obtain ⟨i, rfl, HI, ⟨nd, rfl⟩⟩ := hrel
    by_cases d : i < l.length + 12
    · have db : decide ((i : Int) < (l.length : Int) + 12) = true := decide_eq_true (by omega)
      have CI := Aside0.mk d
      have q1 : -9223372036854775808 ≤ (i : Int) + 1 ∧ (i : Int) + 1 ≤ 9223372036854775807 := by omega
      have w1 := w64 q1.1 q1.2
      by_cases d2 : i < l.length
      · have db2 : decide ((i : Int) < (l.length : Int)) = true := decide_eq_true (by omega)
        have db3 : decide (l.length ≤ i) = false := decide_eq_false (by omega)
        have db4 : decide (i < l.length) = true := decide_eq_true d2
        have hcx := HX.out i _ (nums_left l _ i d2)
        obtain ⟨ad, e, hcl⟩ := Kd.at_int HR.out (i : Int) (by omega) (by omega)
        cases e
        rw [rd_get d2, show ((i : Int)).toNat = i by omega] at hcl
        generalize l[i] = z at hcx hcl
        have r1 : ((i : Int) < (l.length : Int)) = True := eq_true (by omega)
        have r2 : (0 ≤ (i : Int)) = True := eq_true (by omega)
        have r3 : ((i : Int) < (l.length : Int) + 12) = True := eq_true (by omega)
        clear q1 d d2
        go_wp2
        repeat (go_quiet (fail); try go_wp2)
        go_roundg (l.length + 12 - (i + 1))
        case measure => have := HI.out; have := CI.out; omega
        case rel => exact ⟨i + 1, by first | rfl | simp [w1], ⟨by have := CI.out; omega, rfl⟩, by repeat (first | exact Drawn0.refl _ | apply Drawn0.step)⟩
      · have db2 : decide ((i : Int) < (l.length : Int)) = false := decide_eq_false (by omega)
        have db3 : decide (l.length ≤ i) = true := decide_eq_true (by omega)
        have db4 : decide (i < l.length) = false := decide_eq_false d2
        have hcx := HX.out i _ (nums_mark l i (by omega) d)
        have ej : wrap64 ((i : Int) - (l.length : Int)) = (i : Int) - (l.length : Int) := w64 (by omega) (by omega)
        have hm := mark_f (i - l.length) (by omega)
        rw [show ((i - l.length : Nat) : Int) = (i : Int) - (l.length : Int) by omega] at hm
        have HM := Aside0.mk hm
        have r2 : (0 ≤ (i : Int)) = True := eq_true (by omega)
        have r3 : ((i : Int) < (l.length : Int) + 12) = True := eq_true (by omega)
        clear q1 d d2 hm
        go_wp2
        repeat (go_quiet (first | (go_at_call 68; (with_reducible refine (letterbagkit_mark.calls 1 ((i : Int) - (l.length : Int)) _ _ HM.out).mono ?_); rintro e w' ⟨rfl, ⟨nd, rfl⟩⟩; (try first | exact ⟨rfl, _, World.drewN_drewN _ _ _⟩ | exact ⟨rfl, _, Eq.trans (World.drewN_drewN _ _ _) (congrArg (World.drewN _) (Nat.add_assoc _ _ _))⟩))); try go_wp2)
        go_roundg (l.length + 12 - (i + 1))
        case measure => have := HI.out; have := CI.out; omega
        case rel => exact ⟨i + 1, by first | rfl | simp [w1], ⟨by have := CI.out; omega, rfl⟩, by repeat (first | exact Drawn0.refl _ | apply Drawn0.step)⟩
    · have db : decide ((i : Int) < (l.length : Int) + 12) = false := decide_eq_false (by omega)
      clear d
      go_wp2
      go_ret
      exact ⟨rfl, by repeat (first | exact Drawn0.refl _ | apply Drawn0.step)⟩
end Go.Proofs.YtehnhedifhpalaaDoor.Cp
namespace Go.Proofs.YtehnhedifhpalaaDoor.Cp
open Go.RowKit Go.Proofs.YtehnhedifhpalaaDoorW.PrintWords Go.Proofs.YtehnhedifhpalaaDoorW.PrintLast Go.Proofs.YtehnhedifhpalaaDoorW.PrintMore
/-- The lent list's cells, marks and all. -/
def Lent (W : World) (g : Nat) (l : List Int) : Prop := ∀ j u, (nums .i64 (l ++ marks 12))[j]? = some u → W.cell? ⟨g, j, none⟩ = some u
theorem lent_ex (A0 : Option Addr) (c0 : Nat) (l : List Int) (w : World) (hr : Kd.C (Kd.int .i64) w A0 l.length l) (hc0 : l.length ≤ c0) (hn : l.length ≤ 60) :
    Calls Tryd.prog 47 #[.slice A0 l.length c0] w fun e w' => ∃ g, e = .returned (.slice (some ⟨g, 0, none⟩) l.length (l.length + 12)) ∧ Lent w' g l ∧ Below w.heap.size w w' := by
  refine (lent_any A0 c0 l w hr hc0 hn).mono ?_
  rintro e w' ⟨rfl, ho, hb⟩
  refine ⟨_, rfl, fun j u hu => ?_, hb.out⟩
  have := ho.out.cells rfl j u hu
  rwa [show (⟨w.heap.size, 0, none⟩ : Addr).add j = ⟨w.heap.size, j, none⟩ by simp [Addr.add]; omega] at this
theorem lent_list {W : World} {g : Nat} {l : List Int} (h : Lent W g l) (hn : l.length ≤ 60) : Kd.C (Kd.int .i64) W (some ⟨g, 0, none⟩) l.length l := by
  refine ⟨rfl, by omega, fun _ => ⟨⟨g, 0, none⟩, rfl, fun j q hj => ?_⟩⟩
  obtain ⟨hjl, rfl⟩ := List.getElem?_eq_some_iff.1 hj
  refine ⟨[.int .i64 l[j]], rfl, rfl, fun i u hu => ?_⟩
  match i, hu with
  | 0, hu =>
    injection hu with hu
    subst hu
    have := h j _ (nums_left l _ j hjl)
    have e : j * (Kd.int .i64).sz + 0 = j := by
      show j * 1 + 0 = j
      omega
    rw [e, show (⟨g, 0, none⟩ : Addr).add j = ⟨g, j, none⟩ by simp [Addr.add]; omega]
    exact this
/-- What holds between the calls. -/
structure St (w W : World) (g : Nat) (A0 : Option Addr) (l : List Int) : Prop where
  below : Below w.heap.size w W
  tab : Tab W
  lent : Lent W g l
  arg : Kd.C (Kd.int .i64) W A0 l.length l
theorem St.step {w W W' : World} {g : Nat} {A0 : Option Addr} {l : List Int} (h : St w W g A0 l) (hb : Below W.heap.size W W') : St w W' g A0 l :=
  ⟨below_step h.below hb, h.tab.below hb, fun j u hu => pw_cell_below hb (h.lent j u hu), Kd.C_below h.arg hb⟩
end Go.Proofs.YtehnhedifhpalaaDoor.Cp
