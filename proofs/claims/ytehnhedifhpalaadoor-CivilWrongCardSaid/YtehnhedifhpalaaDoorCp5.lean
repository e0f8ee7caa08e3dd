/- Functions of the given program as plain Lean functions, and proofs that the machine's calls do what these say; written by a program of this session (myprint.py, over the kit's print). -/
import Derived.Test.YtehnhedifhpalaaDoorCp0
import Derived.Test.YtehnhedifhpalaaDoorCz
import Derived.Test.YtehnhedifhpalaaDoorCp1
import Derived.Test.YtehnhedifhpalaaDoorCp3
import Derived.Test.YtehnhedifhpalaaDoorCp4
import Derived.Test.YtehnhedifhpalaaDoorCt
import Derived.Test.YtehnhedifhpalaaDoorCb
namespace Go.Proofs.YtehnhedifhpalaaDoor.Cp
open Go.RowKit Go.Proofs.YtehnhedifhpalaaDoorW.PrintWords Go.Proofs.YtehnhedifhpalaaDoorW.PrintLast Go.Proofs.YtehnhedifhpalaaDoorW.PrintMore
attribute [local go_sem] max2_int min2_int max_two min_two max_three min_three max_four min_four   -- for this text's walks alone
set_option linter.unusedVariables false
set_option linter.unusedSimpArgs false

/-! ### letterbaglaw01_CivilWrong: function 4 -/
mutual
def letterbaglaw01_CivilWrong.l0 : Nat → Int → List (S32) → Int → Int → Option (Bool)
  | 0, _, _, _, _ => none
  | k + 1, x0, x48, x49, x50 => if x50 < x49 then (if 0 ≤ x50 then (if x50 < (x48.length : Int) then ((civil_Date.f k ((rd_T32 x48 x50).f0)).bind fun bt188 => ((civil_Weekday.f ((rd_T32 x48 x50).f0)).bind fun bt192 => ((civil_Text.f k ((rd_T32 x48 x50).f0)).bind fun bt194 => ((civil_Time.f k ((rd_T32 x48 x50).f0) 0).bind fun bt196 => (if bt188.2.2.2 = ((rd_T32 x48 x50).f2) then (if bt192.2 = ((rd_T32 x48 x50).f2) then (if bt194.2 = ((rd_T32 x48 x50).f2) then (if bt196.2 = ((rd_T32 x48 x50).f2) then (if (wrap64 ((wrap64 ((wrap64 ((wrap64 (bt188.1 + bt188.2.1)) + bt188.2.2.1)) + bt192.1)) + bt196.1)) = 0 then (letterbaglaw01_CivilWrong.j1 k x0 x48 x49 x50 (bt194.1.toList != ([] : List UInt8)) ((rd_T32 x48 x50).f0) ((rd_T32 x48 x50).f1) ((rd_T32 x48 x50).f2)) else (letterbaglaw01_CivilWrong.j1 k x0 x48 x49 x50 true ((rd_T32 x48 x50).f0) ((rd_T32 x48 x50).f1) ((rd_T32 x48 x50).f2))) else (letterbaglaw01_CivilWrong.j1 k x0 x48 x49 x50 true ((rd_T32 x48 x50).f0) ((rd_T32 x48 x50).f1) ((rd_T32 x48 x50).f2))) else (letterbaglaw01_CivilWrong.j1 k x0 x48 x49 x50 true ((rd_T32 x48 x50).f0) ((rd_T32 x48 x50).f1) ((rd_T32 x48 x50).f2))) else (letterbaglaw01_CivilWrong.j1 k x0 x48 x49 x50 true ((rd_T32 x48 x50).f0) ((rd_T32 x48 x50).f1) ((rd_T32 x48 x50).f2))) else (letterbaglaw01_CivilWrong.j1 k x0 x48 x49 x50 true ((rd_T32 x48 x50).f0) ((rd_T32 x48 x50).f1) ((rd_T32 x48 x50).f2))))))) else (none)) else (none)) else ((letterbagkit_Pick.f x0 1000).bind fun t211 => ((some (([t211, 0] : List Int) : List Int)).bind fun y212 => ((civil_Works.f k 0 y212).bind fun bt215 => ((civil_Between.f 0 1 y212).bind fun bt217 => ((civil_Ahead.f k 0 0 y212).bind fun bt219 => ((civil_Yearly.f k 0 101 230).bind fun bt221 => ((civil_Yearly.f k 0 0 101).bind fun bt223 => (if bt215.2 = 2 then (if bt217.2 = 2 then (if bt219.2 = 2 then (if bt221.2 = 10 then (if bt223.2 = 10 then ((civil_Right.f k y212).bind fun t225 => (some (!t225))) else (some false)) else (some false)) else (some false)) else (some false)) else (some false)))))))))
def letterbaglaw01_CivilWrong.j1 : Nat → Int → List (S32) → Int → Int → Bool → Int → Int → Int → Option (Bool)
  | 0, _, _, _, _, _, _, _, _ => none
  | k + 1, x0, x48, x49, x50, x117, x188000, x188001, x188002 => if x117 = true then (some false) else ((civil_Split.f x188001).bind fun bt198 => ((civil_TimeText.f k x188001).bind fun bt201 => ((civil_Works.f k x188000 ([] : List Int)).bind fun bt203 => ((civil_Ahead.f k x188000 0 ([] : List Int)).bind fun bt205 => (if bt198.2.2 = x188002 then (if bt201.2 = x188002 then (if bt203.2 = x188002 then (if bt205.2 = x188002 then (if (wrap64 ((wrap64 (bt198.1 + bt198.2.1)) + bt205.1)) = 0 then (if bt201.1.toList = ([] : List UInt8) then (letterbaglaw01_CivilWrong.j2 k x0 x48 x49 x50 bt203.1 x188000 x188001 x188002) else (letterbaglaw01_CivilWrong.j2 k x0 x48 x49 x50 true x188000 x188001 x188002)) else (letterbaglaw01_CivilWrong.j2 k x0 x48 x49 x50 true x188000 x188001 x188002)) else (letterbaglaw01_CivilWrong.j2 k x0 x48 x49 x50 true x188000 x188001 x188002)) else (letterbaglaw01_CivilWrong.j2 k x0 x48 x49 x50 true x188000 x188001 x188002)) else (letterbaglaw01_CivilWrong.j2 k x0 x48 x49 x50 true x188000 x188001 x188002)) else (letterbaglaw01_CivilWrong.j2 k x0 x48 x49 x50 true x188000 x188001 x188002))))))
def letterbaglaw01_CivilWrong.j2 : Nat → Int → List (S32) → Int → Int → Bool → Int → Int → Int → Option (Bool)
  | 0, _, _, _, _, _, _, _, _ => none
  | k + 1, x0, x48, x49, x50, x179, x188000, x188001, x188002 => if x179 = true then (some false) else ((civil_Yearly.f k x188000 0 0).bind fun bt207 => ((civil_Between.f (mn x188000 0) x188000 ([] : List Int)).bind fun bt209 => (if bt207.2 = x188002 then (if bt209.2 = x188002 then (if bt207.1 = true then (some false) else (if bt209.1 = 0 then (letterbaglaw01_CivilWrong.l0 k x0 x48 x49 (wrap64 (x50 + 1))) else (some false))) else (some false)) else (some false))))
end
def letterbaglaw01_CivilWrong.f (k : Nat) (a0 : Int) (a1 : Int) : Option (Bool) := (letterbaglaw01_awake.f k).bind fun t178 => (if t178 = true then ((letterbagkit_Pick.f a0 1099511627776).bind fun t179 => ((letterbagkit_Pick.f a1 1099511627776).bind fun t180 => ((letterbagkit_Pick.f a0 1099511627776).bind fun t181 => ((letterbagkit_Pick.f a1 1099511627776).bind fun t182 => ((some (([(⟨wrap64 ((-1) - t179), wrap64 ((-1) - t180), 2⟩ : S32), (⟨wrap64 (730485 + t181), wrap64 (1051898400 + t182), 3⟩ : S32)] : List (S32)) : List (S32))).bind fun y183 => (letterbaglaw01_CivilWrong.l0 k a0 y183 (y183.length : Int) 0)))))) else (some false))
theorem letterbaglaw01_CivilWrong.mono_l : ∀ k, (∀ y0 y1 y2 y3, LeO (letterbaglaw01_CivilWrong.l0 k y0 y1 y2 y3) (letterbaglaw01_CivilWrong.l0 (k + 1) y0 y1 y2 y3)) ∧ (∀ y0 y1 y2 y3 y4 y5 y6 y7, LeO (letterbaglaw01_CivilWrong.j1 k y0 y1 y2 y3 y4 y5 y6 y7) (letterbaglaw01_CivilWrong.j1 (k + 1) y0 y1 y2 y3 y4 y5 y6 y7)) ∧ (∀ y0 y1 y2 y3 y4 y5 y6 y7, LeO (letterbaglaw01_CivilWrong.j2 k y0 y1 y2 y3 y4 y5 y6 y7) (letterbaglaw01_CivilWrong.j2 (k + 1) y0 y1 y2 y3 y4 y5 y6 y7))
  | 0 => ⟨fun _ _ _ _ r h => by simp [letterbaglaw01_CivilWrong.l0] at h, fun _ _ _ _ _ _ _ _ r h => by simp [letterbaglaw01_CivilWrong.j1] at h, fun _ _ _ _ _ _ _ _ r h => by simp [letterbaglaw01_CivilWrong.j2] at h⟩
  | k + 1 => by
    obtain ⟨ih0, ih1, ih2⟩ := letterbaglaw01_CivilWrong.mono_l k
    refine ⟨?_, ?_, ?_⟩
    · intro y0 y1 y2 y3
      unfold letterbaglaw01_CivilWrong.l0
      repeat' first
      | (with_reducible exact ih0 _ _ _ _)
      | (with_reducible exact ih1 _ _ _ _ _ _ _ _)
      | (with_reducible exact ih2 _ _ _ _ _ _ _ _)
      | (with_reducible exact civil_Ahead.mono _ _ _ _)
      | (with_reducible exact civil_Date.mono _ _)
      | (with_reducible exact civil_Right.mono _ _)
      | (with_reducible exact civil_Text.mono _ _)
      | (with_reducible exact civil_Time.mono _ _ _)
      | (with_reducible exact civil_TimeText.mono _ _)
      | (with_reducible exact civil_Works.mono _ _ _)
      | (with_reducible exact civil_Yearly.mono _ _ _ _)
      | (with_reducible exact letterbaglaw01_awake.mono _)
      | (with_reducible exact LeO.refl _)
      | (with_reducible exact LeO.none _)
      | (with_reducible refine LeO.ite ?_ ?_)
      | (with_reducible refine LeO.bind ?_ (fun _ => ?_))
      | exact ih0 _ _ _ _
      | exact ih1 _ _ _ _ _ _ _ _
      | exact ih2 _ _ _ _ _ _ _ _
      | exact civil_Ahead.mono _ _ _ _
      | exact civil_Date.mono _ _
      | exact civil_Right.mono _ _
      | exact civil_Text.mono _ _
      | exact civil_Time.mono _ _ _
      | exact civil_TimeText.mono _ _
      | exact civil_Works.mono _ _ _
      | exact civil_Yearly.mono _ _ _ _
      | exact letterbaglaw01_awake.mono _
      | exact LeO.none _
      | refine LeO.ite ?_ ?_
      | refine LeO.bind ?_ (fun _ => ?_)
    · intro y0 y1 y2 y3 y4 y5 y6 y7
      unfold letterbaglaw01_CivilWrong.j1
      repeat' first
      | (with_reducible exact ih0 _ _ _ _)
      | (with_reducible exact ih1 _ _ _ _ _ _ _ _)
      | (with_reducible exact ih2 _ _ _ _ _ _ _ _)
      | (with_reducible exact civil_Ahead.mono _ _ _ _)
      | (with_reducible exact civil_Date.mono _ _)
      | (with_reducible exact civil_Right.mono _ _)
      | (with_reducible exact civil_Text.mono _ _)
      | (with_reducible exact civil_Time.mono _ _ _)
      | (with_reducible exact civil_TimeText.mono _ _)
      | (with_reducible exact civil_Works.mono _ _ _)
      | (with_reducible exact civil_Yearly.mono _ _ _ _)
      | (with_reducible exact letterbaglaw01_awake.mono _)
      | (with_reducible exact LeO.refl _)
      | (with_reducible exact LeO.none _)
      | (with_reducible refine LeO.ite ?_ ?_)
      | (with_reducible refine LeO.bind ?_ (fun _ => ?_))
      | exact ih0 _ _ _ _
      | exact ih1 _ _ _ _ _ _ _ _
      | exact ih2 _ _ _ _ _ _ _ _
      | exact civil_Ahead.mono _ _ _ _
      | exact civil_Date.mono _ _
      | exact civil_Right.mono _ _
      | exact civil_Text.mono _ _
      | exact civil_Time.mono _ _ _
      | exact civil_TimeText.mono _ _
      | exact civil_Works.mono _ _ _
      | exact civil_Yearly.mono _ _ _ _
      | exact letterbaglaw01_awake.mono _
      | exact LeO.none _
      | refine LeO.ite ?_ ?_
      | refine LeO.bind ?_ (fun _ => ?_)
    · intro y0 y1 y2 y3 y4 y5 y6 y7
      unfold letterbaglaw01_CivilWrong.j2
      repeat' first
      | (with_reducible exact ih0 _ _ _ _)
      | (with_reducible exact ih1 _ _ _ _ _ _ _ _)
      | (with_reducible exact ih2 _ _ _ _ _ _ _ _)
      | (with_reducible exact civil_Ahead.mono _ _ _ _)
      | (with_reducible exact civil_Date.mono _ _)
      | (with_reducible exact civil_Right.mono _ _)
      | (with_reducible exact civil_Text.mono _ _)
      | (with_reducible exact civil_Time.mono _ _ _)
      | (with_reducible exact civil_TimeText.mono _ _)
      | (with_reducible exact civil_Works.mono _ _ _)
      | (with_reducible exact civil_Yearly.mono _ _ _ _)
      | (with_reducible exact letterbaglaw01_awake.mono _)
      | (with_reducible exact LeO.refl _)
      | (with_reducible exact LeO.none _)
      | (with_reducible refine LeO.ite ?_ ?_)
      | (with_reducible refine LeO.bind ?_ (fun _ => ?_))
      | exact ih0 _ _ _ _
      | exact ih1 _ _ _ _ _ _ _ _
      | exact ih2 _ _ _ _ _ _ _ _
      | exact civil_Ahead.mono _ _ _ _
      | exact civil_Date.mono _ _
      | exact civil_Right.mono _ _
      | exact civil_Text.mono _ _
      | exact civil_Time.mono _ _ _
      | exact civil_TimeText.mono _ _
      | exact civil_Works.mono _ _ _
      | exact civil_Yearly.mono _ _ _ _
      | exact letterbaglaw01_awake.mono _
      | exact LeO.none _
      | refine LeO.ite ?_ ?_
      | refine LeO.bind ?_ (fun _ => ?_)
theorem letterbaglaw01_CivilWrong.mono : ∀ a0 a1 k, LeO (letterbaglaw01_CivilWrong.f k a0 a1) (letterbaglaw01_CivilWrong.f (k + 1) a0 a1) := by
  intro a0 a1 k
  obtain ⟨ih0, ih1, ih2⟩ := letterbaglaw01_CivilWrong.mono_l k
  unfold letterbaglaw01_CivilWrong.f
  repeat' first
      | (with_reducible exact ih0 _ _ _ _)
      | (with_reducible exact ih1 _ _ _ _ _ _ _ _)
      | (with_reducible exact ih2 _ _ _ _ _ _ _ _)
      | (with_reducible exact civil_Ahead.mono _ _ _ _)
      | (with_reducible exact civil_Date.mono _ _)
      | (with_reducible exact civil_Right.mono _ _)
      | (with_reducible exact civil_Text.mono _ _)
      | (with_reducible exact civil_Time.mono _ _ _)
      | (with_reducible exact civil_TimeText.mono _ _)
      | (with_reducible exact civil_Works.mono _ _ _)
      | (with_reducible exact civil_Yearly.mono _ _ _ _)
      | (with_reducible exact letterbaglaw01_awake.mono _)
      | (with_reducible exact LeO.refl _)
      | (with_reducible exact LeO.none _)
      | (with_reducible refine LeO.ite ?_ ?_)
      | (with_reducible refine LeO.bind ?_ (fun _ => ?_))
      | exact ih0 _ _ _ _
      | exact ih1 _ _ _ _ _ _ _ _
      | exact ih2 _ _ _ _ _ _ _ _
      | exact civil_Ahead.mono _ _ _ _
      | exact civil_Date.mono _ _
      | exact civil_Right.mono _ _
      | exact civil_Text.mono _ _
      | exact civil_Time.mono _ _ _
      | exact civil_TimeText.mono _ _
      | exact civil_Works.mono _ _ _
      | exact civil_Yearly.mono _ _ _ _
      | exact letterbaglaw01_awake.mono _
      | exact LeO.none _
      | refine LeO.ite ?_ ?_
      | refine LeO.bind ?_ (fun _ => ?_)
set_option maxHeartbeats 8000000 in
set_option maxRecDepth 100000 in
theorem letterbaglaw01_CivilWrong.calls (k : Nat) (a0 : Int) (a1 : Int) (w : World) (hg : Aside0 (Tab w)) (h : letterbaglaw01_CivilWrong.f k a0 a1 = some true) :
    Calls Tryd.prog 4 #[.int .i64 a0, .int .i64 a1] w fun e w' => e = .returned (.bool true) ∧ Below w.heap.size w w' := by
  have hu32 := Tryd.underlying32
  have HB := Aside0.mk (Below.refl w.heap.size w)
  have H : ((letterbaglaw01_awake.f k).bind fun t178 => (if t178 = true then ((letterbagkit_Pick.f a0 1099511627776).bind fun t179 => ((letterbagkit_Pick.f a1 1099511627776).bind fun t180 => ((letterbagkit_Pick.f a0 1099511627776).bind fun t181 => ((letterbagkit_Pick.f a1 1099511627776).bind fun t182 => ((some (([(⟨wrap64 ((-1) - t179), wrap64 ((-1) - t180), 2⟩ : S32), (⟨wrap64 (730485 + t181), wrap64 (1051898400 + t182), 3⟩ : S32)] : List (S32)) : List (S32))).bind fun y183 => (letterbaglaw01_CivilWrong.l0 k a0 y183 (y183.length : Int) 0)))))) else (some false))) = some true := h
  clear h
  replace H := Option.bind_eq_some_iff.mp H
  obtain ⟨t178, A30, H⟩ := H
  replace H : (if t178 = true then ((letterbagkit_Pick.f a0 1099511627776).bind fun t179 => ((letterbagkit_Pick.f a1 1099511627776).bind fun t180 => ((letterbagkit_Pick.f a0 1099511627776).bind fun t181 => ((letterbagkit_Pick.f a1 1099511627776).bind fun t182 => ((some (([(⟨wrap64 ((-1) - t179), wrap64 ((-1) - t180), 2⟩ : S32), (⟨wrap64 (730485 + t181), wrap64 (1051898400 + t182), 3⟩ : S32)] : List (S32)) : List (S32))).bind fun y183 => (letterbaglaw01_CivilWrong.l0 k a0 y183 (y183.length : Int) 0)))))) else (some false)) = some true := H
  have A3 := Aside0.mk A30
  clear A30
  by_cases c4 : t178 = true
  · subst c4
    have H1 : ((letterbagkit_Pick.f a0 1099511627776).bind fun t179 => ((letterbagkit_Pick.f a1 1099511627776).bind fun t180 => ((letterbagkit_Pick.f a0 1099511627776).bind fun t181 => ((letterbagkit_Pick.f a1 1099511627776).bind fun t182 => ((some (([(⟨wrap64 ((-1) - t179), wrap64 ((-1) - t180), 2⟩ : S32), (⟨wrap64 (730485 + t181), wrap64 (1051898400 + t182), 3⟩ : S32)] : List (S32)) : List (S32))).bind fun y183 => (letterbaglaw01_CivilWrong.l0 k a0 y183 (y183.length : Int) 0)))))) = some true := by rw [if_pos rfl] at H; exact H
    clear H
    have H := H1
    clear H1
    replace H := Option.bind_eq_some_iff.mp H
    obtain ⟨t179, A50, H⟩ := H
    replace H : ((letterbagkit_Pick.f a1 1099511627776).bind fun t180 => ((letterbagkit_Pick.f a0 1099511627776).bind fun t181 => ((letterbagkit_Pick.f a1 1099511627776).bind fun t182 => ((some (([(⟨wrap64 ((-1) - t179), wrap64 ((-1) - t180), 2⟩ : S32), (⟨wrap64 (730485 + t181), wrap64 (1051898400 + t182), 3⟩ : S32)] : List (S32)) : List (S32))).bind fun y183 => (letterbaglaw01_CivilWrong.l0 k a0 y183 (y183.length : Int) 0))))) = some true := H
    have A5 := Aside0.mk A50
    clear A50
    replace H := Option.bind_eq_some_iff.mp H
    obtain ⟨t180, A60, H⟩ := H
    replace H : ((letterbagkit_Pick.f a0 1099511627776).bind fun t181 => ((letterbagkit_Pick.f a1 1099511627776).bind fun t182 => ((some (([(⟨wrap64 ((-1) - t179), wrap64 ((-1) - t180), 2⟩ : S32), (⟨wrap64 (730485 + t181), wrap64 (1051898400 + t182), 3⟩ : S32)] : List (S32)) : List (S32))).bind fun y183 => (letterbaglaw01_CivilWrong.l0 k a0 y183 (y183.length : Int) 0)))) = some true := H
    have A6 := Aside0.mk A60
    clear A60
    replace H := Option.bind_eq_some_iff.mp H
    obtain ⟨t181, A70, H⟩ := H
    replace H : ((letterbagkit_Pick.f a1 1099511627776).bind fun t182 => ((some (([(⟨wrap64 ((-1) - t179), wrap64 ((-1) - t180), 2⟩ : S32), (⟨wrap64 (730485 + t181), wrap64 (1051898400 + t182), 3⟩ : S32)] : List (S32)) : List (S32))).bind fun y183 => (letterbaglaw01_CivilWrong.l0 k a0 y183 (y183.length : Int) 0))) = some true := H
    have A7 := Aside0.mk A70
    clear A70
    replace H := Option.bind_eq_some_iff.mp H
    obtain ⟨t182, A80, H⟩ := H
    replace H : ((some (([(⟨wrap64 ((-1) - t179), wrap64 ((-1) - t180), 2⟩ : S32), (⟨wrap64 (730485 + t181), wrap64 (1051898400 + t182), 3⟩ : S32)] : List (S32)) : List (S32))).bind fun y183 => (letterbaglaw01_CivilWrong.l0 k a0 y183 (y183.length : Int) 0)) = some true := H
    have A8 := Aside0.mk A80
    clear A80
    obtain ⟨y183, hy183⟩ : ∃ y_ : List (S32), y_ = (([(⟨wrap64 ((-1) - t179), wrap64 ((-1) - t180), 2⟩ : S32), (⟨wrap64 (730485 + t181), wrap64 (1051898400 + t182), 3⟩ : S32)] : List (S32))) := ⟨_, rfl⟩
    replace H : (letterbaglaw01_CivilWrong.l0 k a0 y183 (y183.length : Int) 0) = some true := by first | (rw [hy183]; with_reducible exact H) | (have H2_ := (Option.bind_some _ _).symm.trans H; rw [hy183]; with_reducible exact H2_) | (have H2_ := (Option.bind_some _ _).symm.trans H; with_reducible exact H2_) | with_reducible exact H | (rw [hy183]; exact H) | exact H
    have Ny183 := Aside0.mk hy183
    clear hy183
    have H' := Aside0.mk H
    clear H
    go_enter Tryd.func4, Tryd.ntmps4
    go_wp2_with (first | ((with_reducible refine gate_callee (f := 17) rfl ?_); refine goesL_ (some 32) rfl rfl Tryd.func17 (by kernel_rfl) rfl #[] rfl (by (try simp only [List.map_toArray, List.map_cons, List.map_nil]); first | done | rfl | (simp only [List.length_drop, List.length_take]; rfl)) ?_; (with_reducible refine (letterbaglaw01_awake.calls k  true _ ?tabG A3.out).mono ?_); (case tabG => (first | exact hg | exact ⟨hg.out.below (by repeat (first | (with_reducible first | exact HB.out | apply below_alloc | apply pw_below_drewN | apply below_drew1) | exact HB.out))⟩)); rintro e w9 ⟨rfl, hb⟩; refine ⟨_, rfl, ?_⟩; have n0_ := Aside0.mk (below_step (by repeat (first | (with_reducible first | exact HB.out | apply below_alloc | apply pw_below_drewN | apply below_drew1) | exact HB.out)) hb); clear HB; have HB := n0_; clear n0_; (try clear hb); (try clear hb2); (try clear hk); (try clear hi)) | ((with_reducible refine gate_callee (f := 18) rfl ?_); refine goesL_ (some 35) rfl rfl Tryd.func18 (by kernel_rfl) rfl #[.int .i64 a0, .int .i64 1099511627776] rfl (by (try simp only [List.map_toArray, List.map_cons, List.map_nil]); first | done | rfl | (simp only [List.length_drop, List.length_take]; rfl)) ?_; (with_reducible refine (letterbagkit_Pick.calls a0 1099511627776 t179 _ A5.out).mono ?_); rintro e w' ⟨rfl, ⟨nd, rfl⟩⟩; refine ⟨_, rfl, ?_⟩) | ((with_reducible refine gate_callee (f := 18) rfl ?_); refine goesL_ (some 38) rfl rfl Tryd.func18 (by kernel_rfl) rfl #[.int .i64 a1, .int .i64 1099511627776] rfl (by (try simp only [List.map_toArray, List.map_cons, List.map_nil]); first | done | rfl | (simp only [List.length_drop, List.length_take]; rfl)) ?_; (with_reducible refine (letterbagkit_Pick.calls a1 1099511627776 t180 _ A6.out).mono ?_); rintro e w' ⟨rfl, ⟨nd, rfl⟩⟩; refine ⟨_, rfl, ?_⟩) | ((with_reducible refine gate_callee (f := 18) rfl ?_); refine goesL_ (some 42) rfl rfl Tryd.func18 (by kernel_rfl) rfl #[.int .i64 a0, .int .i64 1099511627776] rfl (by (try simp only [List.map_toArray, List.map_cons, List.map_nil]); first | done | rfl | (simp only [List.length_drop, List.length_take]; rfl)) ?_; (with_reducible refine (letterbagkit_Pick.calls a0 1099511627776 t181 _ A7.out).mono ?_); rintro e w' ⟨rfl, ⟨nd, rfl⟩⟩; refine ⟨_, rfl, ?_⟩) | ((with_reducible refine gate_callee (f := 18) rfl ?_); refine goesL_ (some 45) rfl rfl Tryd.func18 (by kernel_rfl) rfl #[.int .i64 a1, .int .i64 1099511627776] rfl (by (try simp only [List.map_toArray, List.map_cons, List.map_nil]); first | done | rfl | (simp only [List.length_drop, List.length_take]; rfl)) ?_; (with_reducible refine (letterbagkit_Pick.calls a1 1099511627776 t182 _ A8.out).mono ?_); rintro e w' ⟨rfl, ⟨nd, rfl⟩⟩; refine ⟨_, rfl, ?_⟩) | ((with_reducible refine gate_dst (N := 48) rfl ?_); refine Kd.R_lit k32 _ 32 ?hg (N := 48) ?hd (xs := ([(⟨wrap64 ((-1) - t179), wrap64 ((-1) - t180), 2⟩ : S32), (⟨wrap64 (730485 + t181), wrap64 (1051898400 + t182), 3⟩ : S32)] : List (S32))) (inner := [.int .i64 (wrap64 ((-1) - t179)), .int .i64 (wrap64 ((-1) - t180)), .int .i64 2, .int .i64 (wrap64 (730485 + t181)), .int .i64 (wrap64 (1051898400 + t182)), .int .i64 3]) (ok := fun _ => True) (okp := fun _ => True) ?hr ?hp (fun _ hk => hk) trivial (Below.refl _ _) (Nat.le_refl _) (by simp) ?_; (case hd => rfl); (case hg => rfl); (case hr => first | (go_simp; done) | (go_simp; rfl)); (case hp => exact (Reps.c3 (show Kd.M k32 _ _ _ (⟨wrap64 ((-1) - t179), wrap64 ((-1) - t180), 2⟩ : S32) [.int .i64 (wrap64 ((-1) - t179)), .int .i64 (wrap64 ((-1) - t180)), .int .i64 2] from (k32_mkM _ _ _ (⟨wrap64 ((-1) - t179), wrap64 ((-1) - t180), 2⟩ : S32) )) (Reps.c3 (show Kd.M k32 _ _ _ (⟨wrap64 (730485 + t181), wrap64 (1051898400 + t182), 3⟩ : S32) [.int .i64 (wrap64 (730485 + t181)), .int .i64 (wrap64 (1051898400 + t182)), .int .i64 3] from (k32_mkM _ _ _ (⟨wrap64 (730485 + t181), wrap64 (1051898400 + t182), 3⟩ : S32) )) (Reps.none _ _)))); intro v184 w10 ho11 hb hg_ hnew_; clear hg_ hnew_; (first | rw [← Ny183.out] at ho11 | (simp only [Int.reduceToNat] at ho11; rw [← Ny183.out] at ho11)); have n0_ := Aside0.mk (Kd.R_lower ho11 (below_size (by repeat (first | (with_reducible first | exact HB.out | apply below_alloc | apply pw_below_drewN | apply below_drew1) | exact HB.out)))); have n1_ := Aside0.mk (below_step (by repeat (first | (with_reducible first | exact HB.out | apply below_alloc | apply pw_below_drewN | apply below_drew1) | exact HB.out)) hb); clear HB; have HO185 := n0_; have HB := n1_; clear n0_ n1_; clear hb ho11; obtain ⟨Ao12, co12, eo12⟩ := Kd.R_slice HO185.out; subst eo12))
    go_loopg [50] k (fun kq v50 w' => ∃ (x50_1 : Int), v50 = .int .i64 x50_1 ∧ Aside0 (letterbaglaw01_CivilWrong.l0 kq a0 y183 (y183.length : Int) x50_1 = some true) ∧ Aside0 (kq ≤ k) ∧ Aside0 (Kd.R k32 32 w' w.heap.size (fun _ => True) (.slice Ao12 y183.length co12) y183) ∧ Aside0 (Below w.heap.size w w'))
    case atStart => exact ⟨(0), (by first | rfl | (simp; done) | (simp [*]; done) | (simp; exact (show ∀ a_ b_ : Bool, (a_ == b_) = (!(a_ != b_)) from by decide) _ _) | (rw [Bool.eq_iff_iff]; simp; done) | (simp; rw [Bool.eq_iff_iff]; simp; done)), H', ⟨Nat.le_refl _⟩, ⟨by (with_reducible repeat (first | apply Kd.R_alloc | apply Kd.R_drewN | apply Kd.R_drew)); exact HO185.out⟩, ⟨by repeat (first | (with_reducible first | exact HB.out | apply below_alloc | apply pw_below_drewN | apply below_drew1) | exact HB.out)⟩⟩
    case round => as_aux_lemma =>
      clear H'
      try clear c1
      try clear p2
      try clear c3
      try clear c4
      try clear p6
      obtain ⟨x50_1, rfl, HA, HK1, HO_48, HB⟩ := hrel
      cases gk with
      | zero => exact absurd HA.out (by simp [letterbaglaw01_CivilWrong.l0])
      | succ k1 =>
        have H := HA.out
        clear HA
        simp only [letterbaglaw01_CivilWrong.l0] at H
        by_cases c13 : x50_1 < (y183.length : Int)
        · rw [if_pos c13] at H
          have c13b0 : decide (x50_1 < (y183.length : Int)) = true := decide_eq_true c13
          clear c13
          by_cases c14 : 0 ≤ x50_1
          · rw [if_pos c14] at H
            have c14b0 : decide (0 ≤ x50_1) = true := decide_eq_true c14
            clear c14
            by_cases c15 : x50_1 < (y183.length : Int)
            · rw [if_pos c15] at H
              have c15b0 : decide (x50_1 < (y183.length : Int)) = true := decide_eq_true c15
              clear c15
              replace H := Option.bind_eq_some_iff.mp H
              obtain ⟨⟨t188, t189, t190, t191⟩, A160, H⟩ := H
              replace H : ((civil_Weekday.f ((rd_T32 y183 x50_1).f0)).bind fun bt192 => ((civil_Text.f k1 ((rd_T32 y183 x50_1).f0)).bind fun bt194 => ((civil_Time.f k1 ((rd_T32 y183 x50_1).f0) 0).bind fun bt196 => (if t191 = ((rd_T32 y183 x50_1).f2) then (if bt192.2 = ((rd_T32 y183 x50_1).f2) then (if bt194.2 = ((rd_T32 y183 x50_1).f2) then (if bt196.2 = ((rd_T32 y183 x50_1).f2) then (if (wrap64 ((wrap64 ((wrap64 ((wrap64 (t188 + t189)) + t190)) + bt192.1)) + bt196.1)) = 0 then (letterbaglaw01_CivilWrong.j1 k1 a0 y183 (y183.length : Int) x50_1 (bt194.1.toList != ([] : List UInt8)) ((rd_T32 y183 x50_1).f0) ((rd_T32 y183 x50_1).f1) ((rd_T32 y183 x50_1).f2)) else (letterbaglaw01_CivilWrong.j1 k1 a0 y183 (y183.length : Int) x50_1 true ((rd_T32 y183 x50_1).f0) ((rd_T32 y183 x50_1).f1) ((rd_T32 y183 x50_1).f2))) else (letterbaglaw01_CivilWrong.j1 k1 a0 y183 (y183.length : Int) x50_1 true ((rd_T32 y183 x50_1).f0) ((rd_T32 y183 x50_1).f1) ((rd_T32 y183 x50_1).f2))) else (letterbaglaw01_CivilWrong.j1 k1 a0 y183 (y183.length : Int) x50_1 true ((rd_T32 y183 x50_1).f0) ((rd_T32 y183 x50_1).f1) ((rd_T32 y183 x50_1).f2))) else (letterbaglaw01_CivilWrong.j1 k1 a0 y183 (y183.length : Int) x50_1 true ((rd_T32 y183 x50_1).f0) ((rd_T32 y183 x50_1).f1) ((rd_T32 y183 x50_1).f2))) else (letterbaglaw01_CivilWrong.j1 k1 a0 y183 (y183.length : Int) x50_1 true ((rd_T32 y183 x50_1).f0) ((rd_T32 y183 x50_1).f1) ((rd_T32 y183 x50_1).f2)))))) = some true := H
              have A16 := Aside0.mk A160
              clear A160
              replace H := Option.bind_eq_some_iff.mp H
              obtain ⟨⟨t192, t193⟩, A170, H⟩ := H
              replace H : ((civil_Text.f k1 ((rd_T32 y183 x50_1).f0)).bind fun bt194 => ((civil_Time.f k1 ((rd_T32 y183 x50_1).f0) 0).bind fun bt196 => (if t191 = ((rd_T32 y183 x50_1).f2) then (if t193 = ((rd_T32 y183 x50_1).f2) then (if bt194.2 = ((rd_T32 y183 x50_1).f2) then (if bt196.2 = ((rd_T32 y183 x50_1).f2) then (if (wrap64 ((wrap64 ((wrap64 ((wrap64 (t188 + t189)) + t190)) + t192)) + bt196.1)) = 0 then (letterbaglaw01_CivilWrong.j1 k1 a0 y183 (y183.length : Int) x50_1 (bt194.1.toList != ([] : List UInt8)) ((rd_T32 y183 x50_1).f0) ((rd_T32 y183 x50_1).f1) ((rd_T32 y183 x50_1).f2)) else (letterbaglaw01_CivilWrong.j1 k1 a0 y183 (y183.length : Int) x50_1 true ((rd_T32 y183 x50_1).f0) ((rd_T32 y183 x50_1).f1) ((rd_T32 y183 x50_1).f2))) else (letterbaglaw01_CivilWrong.j1 k1 a0 y183 (y183.length : Int) x50_1 true ((rd_T32 y183 x50_1).f0) ((rd_T32 y183 x50_1).f1) ((rd_T32 y183 x50_1).f2))) else (letterbaglaw01_CivilWrong.j1 k1 a0 y183 (y183.length : Int) x50_1 true ((rd_T32 y183 x50_1).f0) ((rd_T32 y183 x50_1).f1) ((rd_T32 y183 x50_1).f2))) else (letterbaglaw01_CivilWrong.j1 k1 a0 y183 (y183.length : Int) x50_1 true ((rd_T32 y183 x50_1).f0) ((rd_T32 y183 x50_1).f1) ((rd_T32 y183 x50_1).f2))) else (letterbaglaw01_CivilWrong.j1 k1 a0 y183 (y183.length : Int) x50_1 true ((rd_T32 y183 x50_1).f0) ((rd_T32 y183 x50_1).f1) ((rd_T32 y183 x50_1).f2))))) = some true := H
              have A17 := Aside0.mk A170
              clear A170
              replace H := Option.bind_eq_some_iff.mp H
              obtain ⟨⟨t194, t195⟩, A180, H⟩ := H
              replace H : ((civil_Time.f k1 ((rd_T32 y183 x50_1).f0) 0).bind fun bt196 => (if t191 = ((rd_T32 y183 x50_1).f2) then (if t193 = ((rd_T32 y183 x50_1).f2) then (if t195 = ((rd_T32 y183 x50_1).f2) then (if bt196.2 = ((rd_T32 y183 x50_1).f2) then (if (wrap64 ((wrap64 ((wrap64 ((wrap64 (t188 + t189)) + t190)) + t192)) + bt196.1)) = 0 then (letterbaglaw01_CivilWrong.j1 k1 a0 y183 (y183.length : Int) x50_1 (t194.toList != ([] : List UInt8)) ((rd_T32 y183 x50_1).f0) ((rd_T32 y183 x50_1).f1) ((rd_T32 y183 x50_1).f2)) else (letterbaglaw01_CivilWrong.j1 k1 a0 y183 (y183.length : Int) x50_1 true ((rd_T32 y183 x50_1).f0) ((rd_T32 y183 x50_1).f1) ((rd_T32 y183 x50_1).f2))) else (letterbaglaw01_CivilWrong.j1 k1 a0 y183 (y183.length : Int) x50_1 true ((rd_T32 y183 x50_1).f0) ((rd_T32 y183 x50_1).f1) ((rd_T32 y183 x50_1).f2))) else (letterbaglaw01_CivilWrong.j1 k1 a0 y183 (y183.length : Int) x50_1 true ((rd_T32 y183 x50_1).f0) ((rd_T32 y183 x50_1).f1) ((rd_T32 y183 x50_1).f2))) else (letterbaglaw01_CivilWrong.j1 k1 a0 y183 (y183.length : Int) x50_1 true ((rd_T32 y183 x50_1).f0) ((rd_T32 y183 x50_1).f1) ((rd_T32 y183 x50_1).f2))) else (letterbaglaw01_CivilWrong.j1 k1 a0 y183 (y183.length : Int) x50_1 true ((rd_T32 y183 x50_1).f0) ((rd_T32 y183 x50_1).f1) ((rd_T32 y183 x50_1).f2)))) = some true := H
              have A18 := Aside0.mk A180
              clear A180
              replace H := Option.bind_eq_some_iff.mp H
              obtain ⟨⟨t196, t197⟩, A190, H⟩ := H
              replace H : (if t191 = ((rd_T32 y183 x50_1).f2) then (if t193 = ((rd_T32 y183 x50_1).f2) then (if t195 = ((rd_T32 y183 x50_1).f2) then (if t197 = ((rd_T32 y183 x50_1).f2) then (if (wrap64 ((wrap64 ((wrap64 ((wrap64 (t188 + t189)) + t190)) + t192)) + t196)) = 0 then (letterbaglaw01_CivilWrong.j1 k1 a0 y183 (y183.length : Int) x50_1 (t194.toList != ([] : List UInt8)) ((rd_T32 y183 x50_1).f0) ((rd_T32 y183 x50_1).f1) ((rd_T32 y183 x50_1).f2)) else (letterbaglaw01_CivilWrong.j1 k1 a0 y183 (y183.length : Int) x50_1 true ((rd_T32 y183 x50_1).f0) ((rd_T32 y183 x50_1).f1) ((rd_T32 y183 x50_1).f2))) else (letterbaglaw01_CivilWrong.j1 k1 a0 y183 (y183.length : Int) x50_1 true ((rd_T32 y183 x50_1).f0) ((rd_T32 y183 x50_1).f1) ((rd_T32 y183 x50_1).f2))) else (letterbaglaw01_CivilWrong.j1 k1 a0 y183 (y183.length : Int) x50_1 true ((rd_T32 y183 x50_1).f0) ((rd_T32 y183 x50_1).f1) ((rd_T32 y183 x50_1).f2))) else (letterbaglaw01_CivilWrong.j1 k1 a0 y183 (y183.length : Int) x50_1 true ((rd_T32 y183 x50_1).f0) ((rd_T32 y183 x50_1).f1) ((rd_T32 y183 x50_1).f2))) else (letterbaglaw01_CivilWrong.j1 k1 a0 y183 (y183.length : Int) x50_1 true ((rd_T32 y183 x50_1).f0) ((rd_T32 y183 x50_1).f1) ((rd_T32 y183 x50_1).f2))) = some true := H
              have A19 := Aside0.mk A190
              clear A190
              have HC20 := Aside0.mk H
              clear H
              have p186 : 0 ≤ (x50_1 : Int) := of_decide_eq_true (by first | (with_reducible assumption) | assumption)
              have q186 : x50_1 < (y183.length : Int) := of_decide_eq_true (by first | (with_reducible assumption) | assumption)
              obtain ⟨ad186, e186, hx186_0, hx186_1, hx186_2⟩ := at_T32 (Kd.R_reads' HO_48.out).2.2 x50_1 p186 q186
              cases e186
              replace p186 := eq_true p186
              replace q186 := eq_true q186
              go_upto_region 10 with (first | ((with_reducible refine gate_dst (N := 6) rfl ?_); refine box_event ?hg (N := 6) ?hd (cs := #[.int .i64 0, .int .i64 0, .int .i64 0]) (t := 32) ?hr ?_; (case hd => rfl); (case hg => rfl); (case hr => first | (go_simp; done) | (go_simp; rfl)); intro gb187 hg w21 hbox hb; have n0_ := Aside0.mk (Kd.R_below (Kd.R_elderB (by (with_reducible repeat (first | apply Kd.R_alloc | apply Kd.R_drewN | apply Kd.R_drew)); exact HO_48.out) gb187 (Nat.le_of_eq hg.symm)) hb); have n1_ := Aside0.mk (below_step (by repeat (first | (with_reducible first | exact HB.out | apply below_alloc | apply pw_below_drewN | apply below_drew1) | exact HB.out)) hb); have n2_ := Aside0.mk (hbox); have n3_ := Aside0.mk ((by rw [hg]; exact (below_size (by repeat (first | (with_reducible first | exact HB.out | apply below_alloc | apply pw_below_drewN | apply below_drew1) | exact HB.out))) : w.heap.size ≤ gb187)); have n4_ := Aside0.mk ((by rw [hg]; exact (below_size (by repeat (first | (with_reducible first | exact HB.out | apply below_alloc | apply pw_below_drewN | apply below_drew1) | exact HB.out))) : w.heap.size ≤ gb187)); clear HO_48; clear HB; have HO_48 := n0_; have HB := n1_; have BK187 := n2_; have GW187 := n3_; have GE187 := n4_; clear n0_ n1_ n2_ n3_ n4_; clear hb hbox hg; have hcz22_0 : w21.cell? ⟨gb187, 0, none⟩ = some (.int .i64 0) := (blk_cell BK187.out 0).trans rfl; have hcz22_1 : w21.cell? ⟨gb187, 1, none⟩ = some (.int .i64 0) := (blk_cell BK187.out 1).trans rfl; have hcz22_2 : w21.cell? ⟨gb187, 2, none⟩ = some (.int .i64 0) := (blk_cell BK187.out 2).trans rfl; have hfz22_0 := blk_frozen BK187.out 0; have hfz22_1 := blk_frozen BK187.out 1; have hfz22_2 := blk_frozen BK187.out 2) | ((with_reducible refine gate_callee (f := 19) rfl ?_); refine goesL_ (some 57) rfl rfl Tryd.func19 (by kernel_rfl) rfl #[.int .i64 ((rd_T32 y183 x50_1).f0)] rfl (by (try simp only [List.map_toArray, List.map_cons, List.map_nil]); first | done | rfl | (simp only [List.length_drop, List.length_take]; rfl)) ?_; (with_reducible refine (civil_Date.calls k1 ((rd_T32 y183 x50_1).f0) t188 t189 t190 t191 _ ?tabG A16.out).mono ?_); (case tabG => (first | exact hg | exact ⟨hg.out.below (by repeat (first | (with_reducible first | exact HB.out | apply below_alloc | apply pw_below_drewN | apply below_drew1 | refine below_set ?_ GE187.out) | exact HB.out))⟩)); rintro e w23 ⟨rfl, hb⟩; refine ⟨_, rfl, ?_⟩; have n0_ := Aside0.mk (Kd.R_below (by (with_reducible repeat (first | apply Kd.R_alloc | apply Kd.R_drewN | apply Kd.R_drew)); exact (Kd.R_mono (Kd.R_far (p := ⟨gb187, 2, none⟩) (Kd.R_far (p := ⟨gb187, 1, none⟩) (Kd.R_far (p := ⟨gb187, 0, none⟩) (Kd.R_mono HO_48.out (fun k_ hk => (⟨hk, hk.2⟩ : _ ∧ k_ ≠ gb187))) (fun _ hk => hk.2) (.int .i64 ((rd_T32 y183 x50_1).f0))) (fun _ hk => hk.2) (.int .i64 ((rd_T32 y183 x50_1).f1))) (fun _ hk => hk.2) (.int .i64 ((rd_T32 y183 x50_1).f2))) (fun _ h_ => h_.1))) hb); have n1_ := Aside0.mk (blk_below (g := gb187) (o := .cells #[.int .i64 ((rd_T32 y183 x50_1).f0), .int .i64 ((rd_T32 y183 x50_1).f1), .int .i64 ((rd_T32 y183 x50_1).f2)] 32 (0, 0)) (by (with_reducible repeat (first | refine blk_drewN ?_ _ | refine blk_drew ?_ | refine blk_alloc ?_ _)); refine blk_put (cs := #[.int .i64 ((rd_T32 y183 x50_1).f0), .int .i64 ((rd_T32 y183 x50_1).f1), .int .i64 0]) ?_ 2 _ rfl; (with_reducible repeat (first | refine blk_drewN ?_ _ | refine blk_drew ?_ | refine blk_alloc ?_ _)); refine blk_put (cs := #[.int .i64 ((rd_T32 y183 x50_1).f0), .int .i64 0, .int .i64 0]) ?_ 1 _ rfl; (with_reducible repeat (first | refine blk_drewN ?_ _ | refine blk_drew ?_ | refine blk_alloc ?_ _)); refine blk_put (cs := #[.int .i64 0, .int .i64 0, .int .i64 0]) ?_ 0 _ rfl; (with_reducible repeat (first | refine blk_drewN ?_ _ | refine blk_drew ?_ | refine blk_alloc ?_ _)); exact BK187.out) hb); have n2_ := Aside0.mk (below_step (by repeat (first | (with_reducible first | exact HB.out | apply below_alloc | apply pw_below_drewN | apply below_drew1 | refine below_set ?_ GE187.out) | exact HB.out)) hb); clear HO_48; clear BK187; clear HB; have HO_48 := n0_; have BK187 := n1_; have HB := n2_; clear n0_ n1_ n2_; (try clear hb); (try clear hb2); (try clear hk); (try clear hi); have hcz24_0 : w23.cell? ⟨gb187, 0, none⟩ = some (.int .i64 ((rd_T32 y183 x50_1).f0)) := (blk_cell BK187.out 0).trans rfl; have hcz24_1 : w23.cell? ⟨gb187, 1, none⟩ = some (.int .i64 ((rd_T32 y183 x50_1).f1)) := (blk_cell BK187.out 1).trans rfl; have hcz24_2 : w23.cell? ⟨gb187, 2, none⟩ = some (.int .i64 ((rd_T32 y183 x50_1).f2)) := (blk_cell BK187.out 2).trans rfl; have hfz24_0 := blk_frozen BK187.out 0; have hfz24_1 := blk_frozen BK187.out 1; have hfz24_2 := blk_frozen BK187.out 2) | ((with_reducible refine gate_callee (f := 20) rfl ?_); refine goesL_ (some 65) rfl rfl Tryd.func20 (by kernel_rfl) rfl #[.int .i64 ((rd_T32 y183 x50_1).f0)] rfl (by (try simp only [List.map_toArray, List.map_cons, List.map_nil]); first | done | rfl | (simp only [List.length_drop, List.length_take]; rfl)) ?_; (with_reducible refine (civil_Weekday.calls ((rd_T32 y183 x50_1).f0) t192 t193 _ A17.out).mono ?_); rintro e w' ⟨rfl, ⟨nd, rfl⟩⟩; refine ⟨_, rfl, ?_⟩) | ((with_reducible refine gate_callee (f := 21) rfl ?_); refine goesL_ (some 71) rfl rfl Tryd.func21 (by kernel_rfl) rfl #[.int .i64 ((rd_T32 y183 x50_1).f0)] rfl (by (try simp only [List.map_toArray, List.map_cons, List.map_nil]); first | done | rfl | (simp only [List.length_drop, List.length_take]; rfl)) ?_; (with_reducible refine (civil_Text.calls k1 ((rd_T32 y183 x50_1).f0) t194 t195 _ ?tabG A18.out).mono ?_); (case tabG => (first | exact hg | exact ⟨hg.out.below (by repeat (first | (with_reducible first | exact HB.out | apply below_alloc | apply pw_below_drewN | apply below_drew1 | refine below_set ?_ GE187.out) | exact HB.out))⟩)); rintro e w25 ⟨rfl, hb⟩; refine ⟨_, rfl, ?_⟩; have n0_ := Aside0.mk (Kd.R_below (by (with_reducible repeat (first | apply Kd.R_alloc | apply Kd.R_drewN | apply Kd.R_drew)); exact HO_48.out) hb); have n1_ := Aside0.mk (blk_below (g := gb187) (o := .cells #[.int .i64 ((rd_T32 y183 x50_1).f0), .int .i64 ((rd_T32 y183 x50_1).f1), .int .i64 ((rd_T32 y183 x50_1).f2)] 32 (0, 0)) (by (with_reducible repeat (first | refine blk_drewN ?_ _ | refine blk_drew ?_ | refine blk_alloc ?_ _)); exact BK187.out) hb); have n2_ := Aside0.mk (below_step (by repeat (first | (with_reducible first | exact HB.out | apply below_alloc | apply pw_below_drewN | apply below_drew1 | refine below_set ?_ GE187.out) | exact HB.out)) hb); clear HO_48; clear BK187; clear HB; have HO_48 := n0_; have BK187 := n1_; have HB := n2_; clear n0_ n1_ n2_; (try clear hb); (try clear hb2); (try clear hk); (try clear hi); have hcz26_0 : w25.cell? ⟨gb187, 0, none⟩ = some (.int .i64 ((rd_T32 y183 x50_1).f0)) := (blk_cell BK187.out 0).trans rfl; have hcz26_1 : w25.cell? ⟨gb187, 1, none⟩ = some (.int .i64 ((rd_T32 y183 x50_1).f1)) := (blk_cell BK187.out 1).trans rfl; have hcz26_2 : w25.cell? ⟨gb187, 2, none⟩ = some (.int .i64 ((rd_T32 y183 x50_1).f2)) := (blk_cell BK187.out 2).trans rfl; have hfz26_0 := blk_frozen BK187.out 0; have hfz26_1 := blk_frozen BK187.out 1; have hfz26_2 := blk_frozen BK187.out 2) | ((with_reducible refine gate_callee (f := 22) rfl ?_); refine goesL_ (some 77) rfl rfl Tryd.func22 (by kernel_rfl) rfl #[.int .i64 ((rd_T32 y183 x50_1).f0), .int .i64 0] rfl (by (try simp only [List.map_toArray, List.map_cons, List.map_nil]); first | done | rfl | (simp only [List.length_drop, List.length_take]; rfl)) ?_; (with_reducible refine (civil_Time.calls k1 ((rd_T32 y183 x50_1).f0) 0 t196 t197 _ A19.out).mono ?_); rintro e w' ⟨rfl, ⟨nd, rfl⟩⟩; refine ⟨_, rfl, ?_⟩))
              (try simp only [Act.put, List.setIfInBounds_toArray, List.set_cons_zero, List.set_cons_succ])
              go_cut [117] (fun v117 wc => ∃ (kq : Nat) (x117_19 : Bool), v117 = .bool x117_19 ∧ Aside0 (letterbaglaw01_CivilWrong.j1 kq a0 y183 (y183.length : Int) x50_1 x117_19 ((rd_T32 y183 x50_1).f0) ((rd_T32 y183 x50_1).f1) ((rd_T32 y183 x50_1).f2) = some true) ∧ Aside0 (kq ≤ k1) ∧ Aside0 (Kd.R k32 32 wc w.heap.size (fun k_ => k_ ≠ gb187) (.slice (some ad186) y183.length co12) y183) ∧ Aside0 (wc.heap[gb187]? = some (.cells #[.int .i64 ((rd_T32 y183 x50_1).f0), .int .i64 ((rd_T32 y183 x50_1).f1), .int .i64 ((rd_T32 y183 x50_1).f2)] 32 (0, 0))) ∧ Aside0 (Below w.heap.size w wc))
              case first => as_aux_lemma =>
                have H := HC20.out
                clear HC20
                by_cases c27 : t191 = ((rd_T32 y183 x50_1).f2)
                · rw [if_pos c27] at H
                  have c27b0 : (t191 == ((rd_T32 y183 x50_1).f2)) = true := beq_iff_eq.mpr c27
                  have c27b1 : (t191 != ((rd_T32 y183 x50_1).f2)) = false := bne_eq_false_iff_eq.mpr c27
                  clear c27
                  (first | rw [c27b0] | (simp only [i64_w, i32_w]; rw [c27b0]) | skip)
                  by_cases c28 : t193 = ((rd_T32 y183 x50_1).f2)
                  · rw [if_pos c28] at H
                    have c28b0 : (t193 == ((rd_T32 y183 x50_1).f2)) = true := beq_iff_eq.mpr c28
                    have c28b1 : (t193 != ((rd_T32 y183 x50_1).f2)) = false := bne_eq_false_iff_eq.mpr c28
                    clear c28
                    by_cases c29 : t195 = ((rd_T32 y183 x50_1).f2)
                    · rw [if_pos c29] at H
                      have c29b0 : (t195 == ((rd_T32 y183 x50_1).f2)) = true := beq_iff_eq.mpr c29
                      have c29b1 : (t195 != ((rd_T32 y183 x50_1).f2)) = false := bne_eq_false_iff_eq.mpr c29
                      clear c29
                      by_cases c30 : t197 = ((rd_T32 y183 x50_1).f2)
                      · rw [if_pos c30] at H
                        have c30b0 : (t197 == ((rd_T32 y183 x50_1).f2)) = true := beq_iff_eq.mpr c30
                        have c30b1 : (t197 != ((rd_T32 y183 x50_1).f2)) = false := bne_eq_false_iff_eq.mpr c30
                        clear c30
                        by_cases c31 : (wrap64 ((wrap64 ((wrap64 ((wrap64 (t188 + t189)) + t190)) + t192)) + t196)) = 0
                        · rw [if_pos c31] at H
                          have c31b0 : ((wrap64 ((wrap64 ((wrap64 ((wrap64 (t188 + t189)) + t190)) + t192)) + t196)) == 0) = true := beq_iff_eq.mpr c31
                          have c31b1 : ((wrap64 ((wrap64 ((wrap64 ((wrap64 (t188 + t189)) + t190)) + t192)) + t196)) != 0) = false := bne_eq_false_iff_eq.mpr c31
                          clear c31
                          have H' := Aside0.mk H
                          clear H
                          have hcz32_0 : w25.cell? ⟨gb187, 0, none⟩ = some (.int .i64 ((rd_T32 y183 x50_1).f0)) := (blk_cell BK187.out 0).trans rfl
                          have hcz32_1 : w25.cell? ⟨gb187, 1, none⟩ = some (.int .i64 ((rd_T32 y183 x50_1).f1)) := (blk_cell BK187.out 1).trans rfl
                          have hcz32_2 : w25.cell? ⟨gb187, 2, none⟩ = some (.int .i64 ((rd_T32 y183 x50_1).f2)) := (blk_cell BK187.out 2).trans rfl
                          have hfz32_0 := blk_frozen BK187.out 0
                          have hfz32_1 := blk_frozen BK187.out 1
                          have hfz32_2 := blk_frozen BK187.out 2
                          go_wp2
                          go_meet
                          case rel => exact ⟨_, ((t194.toList != ([] : List UInt8))), (by first | rfl | (simp; done) | (simp [*]; done) | (simp; exact (show ∀ a_ b_ : Bool, (a_ == b_) = (!(a_ != b_)) from by decide) _ _) | (rw [Bool.eq_iff_iff]; simp; done) | (simp; rw [Bool.eq_iff_iff]; simp; done)), H', ⟨by have := HK1.out; first | omega | exact Nat.le_refl _⟩, ⟨by (with_reducible repeat (first | apply Kd.R_alloc | apply Kd.R_drewN | apply Kd.R_drew)); exact Kd.R_mono HO_48.out (fun _ hk => hk.2)⟩, ⟨by (with_reducible repeat (first | refine blk_drewN ?_ _ | refine blk_drew ?_ | refine blk_alloc ?_ _)); exact BK187.out⟩, ⟨by repeat (first | (with_reducible first | exact HB.out | apply below_alloc | apply pw_below_drewN | apply below_drew1 | refine below_set ?_ GE187.out) | exact HB.out)⟩⟩
                        · rw [if_neg c31] at H
                          have c31b0 : ((wrap64 ((wrap64 ((wrap64 ((wrap64 (t188 + t189)) + t190)) + t192)) + t196)) == 0) = false := beq_eq_false_iff_ne.mpr c31
                          have c31b1 : ((wrap64 ((wrap64 ((wrap64 ((wrap64 (t188 + t189)) + t190)) + t192)) + t196)) != 0) = true := bne_iff_ne.mpr c31
                          have H' := Aside0.mk H
                          clear H
                          have hcz33_0 : w25.cell? ⟨gb187, 0, none⟩ = some (.int .i64 ((rd_T32 y183 x50_1).f0)) := (blk_cell BK187.out 0).trans rfl
                          have hcz33_1 : w25.cell? ⟨gb187, 1, none⟩ = some (.int .i64 ((rd_T32 y183 x50_1).f1)) := (blk_cell BK187.out 1).trans rfl
                          have hcz33_2 : w25.cell? ⟨gb187, 2, none⟩ = some (.int .i64 ((rd_T32 y183 x50_1).f2)) := (blk_cell BK187.out 2).trans rfl
                          have hfz33_0 := blk_frozen BK187.out 0
                          have hfz33_1 := blk_frozen BK187.out 1
                          have hfz33_2 := blk_frozen BK187.out 2
                          go_wp2
                          go_meet
                          case rel => exact ⟨_, (true), (by first | rfl | (simp; done) | (simp [*]; done) | (simp; exact (show ∀ a_ b_ : Bool, (a_ == b_) = (!(a_ != b_)) from by decide) _ _) | (rw [Bool.eq_iff_iff]; simp; done) | (simp; rw [Bool.eq_iff_iff]; simp; done)), H', ⟨by have := HK1.out; first | omega | exact Nat.le_refl _⟩, ⟨by (with_reducible repeat (first | apply Kd.R_alloc | apply Kd.R_drewN | apply Kd.R_drew)); exact Kd.R_mono HO_48.out (fun _ hk => hk.2)⟩, ⟨by (with_reducible repeat (first | refine blk_drewN ?_ _ | refine blk_drew ?_ | refine blk_alloc ?_ _)); exact BK187.out⟩, ⟨by repeat (first | (with_reducible first | exact HB.out | apply below_alloc | apply pw_below_drewN | apply below_drew1 | refine below_set ?_ GE187.out) | exact HB.out)⟩⟩
                      · rw [if_neg c30] at H
                        have c30b0 : (t197 == ((rd_T32 y183 x50_1).f2)) = false := beq_eq_false_iff_ne.mpr c30
                        have c30b1 : (t197 != ((rd_T32 y183 x50_1).f2)) = true := bne_iff_ne.mpr c30
                        have H' := Aside0.mk H
                        clear H
                        have hcz34_0 : w25.cell? ⟨gb187, 0, none⟩ = some (.int .i64 ((rd_T32 y183 x50_1).f0)) := (blk_cell BK187.out 0).trans rfl
                        have hcz34_1 : w25.cell? ⟨gb187, 1, none⟩ = some (.int .i64 ((rd_T32 y183 x50_1).f1)) := (blk_cell BK187.out 1).trans rfl
                        have hcz34_2 : w25.cell? ⟨gb187, 2, none⟩ = some (.int .i64 ((rd_T32 y183 x50_1).f2)) := (blk_cell BK187.out 2).trans rfl
                        have hfz34_0 := blk_frozen BK187.out 0
                        have hfz34_1 := blk_frozen BK187.out 1
                        have hfz34_2 := blk_frozen BK187.out 2
                        go_wp2
                        go_meet
                        case rel => exact ⟨_, (true), (by first | rfl | (simp; done) | (simp [*]; done) | (simp; exact (show ∀ a_ b_ : Bool, (a_ == b_) = (!(a_ != b_)) from by decide) _ _) | (rw [Bool.eq_iff_iff]; simp; done) | (simp; rw [Bool.eq_iff_iff]; simp; done)), H', ⟨by have := HK1.out; first | omega | exact Nat.le_refl _⟩, ⟨by (with_reducible repeat (first | apply Kd.R_alloc | apply Kd.R_drewN | apply Kd.R_drew)); exact Kd.R_mono HO_48.out (fun _ hk => hk.2)⟩, ⟨by (with_reducible repeat (first | refine blk_drewN ?_ _ | refine blk_drew ?_ | refine blk_alloc ?_ _)); exact BK187.out⟩, ⟨by repeat (first | (with_reducible first | exact HB.out | apply below_alloc | apply pw_below_drewN | apply below_drew1 | refine below_set ?_ GE187.out) | exact HB.out)⟩⟩
                    · rw [if_neg c29] at H
                      have c29b0 : (t195 == ((rd_T32 y183 x50_1).f2)) = false := beq_eq_false_iff_ne.mpr c29
                      have c29b1 : (t195 != ((rd_T32 y183 x50_1).f2)) = true := bne_iff_ne.mpr c29
                      have H' := Aside0.mk H
                      clear H
                      have hcz35_0 : w25.cell? ⟨gb187, 0, none⟩ = some (.int .i64 ((rd_T32 y183 x50_1).f0)) := (blk_cell BK187.out 0).trans rfl
                      have hcz35_1 : w25.cell? ⟨gb187, 1, none⟩ = some (.int .i64 ((rd_T32 y183 x50_1).f1)) := (blk_cell BK187.out 1).trans rfl
                      have hcz35_2 : w25.cell? ⟨gb187, 2, none⟩ = some (.int .i64 ((rd_T32 y183 x50_1).f2)) := (blk_cell BK187.out 2).trans rfl
                      have hfz35_0 := blk_frozen BK187.out 0
                      have hfz35_1 := blk_frozen BK187.out 1
                      have hfz35_2 := blk_frozen BK187.out 2
                      go_wp2
                      go_meet
                      case rel => exact ⟨_, (true), (by first | rfl | (simp; done) | (simp [*]; done) | (simp; exact (show ∀ a_ b_ : Bool, (a_ == b_) = (!(a_ != b_)) from by decide) _ _) | (rw [Bool.eq_iff_iff]; simp; done) | (simp; rw [Bool.eq_iff_iff]; simp; done)), H', ⟨by have := HK1.out; first | omega | exact Nat.le_refl _⟩, ⟨by (with_reducible repeat (first | apply Kd.R_alloc | apply Kd.R_drewN | apply Kd.R_drew)); exact Kd.R_mono HO_48.out (fun _ hk => hk.2)⟩, ⟨by (with_reducible repeat (first | refine blk_drewN ?_ _ | refine blk_drew ?_ | refine blk_alloc ?_ _)); exact BK187.out⟩, ⟨by repeat (first | (with_reducible first | exact HB.out | apply below_alloc | apply pw_below_drewN | apply below_drew1 | refine below_set ?_ GE187.out) | exact HB.out)⟩⟩
                  · rw [if_neg c28] at H
                    have c28b0 : (t193 == ((rd_T32 y183 x50_1).f2)) = false := beq_eq_false_iff_ne.mpr c28
                    have c28b1 : (t193 != ((rd_T32 y183 x50_1).f2)) = true := bne_iff_ne.mpr c28
                    have H' := Aside0.mk H
                    clear H
                    have hcz36_0 : w25.cell? ⟨gb187, 0, none⟩ = some (.int .i64 ((rd_T32 y183 x50_1).f0)) := (blk_cell BK187.out 0).trans rfl
                    have hcz36_1 : w25.cell? ⟨gb187, 1, none⟩ = some (.int .i64 ((rd_T32 y183 x50_1).f1)) := (blk_cell BK187.out 1).trans rfl
                    have hcz36_2 : w25.cell? ⟨gb187, 2, none⟩ = some (.int .i64 ((rd_T32 y183 x50_1).f2)) := (blk_cell BK187.out 2).trans rfl
                    have hfz36_0 := blk_frozen BK187.out 0
                    have hfz36_1 := blk_frozen BK187.out 1
                    have hfz36_2 := blk_frozen BK187.out 2
                    go_wp2
                    go_meet
                    case rel => exact ⟨_, (true), (by first | rfl | (simp; done) | (simp [*]; done) | (simp; exact (show ∀ a_ b_ : Bool, (a_ == b_) = (!(a_ != b_)) from by decide) _ _) | (rw [Bool.eq_iff_iff]; simp; done) | (simp; rw [Bool.eq_iff_iff]; simp; done)), H', ⟨by have := HK1.out; first | omega | exact Nat.le_refl _⟩, ⟨by (with_reducible repeat (first | apply Kd.R_alloc | apply Kd.R_drewN | apply Kd.R_drew)); exact Kd.R_mono HO_48.out (fun _ hk => hk.2)⟩, ⟨by (with_reducible repeat (first | refine blk_drewN ?_ _ | refine blk_drew ?_ | refine blk_alloc ?_ _)); exact BK187.out⟩, ⟨by repeat (first | (with_reducible first | exact HB.out | apply below_alloc | apply pw_below_drewN | apply below_drew1 | refine below_set ?_ GE187.out) | exact HB.out)⟩⟩
                · rw [if_neg c27] at H
                  have c27b0 : (t191 == ((rd_T32 y183 x50_1).f2)) = false := beq_eq_false_iff_ne.mpr c27
                  have c27b1 : (t191 != ((rd_T32 y183 x50_1).f2)) = true := bne_iff_ne.mpr c27
                  (first | rw [c27b0] | (simp only [i64_w, i32_w]; rw [c27b0]) | skip)
                  have H' := Aside0.mk H
                  clear H
                  have hcz37_0 : w25.cell? ⟨gb187, 0, none⟩ = some (.int .i64 ((rd_T32 y183 x50_1).f0)) := (blk_cell BK187.out 0).trans rfl
                  have hcz37_1 : w25.cell? ⟨gb187, 1, none⟩ = some (.int .i64 ((rd_T32 y183 x50_1).f1)) := (blk_cell BK187.out 1).trans rfl
                  have hcz37_2 : w25.cell? ⟨gb187, 2, none⟩ = some (.int .i64 ((rd_T32 y183 x50_1).f2)) := (blk_cell BK187.out 2).trans rfl
                  have hfz37_0 := blk_frozen BK187.out 0
                  have hfz37_1 := blk_frozen BK187.out 1
                  have hfz37_2 := blk_frozen BK187.out 2
                  go_wp2
                  go_meet
                  case rel => exact ⟨_, (true), (by first | rfl | (simp; done) | (simp [*]; done) | (simp; exact (show ∀ a_ b_ : Bool, (a_ == b_) = (!(a_ != b_)) from by decide) _ _) | (rw [Bool.eq_iff_iff]; simp; done) | (simp; rw [Bool.eq_iff_iff]; simp; done)), H', ⟨by have := HK1.out; first | omega | exact Nat.le_refl _⟩, ⟨by (with_reducible repeat (first | apply Kd.R_alloc | apply Kd.R_drewN | apply Kd.R_drew)); exact Kd.R_mono HO_48.out (fun _ hk => hk.2)⟩, ⟨by (with_reducible repeat (first | refine blk_drewN ?_ _ | refine blk_drew ?_ | refine blk_alloc ?_ _)); exact BK187.out⟩, ⟨by repeat (first | (with_reducible first | exact HB.out | apply below_alloc | apply pw_below_drewN | apply below_drew1 | refine below_set ?_ GE187.out) | exact HB.out)⟩⟩
              case rest => as_aux_lemma =>
                clear HC20
                try clear c1
                try clear p1
                try clear q1
                try clear hx1
                try clear c2
                try clear p2
                try clear c3
                try clear c4
                try clear p6
                try clear c13
                try clear c13b0
                try clear c14
                try clear c14b0
                try clear c15
                try clear c15b0
                try clear c17
                try clear c18
                try clear p18
                try clear q18
                try clear hx18
                try clear c19
                try clear c20
                try clear c21
                try clear c22
                try clear c27
                try clear c27b0
                try clear c27b1
                try clear c28
                try clear c28b0
                try clear c28b1
                try clear c29
                try clear c29b0
                try clear c29b1
                try clear c30
                try clear c30b0
                try clear c30b1
                try clear c31
                try clear c31b0
                try clear c31b1
                try clear hcz22_0
                try clear hcz22_1
                try clear hcz22_2
                try clear hcz24_0
                try clear hcz24_1
                try clear hcz24_2
                try clear hcz26_0
                try clear hcz26_1
                try clear hcz26_2
                try clear hcz32_0
                try clear hcz32_1
                try clear hcz32_2
                try clear hcz33_0
                try clear hcz33_1
                try clear hcz33_2
                try clear hcz34_0
                try clear hcz34_1
                try clear hcz34_2
                try clear hcz35_0
                try clear hcz35_1
                try clear hcz35_2
                try clear hcz36_0
                try clear hcz36_1
                try clear hcz36_2
                try clear hcz37_0
                try clear hcz37_1
                try clear hcz37_2
                try clear hfz22_0
                try clear hfz22_1
                try clear hfz22_2
                try clear hfz24_0
                try clear hfz24_1
                try clear hfz24_2
                try clear hfz26_0
                try clear hfz26_1
                try clear hfz26_2
                try clear hfz32_0
                try clear hfz32_1
                try clear hfz32_2
                try clear hfz33_0
                try clear hfz33_1
                try clear hfz33_2
                try clear hfz34_0
                try clear hfz34_1
                try clear hfz34_2
                try clear hfz35_0
                try clear hfz35_1
                try clear hfz35_2
                try clear hfz36_0
                try clear hfz36_1
                try clear hfz36_2
                try clear hfz37_0
                try clear hfz37_1
                try clear hfz37_2
                try clear hx186_0
                try clear hx186_1
                try clear hx186_2
                try clear p186
                try clear p2
                try clear p6
                try clear q186
                obtain ⟨kq, x117_19, rfl, HA, HJ19, HO_48, BK187, HB⟩ := hcut
                cases kq with
                | zero => exact absurd HA.out (by simp [letterbaglaw01_CivilWrong.j1])
                | succ kj19 =>
                  have H := HA.out
                  clear HA
                  simp only [letterbaglaw01_CivilWrong.j1] at H
                  by_cases c38 : x117_19 = true
                  · subst c38
                    have H1 : (some false) = some true := by rw [if_pos rfl] at H; exact H
                    clear H
                    have H := H1
                    clear H1
                    exact absurd H (by simp)
                  · replace c38 := Bool.eq_false_iff.mpr c38
                    subst c38
                    have H1 : ((civil_Split.f ((rd_T32 y183 x50_1).f1)).bind fun bt198 => ((civil_TimeText.f kj19 ((rd_T32 y183 x50_1).f1)).bind fun bt201 => ((civil_Works.f kj19 ((rd_T32 y183 x50_1).f0) ([] : List Int)).bind fun bt203 => ((civil_Ahead.f kj19 ((rd_T32 y183 x50_1).f0) 0 ([] : List Int)).bind fun bt205 => (if bt198.2.2 = ((rd_T32 y183 x50_1).f2) then (if bt201.2 = ((rd_T32 y183 x50_1).f2) then (if bt203.2 = ((rd_T32 y183 x50_1).f2) then (if bt205.2 = ((rd_T32 y183 x50_1).f2) then (if (wrap64 ((wrap64 (bt198.1 + bt198.2.1)) + bt205.1)) = 0 then (if bt201.1.toList = ([] : List UInt8) then (letterbaglaw01_CivilWrong.j2 kj19 a0 y183 (y183.length : Int) x50_1 bt203.1 ((rd_T32 y183 x50_1).f0) ((rd_T32 y183 x50_1).f1) ((rd_T32 y183 x50_1).f2)) else (letterbaglaw01_CivilWrong.j2 kj19 a0 y183 (y183.length : Int) x50_1 true ((rd_T32 y183 x50_1).f0) ((rd_T32 y183 x50_1).f1) ((rd_T32 y183 x50_1).f2))) else (letterbaglaw01_CivilWrong.j2 kj19 a0 y183 (y183.length : Int) x50_1 true ((rd_T32 y183 x50_1).f0) ((rd_T32 y183 x50_1).f1) ((rd_T32 y183 x50_1).f2))) else (letterbaglaw01_CivilWrong.j2 kj19 a0 y183 (y183.length : Int) x50_1 true ((rd_T32 y183 x50_1).f0) ((rd_T32 y183 x50_1).f1) ((rd_T32 y183 x50_1).f2))) else (letterbaglaw01_CivilWrong.j2 kj19 a0 y183 (y183.length : Int) x50_1 true ((rd_T32 y183 x50_1).f0) ((rd_T32 y183 x50_1).f1) ((rd_T32 y183 x50_1).f2))) else (letterbaglaw01_CivilWrong.j2 kj19 a0 y183 (y183.length : Int) x50_1 true ((rd_T32 y183 x50_1).f0) ((rd_T32 y183 x50_1).f1) ((rd_T32 y183 x50_1).f2))) else (letterbaglaw01_CivilWrong.j2 kj19 a0 y183 (y183.length : Int) x50_1 true ((rd_T32 y183 x50_1).f0) ((rd_T32 y183 x50_1).f1) ((rd_T32 y183 x50_1).f2))))))) = some true := by rw [if_neg (show ¬ (false = true) by decide)] at H; exact H
                    clear H
                    have H := H1
                    clear H1
                    replace H := Option.bind_eq_some_iff.mp H
                    obtain ⟨⟨t198, t199, t200⟩, A390, H⟩ := H
                    replace H : ((civil_TimeText.f kj19 ((rd_T32 y183 x50_1).f1)).bind fun bt201 => ((civil_Works.f kj19 ((rd_T32 y183 x50_1).f0) ([] : List Int)).bind fun bt203 => ((civil_Ahead.f kj19 ((rd_T32 y183 x50_1).f0) 0 ([] : List Int)).bind fun bt205 => (if t200 = ((rd_T32 y183 x50_1).f2) then (if bt201.2 = ((rd_T32 y183 x50_1).f2) then (if bt203.2 = ((rd_T32 y183 x50_1).f2) then (if bt205.2 = ((rd_T32 y183 x50_1).f2) then (if (wrap64 ((wrap64 (t198 + t199)) + bt205.1)) = 0 then (if bt201.1.toList = ([] : List UInt8) then (letterbaglaw01_CivilWrong.j2 kj19 a0 y183 (y183.length : Int) x50_1 bt203.1 ((rd_T32 y183 x50_1).f0) ((rd_T32 y183 x50_1).f1) ((rd_T32 y183 x50_1).f2)) else (letterbaglaw01_CivilWrong.j2 kj19 a0 y183 (y183.length : Int) x50_1 true ((rd_T32 y183 x50_1).f0) ((rd_T32 y183 x50_1).f1) ((rd_T32 y183 x50_1).f2))) else (letterbaglaw01_CivilWrong.j2 kj19 a0 y183 (y183.length : Int) x50_1 true ((rd_T32 y183 x50_1).f0) ((rd_T32 y183 x50_1).f1) ((rd_T32 y183 x50_1).f2))) else (letterbaglaw01_CivilWrong.j2 kj19 a0 y183 (y183.length : Int) x50_1 true ((rd_T32 y183 x50_1).f0) ((rd_T32 y183 x50_1).f1) ((rd_T32 y183 x50_1).f2))) else (letterbaglaw01_CivilWrong.j2 kj19 a0 y183 (y183.length : Int) x50_1 true ((rd_T32 y183 x50_1).f0) ((rd_T32 y183 x50_1).f1) ((rd_T32 y183 x50_1).f2))) else (letterbaglaw01_CivilWrong.j2 kj19 a0 y183 (y183.length : Int) x50_1 true ((rd_T32 y183 x50_1).f0) ((rd_T32 y183 x50_1).f1) ((rd_T32 y183 x50_1).f2))) else (letterbaglaw01_CivilWrong.j2 kj19 a0 y183 (y183.length : Int) x50_1 true ((rd_T32 y183 x50_1).f0) ((rd_T32 y183 x50_1).f1) ((rd_T32 y183 x50_1).f2)))))) = some true := H
                    have A39 := Aside0.mk A390
                    clear A390
                    replace H := Option.bind_eq_some_iff.mp H
                    obtain ⟨⟨t201, t202⟩, A400, H⟩ := H
                    replace H : ((civil_Works.f kj19 ((rd_T32 y183 x50_1).f0) ([] : List Int)).bind fun bt203 => ((civil_Ahead.f kj19 ((rd_T32 y183 x50_1).f0) 0 ([] : List Int)).bind fun bt205 => (if t200 = ((rd_T32 y183 x50_1).f2) then (if t202 = ((rd_T32 y183 x50_1).f2) then (if bt203.2 = ((rd_T32 y183 x50_1).f2) then (if bt205.2 = ((rd_T32 y183 x50_1).f2) then (if (wrap64 ((wrap64 (t198 + t199)) + bt205.1)) = 0 then (if t201.toList = ([] : List UInt8) then (letterbaglaw01_CivilWrong.j2 kj19 a0 y183 (y183.length : Int) x50_1 bt203.1 ((rd_T32 y183 x50_1).f0) ((rd_T32 y183 x50_1).f1) ((rd_T32 y183 x50_1).f2)) else (letterbaglaw01_CivilWrong.j2 kj19 a0 y183 (y183.length : Int) x50_1 true ((rd_T32 y183 x50_1).f0) ((rd_T32 y183 x50_1).f1) ((rd_T32 y183 x50_1).f2))) else (letterbaglaw01_CivilWrong.j2 kj19 a0 y183 (y183.length : Int) x50_1 true ((rd_T32 y183 x50_1).f0) ((rd_T32 y183 x50_1).f1) ((rd_T32 y183 x50_1).f2))) else (letterbaglaw01_CivilWrong.j2 kj19 a0 y183 (y183.length : Int) x50_1 true ((rd_T32 y183 x50_1).f0) ((rd_T32 y183 x50_1).f1) ((rd_T32 y183 x50_1).f2))) else (letterbaglaw01_CivilWrong.j2 kj19 a0 y183 (y183.length : Int) x50_1 true ((rd_T32 y183 x50_1).f0) ((rd_T32 y183 x50_1).f1) ((rd_T32 y183 x50_1).f2))) else (letterbaglaw01_CivilWrong.j2 kj19 a0 y183 (y183.length : Int) x50_1 true ((rd_T32 y183 x50_1).f0) ((rd_T32 y183 x50_1).f1) ((rd_T32 y183 x50_1).f2))) else (letterbaglaw01_CivilWrong.j2 kj19 a0 y183 (y183.length : Int) x50_1 true ((rd_T32 y183 x50_1).f0) ((rd_T32 y183 x50_1).f1) ((rd_T32 y183 x50_1).f2))))) = some true := H
                    have A40 := Aside0.mk A400
                    clear A400
                    replace H := Option.bind_eq_some_iff.mp H
                    obtain ⟨⟨t203, t204⟩, A410, H⟩ := H
                    replace H : ((civil_Ahead.f kj19 ((rd_T32 y183 x50_1).f0) 0 ([] : List Int)).bind fun bt205 => (if t200 = ((rd_T32 y183 x50_1).f2) then (if t202 = ((rd_T32 y183 x50_1).f2) then (if t204 = ((rd_T32 y183 x50_1).f2) then (if bt205.2 = ((rd_T32 y183 x50_1).f2) then (if (wrap64 ((wrap64 (t198 + t199)) + bt205.1)) = 0 then (if t201.toList = ([] : List UInt8) then (letterbaglaw01_CivilWrong.j2 kj19 a0 y183 (y183.length : Int) x50_1 t203 ((rd_T32 y183 x50_1).f0) ((rd_T32 y183 x50_1).f1) ((rd_T32 y183 x50_1).f2)) else (letterbaglaw01_CivilWrong.j2 kj19 a0 y183 (y183.length : Int) x50_1 true ((rd_T32 y183 x50_1).f0) ((rd_T32 y183 x50_1).f1) ((rd_T32 y183 x50_1).f2))) else (letterbaglaw01_CivilWrong.j2 kj19 a0 y183 (y183.length : Int) x50_1 true ((rd_T32 y183 x50_1).f0) ((rd_T32 y183 x50_1).f1) ((rd_T32 y183 x50_1).f2))) else (letterbaglaw01_CivilWrong.j2 kj19 a0 y183 (y183.length : Int) x50_1 true ((rd_T32 y183 x50_1).f0) ((rd_T32 y183 x50_1).f1) ((rd_T32 y183 x50_1).f2))) else (letterbaglaw01_CivilWrong.j2 kj19 a0 y183 (y183.length : Int) x50_1 true ((rd_T32 y183 x50_1).f0) ((rd_T32 y183 x50_1).f1) ((rd_T32 y183 x50_1).f2))) else (letterbaglaw01_CivilWrong.j2 kj19 a0 y183 (y183.length : Int) x50_1 true ((rd_T32 y183 x50_1).f0) ((rd_T32 y183 x50_1).f1) ((rd_T32 y183 x50_1).f2))) else (letterbaglaw01_CivilWrong.j2 kj19 a0 y183 (y183.length : Int) x50_1 true ((rd_T32 y183 x50_1).f0) ((rd_T32 y183 x50_1).f1) ((rd_T32 y183 x50_1).f2)))) = some true := H
                    have A41 := Aside0.mk A410
                    clear A410
                    replace H := Option.bind_eq_some_iff.mp H
                    obtain ⟨⟨t205, t206⟩, A420, H⟩ := H
                    replace H : (if t200 = ((rd_T32 y183 x50_1).f2) then (if t202 = ((rd_T32 y183 x50_1).f2) then (if t204 = ((rd_T32 y183 x50_1).f2) then (if t206 = ((rd_T32 y183 x50_1).f2) then (if (wrap64 ((wrap64 (t198 + t199)) + t205)) = 0 then (if t201.toList = ([] : List UInt8) then (letterbaglaw01_CivilWrong.j2 kj19 a0 y183 (y183.length : Int) x50_1 t203 ((rd_T32 y183 x50_1).f0) ((rd_T32 y183 x50_1).f1) ((rd_T32 y183 x50_1).f2)) else (letterbaglaw01_CivilWrong.j2 kj19 a0 y183 (y183.length : Int) x50_1 true ((rd_T32 y183 x50_1).f0) ((rd_T32 y183 x50_1).f1) ((rd_T32 y183 x50_1).f2))) else (letterbaglaw01_CivilWrong.j2 kj19 a0 y183 (y183.length : Int) x50_1 true ((rd_T32 y183 x50_1).f0) ((rd_T32 y183 x50_1).f1) ((rd_T32 y183 x50_1).f2))) else (letterbaglaw01_CivilWrong.j2 kj19 a0 y183 (y183.length : Int) x50_1 true ((rd_T32 y183 x50_1).f0) ((rd_T32 y183 x50_1).f1) ((rd_T32 y183 x50_1).f2))) else (letterbaglaw01_CivilWrong.j2 kj19 a0 y183 (y183.length : Int) x50_1 true ((rd_T32 y183 x50_1).f0) ((rd_T32 y183 x50_1).f1) ((rd_T32 y183 x50_1).f2))) else (letterbaglaw01_CivilWrong.j2 kj19 a0 y183 (y183.length : Int) x50_1 true ((rd_T32 y183 x50_1).f0) ((rd_T32 y183 x50_1).f1) ((rd_T32 y183 x50_1).f2))) else (letterbaglaw01_CivilWrong.j2 kj19 a0 y183 (y183.length : Int) x50_1 true ((rd_T32 y183 x50_1).f0) ((rd_T32 y183 x50_1).f1) ((rd_T32 y183 x50_1).f2))) = some true := H
                    have A42 := Aside0.mk A420
                    clear A420
                    have HC43 := Aside0.mk H
                    clear H
                    have hcz44_0 : wc.cell? ⟨gb187, 0, none⟩ = some (.int .i64 ((rd_T32 y183 x50_1).f0)) := (blk_cell BK187.out 0).trans rfl
                    have hcz44_1 : wc.cell? ⟨gb187, 1, none⟩ = some (.int .i64 ((rd_T32 y183 x50_1).f1)) := (blk_cell BK187.out 1).trans rfl
                    have hcz44_2 : wc.cell? ⟨gb187, 2, none⟩ = some (.int .i64 ((rd_T32 y183 x50_1).f2)) := (blk_cell BK187.out 2).trans rfl
                    have hfz44_0 := blk_frozen BK187.out 0
                    have hfz44_1 := blk_frozen BK187.out 1
                    have hfz44_2 := blk_frozen BK187.out 2
                    go_upto_region 16 with (first | ((with_reducible refine gate_callee (f := 23) rfl ?_); refine goesL_ (some 121) rfl rfl Tryd.func23 (by kernel_rfl) rfl #[.int .i64 ((rd_T32 y183 x50_1).f1)] rfl (by (try simp only [List.map_toArray, List.map_cons, List.map_nil]); first | done | rfl | (simp only [List.length_drop, List.length_take]; rfl)) ?_; (with_reducible refine (civil_Split.calls ((rd_T32 y183 x50_1).f1) t198 t199 t200 _ A39.out).mono ?_); rintro e w' ⟨rfl, ⟨nd, rfl⟩⟩; refine ⟨_, rfl, ?_⟩) | ((with_reducible refine gate_callee (f := 24) rfl ?_); refine goesL_ (some 128) rfl rfl Tryd.func24 (by kernel_rfl) rfl #[.int .i64 ((rd_T32 y183 x50_1).f1)] rfl (by (try simp only [List.map_toArray, List.map_cons, List.map_nil]); first | done | rfl | (simp only [List.length_drop, List.length_take]; rfl)) ?_; (with_reducible refine (civil_TimeText.calls kj19 ((rd_T32 y183 x50_1).f1) t201 t202 _ ?tabG A40.out).mono ?_); (case tabG => (first | exact hg | exact ⟨hg.out.below (by repeat (first | (with_reducible first | exact HB.out | apply below_alloc | apply pw_below_drewN | apply below_drew1 | refine below_set ?_ GE187.out) | exact HB.out))⟩)); rintro e w45 ⟨rfl, hb⟩; refine ⟨_, rfl, ?_⟩; have n0_ := Aside0.mk (Kd.R_below (by (with_reducible repeat (first | apply Kd.R_alloc | apply Kd.R_drewN | apply Kd.R_drew)); exact HO_48.out) hb); have n1_ := Aside0.mk (blk_below (g := gb187) (o := .cells #[.int .i64 ((rd_T32 y183 x50_1).f0), .int .i64 ((rd_T32 y183 x50_1).f1), .int .i64 ((rd_T32 y183 x50_1).f2)] 32 (0, 0)) (by (with_reducible repeat (first | refine blk_drewN ?_ _ | refine blk_drew ?_ | refine blk_alloc ?_ _)); exact BK187.out) hb); have n2_ := Aside0.mk (below_step (by repeat (first | (with_reducible first | exact HB.out | apply below_alloc | apply pw_below_drewN | apply below_drew1 | refine below_set ?_ GE187.out) | exact HB.out)) hb); clear HO_48; clear BK187; clear HB; have HO_48 := n0_; have BK187 := n1_; have HB := n2_; clear n0_ n1_ n2_; (try clear hb); (try clear hb2); (try clear hk); (try clear hi); have hcz46_0 : w45.cell? ⟨gb187, 0, none⟩ = some (.int .i64 ((rd_T32 y183 x50_1).f0)) := (blk_cell BK187.out 0).trans rfl; have hcz46_1 : w45.cell? ⟨gb187, 1, none⟩ = some (.int .i64 ((rd_T32 y183 x50_1).f1)) := (blk_cell BK187.out 1).trans rfl; have hcz46_2 : w45.cell? ⟨gb187, 2, none⟩ = some (.int .i64 ((rd_T32 y183 x50_1).f2)) := (blk_cell BK187.out 2).trans rfl; have hfz46_0 := blk_frozen BK187.out 0; have hfz46_1 := blk_frozen BK187.out 1; have hfz46_2 := blk_frozen BK187.out 2) | ((with_reducible refine gate_callee (f := 25) rfl ?_); refine goesL_ (some 134) rfl rfl Tryd.func25 (by kernel_rfl) rfl #[.int .i64 ((rd_T32 y183 x50_1).f0), .slice none 0 0] rfl (by (try simp only [List.map_toArray, List.map_cons, List.map_nil]); first | done | rfl | (simp only [List.length_drop, List.length_take]; rfl)) ?_; (refine (civil_Works.calls kj19 ((rd_T32 y183 x50_1).f0) _ _ ([] : List Int) t203 t204 _ ?side1 ?side2 A41.out).mono ?_); (case side1 => exact Kd.C_nil _ _); (case side2 => exact Nat.le_refl _); rintro e w' ⟨rfl, ⟨nd, rfl⟩⟩; refine ⟨_, rfl, ?_⟩) | ((with_reducible refine gate_callee (f := 26) rfl ?_); refine goesL_ (some 140) rfl rfl Tryd.func26 (by kernel_rfl) rfl #[.int .i64 ((rd_T32 y183 x50_1).f0), .int .i64 0, .slice none 0 0] rfl (by (try simp only [List.map_toArray, List.map_cons, List.map_nil]); first | done | rfl | (simp only [List.length_drop, List.length_take]; rfl)) ?_; (refine (civil_Ahead.calls kj19 ((rd_T32 y183 x50_1).f0) 0 _ _ ([] : List Int) t205 t206 _ ?side1 ?side2 A42.out).mono ?_); (case side1 => exact Kd.C_nil _ _); (case side2 => exact Nat.le_refl _); rintro e w47 ⟨rfl, hb⟩; refine ⟨_, rfl, ?_⟩; have n0_ := Aside0.mk (Kd.R_below (by (with_reducible repeat (first | apply Kd.R_alloc | apply Kd.R_drewN | apply Kd.R_drew)); exact HO_48.out) hb); have n1_ := Aside0.mk (blk_below (g := gb187) (o := .cells #[.int .i64 ((rd_T32 y183 x50_1).f0), .int .i64 ((rd_T32 y183 x50_1).f1), .int .i64 ((rd_T32 y183 x50_1).f2)] 32 (0, 0)) (by (with_reducible repeat (first | refine blk_drewN ?_ _ | refine blk_drew ?_ | refine blk_alloc ?_ _)); exact BK187.out) hb); have n2_ := Aside0.mk (below_step (by repeat (first | (with_reducible first | exact HB.out | apply below_alloc | apply pw_below_drewN | apply below_drew1 | refine below_set ?_ GE187.out) | exact HB.out)) hb); clear HO_48; clear BK187; clear HB; have HO_48 := n0_; have BK187 := n1_; have HB := n2_; clear n0_ n1_ n2_; (try clear hb); (try clear hb2); (try clear hk); (try clear hi)))
                    (try simp only [Act.put, List.setIfInBounds_toArray, List.set_cons_zero, List.set_cons_succ])
                    go_cut [179] (fun v179 wc => ∃ (kq : Nat) (x179_42 : Bool), v179 = .bool x179_42 ∧ Aside0 (letterbaglaw01_CivilWrong.j2 kq a0 y183 (y183.length : Int) x50_1 x179_42 ((rd_T32 y183 x50_1).f0) ((rd_T32 y183 x50_1).f1) ((rd_T32 y183 x50_1).f2) = some true) ∧ Aside0 (kq ≤ kj19) ∧ Aside0 (Kd.R k32 32 wc w.heap.size (fun k_ => k_ ≠ gb187) (.slice (some ad186) y183.length co12) y183) ∧ Aside0 (wc.heap[gb187]? = some (.cells #[.int .i64 ((rd_T32 y183 x50_1).f0), .int .i64 ((rd_T32 y183 x50_1).f1), .int .i64 ((rd_T32 y183 x50_1).f2)] 32 (0, 0))) ∧ Aside0 (Below w.heap.size w wc))
                    case first => as_aux_lemma =>
                      have H := HC43.out
                      clear HC43
                      by_cases c48 : t200 = ((rd_T32 y183 x50_1).f2)
                      · rw [if_pos c48] at H
                        have c48b0 : (t200 == ((rd_T32 y183 x50_1).f2)) = true := beq_iff_eq.mpr c48
                        have c48b1 : (t200 != ((rd_T32 y183 x50_1).f2)) = false := bne_eq_false_iff_eq.mpr c48
                        clear c48
                        (first | rw [c48b0] | (simp only [i64_w, i32_w]; rw [c48b0]) | skip)
                        by_cases c49 : t202 = ((rd_T32 y183 x50_1).f2)
                        · rw [if_pos c49] at H
                          have c49b0 : (t202 == ((rd_T32 y183 x50_1).f2)) = true := beq_iff_eq.mpr c49
                          have c49b1 : (t202 != ((rd_T32 y183 x50_1).f2)) = false := bne_eq_false_iff_eq.mpr c49
                          clear c49
                          by_cases c50 : t204 = ((rd_T32 y183 x50_1).f2)
                          · rw [if_pos c50] at H
                            have c50b0 : (t204 == ((rd_T32 y183 x50_1).f2)) = true := beq_iff_eq.mpr c50
                            have c50b1 : (t204 != ((rd_T32 y183 x50_1).f2)) = false := bne_eq_false_iff_eq.mpr c50
                            clear c50
                            by_cases c51 : t206 = ((rd_T32 y183 x50_1).f2)
                            · rw [if_pos c51] at H
                              have c51b0 : (t206 == ((rd_T32 y183 x50_1).f2)) = true := beq_iff_eq.mpr c51
                              have c51b1 : (t206 != ((rd_T32 y183 x50_1).f2)) = false := bne_eq_false_iff_eq.mpr c51
                              clear c51
                              by_cases c52 : (wrap64 ((wrap64 (t198 + t199)) + t205)) = 0
                              · rw [if_pos c52] at H
                                have c52b0 : ((wrap64 ((wrap64 (t198 + t199)) + t205)) == 0) = true := beq_iff_eq.mpr c52
                                have c52b1 : ((wrap64 ((wrap64 (t198 + t199)) + t205)) != 0) = false := bne_eq_false_iff_eq.mpr c52
                                clear c52
                                by_cases c53 : t201.toList = ([] : List UInt8)
                                · rw [if_pos c53] at H
                                  have c53b0 : (t201.toList == ([] : List UInt8)) = true := beq_iff_eq.mpr c53
                                  have c53b1 : (t201.toList != ([] : List UInt8)) = false := bne_eq_false_iff_eq.mpr c53
                                  clear c53
                                  have H' := Aside0.mk H
                                  clear H
                                  have hcz54_0 : w47.cell? ⟨gb187, 0, none⟩ = some (.int .i64 ((rd_T32 y183 x50_1).f0)) := (blk_cell BK187.out 0).trans rfl
                                  have hcz54_1 : w47.cell? ⟨gb187, 1, none⟩ = some (.int .i64 ((rd_T32 y183 x50_1).f1)) := (blk_cell BK187.out 1).trans rfl
                                  have hcz54_2 : w47.cell? ⟨gb187, 2, none⟩ = some (.int .i64 ((rd_T32 y183 x50_1).f2)) := (blk_cell BK187.out 2).trans rfl
                                  have hfz54_0 := blk_frozen BK187.out 0
                                  have hfz54_1 := blk_frozen BK187.out 1
                                  have hfz54_2 := blk_frozen BK187.out 2
                                  go_wp2
                                  go_meet
                                  case rel => exact ⟨_, (t203), (by first | rfl | (simp; done) | (simp [*]; done) | (simp; exact (show ∀ a_ b_ : Bool, (a_ == b_) = (!(a_ != b_)) from by decide) _ _) | (rw [Bool.eq_iff_iff]; simp; done) | (simp; rw [Bool.eq_iff_iff]; simp; done)), H', ⟨by have := HK1.out; have := HJ19.out; first | omega | exact Nat.le_refl _⟩, ⟨by (with_reducible repeat (first | apply Kd.R_alloc | apply Kd.R_drewN | apply Kd.R_drew)); exact HO_48.out⟩, ⟨by (with_reducible repeat (first | refine blk_drewN ?_ _ | refine blk_drew ?_ | refine blk_alloc ?_ _)); exact BK187.out⟩, ⟨by repeat (first | (with_reducible first | exact HB.out | apply below_alloc | apply pw_below_drewN | apply below_drew1 | refine below_set ?_ GE187.out) | exact HB.out)⟩⟩
                                · rw [if_neg c53] at H
                                  have c53b0 : (t201.toList == ([] : List UInt8)) = false := beq_eq_false_iff_ne.mpr c53
                                  have c53b1 : (t201.toList != ([] : List UInt8)) = true := bne_iff_ne.mpr c53
                                  have H' := Aside0.mk H
                                  clear H
                                  have hcz55_0 : w47.cell? ⟨gb187, 0, none⟩ = some (.int .i64 ((rd_T32 y183 x50_1).f0)) := (blk_cell BK187.out 0).trans rfl
                                  have hcz55_1 : w47.cell? ⟨gb187, 1, none⟩ = some (.int .i64 ((rd_T32 y183 x50_1).f1)) := (blk_cell BK187.out 1).trans rfl
                                  have hcz55_2 : w47.cell? ⟨gb187, 2, none⟩ = some (.int .i64 ((rd_T32 y183 x50_1).f2)) := (blk_cell BK187.out 2).trans rfl
                                  have hfz55_0 := blk_frozen BK187.out 0
                                  have hfz55_1 := blk_frozen BK187.out 1
                                  have hfz55_2 := blk_frozen BK187.out 2
                                  go_wp2
                                  go_meet
                                  case rel => exact ⟨_, (true), (by first | rfl | (simp; done) | (simp [*]; done) | (simp; exact (show ∀ a_ b_ : Bool, (a_ == b_) = (!(a_ != b_)) from by decide) _ _) | (rw [Bool.eq_iff_iff]; simp; done) | (simp; rw [Bool.eq_iff_iff]; simp; done)), H', ⟨by have := HK1.out; have := HJ19.out; first | omega | exact Nat.le_refl _⟩, ⟨by (with_reducible repeat (first | apply Kd.R_alloc | apply Kd.R_drewN | apply Kd.R_drew)); exact HO_48.out⟩, ⟨by (with_reducible repeat (first | refine blk_drewN ?_ _ | refine blk_drew ?_ | refine blk_alloc ?_ _)); exact BK187.out⟩, ⟨by repeat (first | (with_reducible first | exact HB.out | apply below_alloc | apply pw_below_drewN | apply below_drew1 | refine below_set ?_ GE187.out) | exact HB.out)⟩⟩
                              · rw [if_neg c52] at H
                                have c52b0 : ((wrap64 ((wrap64 (t198 + t199)) + t205)) == 0) = false := beq_eq_false_iff_ne.mpr c52
                                have c52b1 : ((wrap64 ((wrap64 (t198 + t199)) + t205)) != 0) = true := bne_iff_ne.mpr c52
                                have H' := Aside0.mk H
                                clear H
                                have hcz56_0 : w47.cell? ⟨gb187, 0, none⟩ = some (.int .i64 ((rd_T32 y183 x50_1).f0)) := (blk_cell BK187.out 0).trans rfl
                                have hcz56_1 : w47.cell? ⟨gb187, 1, none⟩ = some (.int .i64 ((rd_T32 y183 x50_1).f1)) := (blk_cell BK187.out 1).trans rfl
                                have hcz56_2 : w47.cell? ⟨gb187, 2, none⟩ = some (.int .i64 ((rd_T32 y183 x50_1).f2)) := (blk_cell BK187.out 2).trans rfl
                                have hfz56_0 := blk_frozen BK187.out 0
                                have hfz56_1 := blk_frozen BK187.out 1
                                have hfz56_2 := blk_frozen BK187.out 2
                                go_wp2
                                go_meet
                                case rel => exact ⟨_, (true), (by first | rfl | (simp; done) | (simp [*]; done) | (simp; exact (show ∀ a_ b_ : Bool, (a_ == b_) = (!(a_ != b_)) from by decide) _ _) | (rw [Bool.eq_iff_iff]; simp; done) | (simp; rw [Bool.eq_iff_iff]; simp; done)), H', ⟨by have := HK1.out; have := HJ19.out; first | omega | exact Nat.le_refl _⟩, ⟨by (with_reducible repeat (first | apply Kd.R_alloc | apply Kd.R_drewN | apply Kd.R_drew)); exact HO_48.out⟩, ⟨by (with_reducible repeat (first | refine blk_drewN ?_ _ | refine blk_drew ?_ | refine blk_alloc ?_ _)); exact BK187.out⟩, ⟨by repeat (first | (with_reducible first | exact HB.out | apply below_alloc | apply pw_below_drewN | apply below_drew1 | refine below_set ?_ GE187.out) | exact HB.out)⟩⟩
                            · rw [if_neg c51] at H
                              have c51b0 : (t206 == ((rd_T32 y183 x50_1).f2)) = false := beq_eq_false_iff_ne.mpr c51
                              have c51b1 : (t206 != ((rd_T32 y183 x50_1).f2)) = true := bne_iff_ne.mpr c51
                              have H' := Aside0.mk H
                              clear H
                              have hcz57_0 : w47.cell? ⟨gb187, 0, none⟩ = some (.int .i64 ((rd_T32 y183 x50_1).f0)) := (blk_cell BK187.out 0).trans rfl
                              have hcz57_1 : w47.cell? ⟨gb187, 1, none⟩ = some (.int .i64 ((rd_T32 y183 x50_1).f1)) := (blk_cell BK187.out 1).trans rfl
                              have hcz57_2 : w47.cell? ⟨gb187, 2, none⟩ = some (.int .i64 ((rd_T32 y183 x50_1).f2)) := (blk_cell BK187.out 2).trans rfl
                              have hfz57_0 := blk_frozen BK187.out 0
                              have hfz57_1 := blk_frozen BK187.out 1
                              have hfz57_2 := blk_frozen BK187.out 2
                              go_wp2
                              go_meet
                              case rel => exact ⟨_, (true), (by first | rfl | (simp; done) | (simp [*]; done) | (simp; exact (show ∀ a_ b_ : Bool, (a_ == b_) = (!(a_ != b_)) from by decide) _ _) | (rw [Bool.eq_iff_iff]; simp; done) | (simp; rw [Bool.eq_iff_iff]; simp; done)), H', ⟨by have := HK1.out; have := HJ19.out; first | omega | exact Nat.le_refl _⟩, ⟨by (with_reducible repeat (first | apply Kd.R_alloc | apply Kd.R_drewN | apply Kd.R_drew)); exact HO_48.out⟩, ⟨by (with_reducible repeat (first | refine blk_drewN ?_ _ | refine blk_drew ?_ | refine blk_alloc ?_ _)); exact BK187.out⟩, ⟨by repeat (first | (with_reducible first | exact HB.out | apply below_alloc | apply pw_below_drewN | apply below_drew1 | refine below_set ?_ GE187.out) | exact HB.out)⟩⟩
                          · rw [if_neg c50] at H
                            have c50b0 : (t204 == ((rd_T32 y183 x50_1).f2)) = false := beq_eq_false_iff_ne.mpr c50
                            have c50b1 : (t204 != ((rd_T32 y183 x50_1).f2)) = true := bne_iff_ne.mpr c50
                            have H' := Aside0.mk H
                            clear H
                            have hcz58_0 : w47.cell? ⟨gb187, 0, none⟩ = some (.int .i64 ((rd_T32 y183 x50_1).f0)) := (blk_cell BK187.out 0).trans rfl
                            have hcz58_1 : w47.cell? ⟨gb187, 1, none⟩ = some (.int .i64 ((rd_T32 y183 x50_1).f1)) := (blk_cell BK187.out 1).trans rfl
                            have hcz58_2 : w47.cell? ⟨gb187, 2, none⟩ = some (.int .i64 ((rd_T32 y183 x50_1).f2)) := (blk_cell BK187.out 2).trans rfl
                            have hfz58_0 := blk_frozen BK187.out 0
                            have hfz58_1 := blk_frozen BK187.out 1
                            have hfz58_2 := blk_frozen BK187.out 2
                            go_wp2
                            go_meet
                            case rel => exact ⟨_, (true), (by first | rfl | (simp; done) | (simp [*]; done) | (simp; exact (show ∀ a_ b_ : Bool, (a_ == b_) = (!(a_ != b_)) from by decide) _ _) | (rw [Bool.eq_iff_iff]; simp; done) | (simp; rw [Bool.eq_iff_iff]; simp; done)), H', ⟨by have := HK1.out; have := HJ19.out; first | omega | exact Nat.le_refl _⟩, ⟨by (with_reducible repeat (first | apply Kd.R_alloc | apply Kd.R_drewN | apply Kd.R_drew)); exact HO_48.out⟩, ⟨by (with_reducible repeat (first | refine blk_drewN ?_ _ | refine blk_drew ?_ | refine blk_alloc ?_ _)); exact BK187.out⟩, ⟨by repeat (first | (with_reducible first | exact HB.out | apply below_alloc | apply pw_below_drewN | apply below_drew1 | refine below_set ?_ GE187.out) | exact HB.out)⟩⟩
                        · rw [if_neg c49] at H
                          have c49b0 : (t202 == ((rd_T32 y183 x50_1).f2)) = false := beq_eq_false_iff_ne.mpr c49
                          have c49b1 : (t202 != ((rd_T32 y183 x50_1).f2)) = true := bne_iff_ne.mpr c49
                          have H' := Aside0.mk H
                          clear H
                          have hcz59_0 : w47.cell? ⟨gb187, 0, none⟩ = some (.int .i64 ((rd_T32 y183 x50_1).f0)) := (blk_cell BK187.out 0).trans rfl
                          have hcz59_1 : w47.cell? ⟨gb187, 1, none⟩ = some (.int .i64 ((rd_T32 y183 x50_1).f1)) := (blk_cell BK187.out 1).trans rfl
                          have hcz59_2 : w47.cell? ⟨gb187, 2, none⟩ = some (.int .i64 ((rd_T32 y183 x50_1).f2)) := (blk_cell BK187.out 2).trans rfl
                          have hfz59_0 := blk_frozen BK187.out 0
                          have hfz59_1 := blk_frozen BK187.out 1
                          have hfz59_2 := blk_frozen BK187.out 2
                          go_wp2
                          go_meet
                          case rel => exact ⟨_, (true), (by first | rfl | (simp; done) | (simp [*]; done) | (simp; exact (show ∀ a_ b_ : Bool, (a_ == b_) = (!(a_ != b_)) from by decide) _ _) | (rw [Bool.eq_iff_iff]; simp; done) | (simp; rw [Bool.eq_iff_iff]; simp; done)), H', ⟨by have := HK1.out; have := HJ19.out; first | omega | exact Nat.le_refl _⟩, ⟨by (with_reducible repeat (first | apply Kd.R_alloc | apply Kd.R_drewN | apply Kd.R_drew)); exact HO_48.out⟩, ⟨by (with_reducible repeat (first | refine blk_drewN ?_ _ | refine blk_drew ?_ | refine blk_alloc ?_ _)); exact BK187.out⟩, ⟨by repeat (first | (with_reducible first | exact HB.out | apply below_alloc | apply pw_below_drewN | apply below_drew1 | refine below_set ?_ GE187.out) | exact HB.out)⟩⟩
                      · rw [if_neg c48] at H
                        have c48b0 : (t200 == ((rd_T32 y183 x50_1).f2)) = false := beq_eq_false_iff_ne.mpr c48
                        have c48b1 : (t200 != ((rd_T32 y183 x50_1).f2)) = true := bne_iff_ne.mpr c48
                        (first | rw [c48b0] | (simp only [i64_w, i32_w]; rw [c48b0]) | skip)
                        have H' := Aside0.mk H
                        clear H
                        have hcz60_0 : w47.cell? ⟨gb187, 0, none⟩ = some (.int .i64 ((rd_T32 y183 x50_1).f0)) := (blk_cell BK187.out 0).trans rfl
                        have hcz60_1 : w47.cell? ⟨gb187, 1, none⟩ = some (.int .i64 ((rd_T32 y183 x50_1).f1)) := (blk_cell BK187.out 1).trans rfl
                        have hcz60_2 : w47.cell? ⟨gb187, 2, none⟩ = some (.int .i64 ((rd_T32 y183 x50_1).f2)) := (blk_cell BK187.out 2).trans rfl
                        have hfz60_0 := blk_frozen BK187.out 0
                        have hfz60_1 := blk_frozen BK187.out 1
                        have hfz60_2 := blk_frozen BK187.out 2
                        go_wp2
                        go_meet
                        case rel => exact ⟨_, (true), (by first | rfl | (simp; done) | (simp [*]; done) | (simp; exact (show ∀ a_ b_ : Bool, (a_ == b_) = (!(a_ != b_)) from by decide) _ _) | (rw [Bool.eq_iff_iff]; simp; done) | (simp; rw [Bool.eq_iff_iff]; simp; done)), H', ⟨by have := HK1.out; have := HJ19.out; first | omega | exact Nat.le_refl _⟩, ⟨by (with_reducible repeat (first | apply Kd.R_alloc | apply Kd.R_drewN | apply Kd.R_drew)); exact HO_48.out⟩, ⟨by (with_reducible repeat (first | refine blk_drewN ?_ _ | refine blk_drew ?_ | refine blk_alloc ?_ _)); exact BK187.out⟩, ⟨by repeat (first | (with_reducible first | exact HB.out | apply below_alloc | apply pw_below_drewN | apply below_drew1 | refine below_set ?_ GE187.out) | exact HB.out)⟩⟩
                    case rest => as_aux_lemma =>
                      clear HC43
                      try clear c1
                      try clear p1
                      try clear q1
                      try clear hx1
                      try clear c2
                      try clear p2
                      try clear c3
                      try clear c4
                      try clear c5
                      try clear p6
                      try clear c13
                      try clear c13b0
                      try clear c14
                      try clear c14b0
                      try clear c15
                      try clear c15b0
                      try clear c17
                      try clear c18
                      try clear p18
                      try clear q18
                      try clear hx18
                      try clear c19
                      try clear c20
                      try clear c21
                      try clear c22
                      try clear c23
                      try clear c24
                      try clear c25
                      try clear c26
                      try clear c27
                      try clear c27b0
                      try clear c27b1
                      try clear c28
                      try clear c28b0
                      try clear c28b1
                      try clear c29
                      try clear c29b0
                      try clear c29b1
                      try clear c30
                      try clear c30b0
                      try clear c30b1
                      try clear c31
                      try clear c31b0
                      try clear c31b1
                      try clear c38
                      try clear c48
                      try clear c48b0
                      try clear c48b1
                      try clear c49
                      try clear c49b0
                      try clear c49b1
                      try clear c50
                      try clear c50b0
                      try clear c50b1
                      try clear c51
                      try clear c51b0
                      try clear c51b1
                      try clear c52
                      try clear c52b0
                      try clear c52b1
                      try clear c53
                      try clear c53b0
                      try clear c53b1
                      try clear hcz22_0
                      try clear hcz22_1
                      try clear hcz22_2
                      try clear hcz24_0
                      try clear hcz24_1
                      try clear hcz24_2
                      try clear hcz26_0
                      try clear hcz26_1
                      try clear hcz26_2
                      try clear hcz32_0
                      try clear hcz32_1
                      try clear hcz32_2
                      try clear hcz33_0
                      try clear hcz33_1
                      try clear hcz33_2
                      try clear hcz34_0
                      try clear hcz34_1
                      try clear hcz34_2
                      try clear hcz35_0
                      try clear hcz35_1
                      try clear hcz35_2
                      try clear hcz36_0
                      try clear hcz36_1
                      try clear hcz36_2
                      try clear hcz37_0
                      try clear hcz37_1
                      try clear hcz37_2
                      try clear hcz44_0
                      try clear hcz44_1
                      try clear hcz44_2
                      try clear hcz46_0
                      try clear hcz46_1
                      try clear hcz46_2
                      try clear hcz54_0
                      try clear hcz54_1
                      try clear hcz54_2
                      try clear hcz55_0
                      try clear hcz55_1
                      try clear hcz55_2
                      try clear hcz56_0
                      try clear hcz56_1
                      try clear hcz56_2
                      try clear hcz57_0
                      try clear hcz57_1
                      try clear hcz57_2
                      try clear hcz58_0
                      try clear hcz58_1
                      try clear hcz58_2
                      try clear hcz59_0
                      try clear hcz59_1
                      try clear hcz59_2
                      try clear hcz60_0
                      try clear hcz60_1
                      try clear hcz60_2
                      try clear hfz22_0
                      try clear hfz22_1
                      try clear hfz22_2
                      try clear hfz24_0
                      try clear hfz24_1
                      try clear hfz24_2
                      try clear hfz26_0
                      try clear hfz26_1
                      try clear hfz26_2
                      try clear hfz32_0
                      try clear hfz32_1
                      try clear hfz32_2
                      try clear hfz33_0
                      try clear hfz33_1
                      try clear hfz33_2
                      try clear hfz34_0
                      try clear hfz34_1
                      try clear hfz34_2
                      try clear hfz35_0
                      try clear hfz35_1
                      try clear hfz35_2
                      try clear hfz36_0
                      try clear hfz36_1
                      try clear hfz36_2
                      try clear hfz37_0
                      try clear hfz37_1
                      try clear hfz37_2
                      try clear hfz44_0
                      try clear hfz44_1
                      try clear hfz44_2
                      try clear hfz46_0
                      try clear hfz46_1
                      try clear hfz46_2
                      try clear hfz54_0
                      try clear hfz54_1
                      try clear hfz54_2
                      try clear hfz55_0
                      try clear hfz55_1
                      try clear hfz55_2
                      try clear hfz56_0
                      try clear hfz56_1
                      try clear hfz56_2
                      try clear hfz57_0
                      try clear hfz57_1
                      try clear hfz57_2
                      try clear hfz58_0
                      try clear hfz58_1
                      try clear hfz58_2
                      try clear hfz59_0
                      try clear hfz59_1
                      try clear hfz59_2
                      try clear hfz60_0
                      try clear hfz60_1
                      try clear hfz60_2
                      try clear hx186_0
                      try clear hx186_1
                      try clear hx186_2
                      try clear p1
                      try clear p18
                      try clear p186
                      try clear p2
                      try clear p6
                      try clear q1
                      try clear q18
                      try clear q186
                      obtain ⟨kq, x179_42, rfl, HA, HJ42, HO_48, BK187, HB⟩ := hcut
                      cases kq with
                      | zero => exact absurd HA.out (by simp [letterbaglaw01_CivilWrong.j2])
                      | succ kj42 =>
                        have H := HA.out
                        clear HA
                        simp only [letterbaglaw01_CivilWrong.j2] at H
                        by_cases c61 : x179_42 = true
                        · subst c61
                          have H1 : (some false) = some true := by rw [if_pos rfl] at H; exact H
                          clear H
                          have H := H1
                          clear H1
                          exact absurd H (by simp)
                        · replace c61 := Bool.eq_false_iff.mpr c61
                          subst c61
                          have H1 : ((civil_Yearly.f kj42 ((rd_T32 y183 x50_1).f0) 0 0).bind fun bt207 => ((civil_Between.f (mn ((rd_T32 y183 x50_1).f0) 0) ((rd_T32 y183 x50_1).f0) ([] : List Int)).bind fun bt209 => (if bt207.2 = ((rd_T32 y183 x50_1).f2) then (if bt209.2 = ((rd_T32 y183 x50_1).f2) then (if bt207.1 = true then (some false) else (if bt209.1 = 0 then (letterbaglaw01_CivilWrong.l0 kj42 a0 y183 (y183.length : Int) (wrap64 (x50_1 + 1))) else (some false))) else (some false)) else (some false)))) = some true := by rw [if_neg (show ¬ (false = true) by decide)] at H; exact H
                          clear H
                          have H := H1
                          clear H1
                          replace H := Option.bind_eq_some_iff.mp H
                          obtain ⟨⟨t207, t208⟩, A620, H⟩ := H
                          replace H : ((civil_Between.f (mn ((rd_T32 y183 x50_1).f0) 0) ((rd_T32 y183 x50_1).f0) ([] : List Int)).bind fun bt209 => (if t208 = ((rd_T32 y183 x50_1).f2) then (if bt209.2 = ((rd_T32 y183 x50_1).f2) then (if t207 = true then (some false) else (if bt209.1 = 0 then (letterbaglaw01_CivilWrong.l0 kj42 a0 y183 (y183.length : Int) (wrap64 (x50_1 + 1))) else (some false))) else (some false)) else (some false))) = some true := H
                          have A62 := Aside0.mk A620
                          clear A620
                          obtain ⟨ji63, hji63⟩ : ∃ j_ : Int, (mn ((rd_T32 y183 x50_1).f0) 0) = j_ := ⟨_, rfl⟩
                          replace H : ((civil_Between.f (ji63) ((rd_T32 y183 x50_1).f0) ([] : List Int)).bind fun bt209 => (if t208 = ((rd_T32 y183 x50_1).f2) then (if bt209.2 = ((rd_T32 y183 x50_1).f2) then (if t207 = true then (some false) else (if bt209.1 = 0 then (letterbaglaw01_CivilWrong.l0 kj42 a0 y183 (y183.length : Int) (wrap64 (x50_1 + 1))) else (some false))) else (some false)) else (some false))) = some true := by first | (rw [hji63] at H; exact H) | (simp only [hji63] at H ⊢; exact H)
                          (try rw [hji63] at A62)
                          have hji63_ : (if 0 < ((rd_T32 y183 x50_1).f0) then 0 else ((rd_T32 y183 x50_1).f0)) = ji63 := hji63
                          replace H := Option.bind_eq_some_iff.mp H
                          obtain ⟨⟨t209, t210⟩, A640, H⟩ := H
                          replace H : (if t208 = ((rd_T32 y183 x50_1).f2) then (if t210 = ((rd_T32 y183 x50_1).f2) then (if t207 = true then (some false) else (if t209 = 0 then (letterbaglaw01_CivilWrong.l0 kj42 a0 y183 (y183.length : Int) (wrap64 (x50_1 + 1))) else (some false))) else (some false)) else (some false)) = some true := H
                          have A64 := Aside0.mk A640
                          clear A640
                          by_cases c65 : t208 = ((rd_T32 y183 x50_1).f2)
                          · rw [if_pos c65] at H
                            have c65b0 : (t208 == ((rd_T32 y183 x50_1).f2)) = true := beq_iff_eq.mpr c65
                            have c65b1 : (t208 != ((rd_T32 y183 x50_1).f2)) = false := bne_eq_false_iff_eq.mpr c65
                            clear c65
                            by_cases c66 : t210 = ((rd_T32 y183 x50_1).f2)
                            · rw [if_pos c66] at H
                              have c66b0 : (t210 == ((rd_T32 y183 x50_1).f2)) = true := beq_iff_eq.mpr c66
                              have c66b1 : (t210 != ((rd_T32 y183 x50_1).f2)) = false := bne_eq_false_iff_eq.mpr c66
                              clear c66
                              by_cases c67 : t207 = true
                              · subst c67
                                have H1 : (some false) = some true := by rw [if_pos rfl] at H; exact H
                                clear H
                                have H := H1
                                clear H1
                                exact absurd H (by simp)
                              · replace c67 := Bool.eq_false_iff.mpr c67
                                subst c67
                                have H1 : (if t209 = 0 then (letterbaglaw01_CivilWrong.l0 kj42 a0 y183 (y183.length : Int) (wrap64 (x50_1 + 1))) else (some false)) = some true := by rw [if_neg (show ¬ (false = true) by decide)] at H; exact H
                                clear H
                                have H := H1
                                clear H1
                                by_cases c68 : t209 = 0
                                · rw [if_pos c68] at H
                                  have c68b0 : (t209 == 0) = true := beq_iff_eq.mpr c68
                                  have c68b1 : (t209 != 0) = false := bne_eq_false_iff_eq.mpr c68
                                  clear c68
                                  have H' := Aside0.mk H
                                  clear H
                                  have hcz69_0 : wc.cell? ⟨gb187, 0, none⟩ = some (.int .i64 ((rd_T32 y183 x50_1).f0)) := (blk_cell BK187.out 0).trans rfl
                                  have hcz69_1 : wc.cell? ⟨gb187, 1, none⟩ = some (.int .i64 ((rd_T32 y183 x50_1).f1)) := (blk_cell BK187.out 1).trans rfl
                                  have hcz69_2 : wc.cell? ⟨gb187, 2, none⟩ = some (.int .i64 ((rd_T32 y183 x50_1).f2)) := (blk_cell BK187.out 2).trans rfl
                                  have hfz69_0 := blk_frozen BK187.out 0
                                  have hfz69_1 := blk_frozen BK187.out 1
                                  have hfz69_2 := blk_frozen BK187.out 2
                                  go_wp2_with (first | ((with_reducible refine gate_callee (f := 27) rfl ?_); refine goesL_ (some 183) rfl rfl Tryd.func27 (by kernel_rfl) rfl #[.int .i64 ((rd_T32 y183 x50_1).f0), .int .i64 0, .int .i64 0] rfl (by (try simp only [List.map_toArray, List.map_cons, List.map_nil]); first | done | rfl | (simp only [List.length_drop, List.length_take]; rfl)) ?_; (with_reducible refine (civil_Yearly.calls kj42 ((rd_T32 y183 x50_1).f0) 0 0 false t208 _ ?tabG A62.out).mono ?_); (case tabG => (first | exact hg | exact ⟨hg.out.below (by repeat (first | (with_reducible first | exact HB.out | apply below_alloc | apply pw_below_drewN | apply below_drew1 | refine below_set ?_ GE187.out) | exact HB.out))⟩)); rintro e w70 ⟨rfl, hb⟩; refine ⟨_, rfl, ?_⟩; have n0_ := Aside0.mk (Kd.R_below (by (with_reducible repeat (first | apply Kd.R_alloc | apply Kd.R_drewN | apply Kd.R_drew)); exact HO_48.out) hb); have n1_ := Aside0.mk (blk_below (g := gb187) (o := .cells #[.int .i64 ((rd_T32 y183 x50_1).f0), .int .i64 ((rd_T32 y183 x50_1).f1), .int .i64 ((rd_T32 y183 x50_1).f2)] 32 (0, 0)) (by (with_reducible repeat (first | refine blk_drewN ?_ _ | refine blk_drew ?_ | refine blk_alloc ?_ _)); exact BK187.out) hb); have n2_ := Aside0.mk (below_step (by repeat (first | (with_reducible first | exact HB.out | apply below_alloc | apply pw_below_drewN | apply below_drew1 | refine below_set ?_ GE187.out) | exact HB.out)) hb); clear HO_48; clear BK187; clear HB; have HO_48 := n0_; have BK187 := n1_; have HB := n2_; clear n0_ n1_ n2_; (try clear hb); (try clear hb2); (try clear hk); (try clear hi); have hcz71_0 : w70.cell? ⟨gb187, 0, none⟩ = some (.int .i64 ((rd_T32 y183 x50_1).f0)) := (blk_cell BK187.out 0).trans rfl; have hcz71_1 : w70.cell? ⟨gb187, 1, none⟩ = some (.int .i64 ((rd_T32 y183 x50_1).f1)) := (blk_cell BK187.out 1).trans rfl; have hcz71_2 : w70.cell? ⟨gb187, 2, none⟩ = some (.int .i64 ((rd_T32 y183 x50_1).f2)) := (blk_cell BK187.out 2).trans rfl; have hfz71_0 := blk_frozen BK187.out 0; have hfz71_1 := blk_frozen BK187.out 1; have hfz71_2 := blk_frozen BK187.out 2) | ((with_reducible refine gate_callee (f := 28) rfl ?_); refine goesL_ (some 192) rfl rfl Tryd.func28 (by kernel_rfl) rfl #[.int .i64 ji63, .int .i64 ((rd_T32 y183 x50_1).f0), .slice none 0 0] rfl (by (try simp only [List.map_toArray, List.map_cons, List.map_nil]); first | done | (simp only [hji63]; rfl) | rfl | (simp only [List.length_drop, List.length_take]; rfl)) ?_; (refine (civil_Between.calls ji63 ((rd_T32 y183 x50_1).f0) _ _ ([] : List Int) t209 t210 _ ?side1 ?side2 A64.out).mono ?_); (case side1 => exact Kd.C_nil _ _); (case side2 => exact Nat.le_refl _); rintro e w72 ⟨rfl, hb⟩; refine ⟨_, rfl, ?_⟩; have n0_ := Aside0.mk (Kd.R_below (by (with_reducible repeat (first | apply Kd.R_alloc | apply Kd.R_drewN | apply Kd.R_drew)); exact HO_48.out) hb); have n1_ := Aside0.mk (blk_below (g := gb187) (o := .cells #[.int .i64 ((rd_T32 y183 x50_1).f0), .int .i64 ((rd_T32 y183 x50_1).f1), .int .i64 ((rd_T32 y183 x50_1).f2)] 32 (0, 0)) (by (with_reducible repeat (first | refine blk_drewN ?_ _ | refine blk_drew ?_ | refine blk_alloc ?_ _)); exact BK187.out) hb); have n2_ := Aside0.mk (below_step (by repeat (first | (with_reducible first | exact HB.out | apply below_alloc | apply pw_below_drewN | apply below_drew1 | refine below_set ?_ GE187.out) | exact HB.out)) hb); clear HO_48; clear BK187; clear HB; have HO_48 := n0_; have BK187 := n1_; have HB := n2_; clear n0_ n1_ n2_; (try clear hb); (try clear hb2); (try clear hk); (try clear hi); have hcz73_0 : w72.cell? ⟨gb187, 0, none⟩ = some (.int .i64 ((rd_T32 y183 x50_1).f0)) := (blk_cell BK187.out 0).trans rfl; have hcz73_1 : w72.cell? ⟨gb187, 1, none⟩ = some (.int .i64 ((rd_T32 y183 x50_1).f1)) := (blk_cell BK187.out 1).trans rfl; have hcz73_2 : w72.cell? ⟨gb187, 2, none⟩ = some (.int .i64 ((rd_T32 y183 x50_1).f2)) := (blk_cell BK187.out 2).trans rfl; have hfz73_0 := blk_frozen BK187.out 0; have hfz73_1 := blk_frozen BK187.out 1; have hfz73_2 := blk_frozen BK187.out 2))
                                  go_roundg kj42
                                  case measure => have := HK1.out; have := HJ19.out; have := HJ42.out; omega
                                  case rel => exact ⟨(wrap64 (x50_1 + 1)), (by first | rfl | (simp; done) | (simp [*]; done) | (simp; exact (show ∀ a_ b_ : Bool, (a_ == b_) = (!(a_ != b_)) from by decide) _ _) | (rw [Bool.eq_iff_iff]; simp; done) | (simp; rw [Bool.eq_iff_iff]; simp; done)), H', ⟨by have := HK1.out; have := HJ19.out; have := HJ42.out; omega⟩, ⟨by (with_reducible repeat (first | apply Kd.R_alloc | apply Kd.R_drewN | apply Kd.R_drew)); exact Kd.R_mono HO_48.out (fun _ hk => trivial)⟩, ⟨by repeat (first | (with_reducible first | exact HB.out | apply below_alloc | apply pw_below_drewN | apply below_drew1 | refine below_set ?_ GE187.out) | exact HB.out)⟩⟩
                                · rw [if_neg c68] at H
                                  have c68b0 : (t209 == 0) = false := beq_eq_false_iff_ne.mpr c68
                                  have c68b1 : (t209 != 0) = true := bne_iff_ne.mpr c68
                                  exact absurd H (by simp)
                            · rw [if_neg c66] at H
                              have c66b0 : (t210 == ((rd_T32 y183 x50_1).f2)) = false := beq_eq_false_iff_ne.mpr c66
                              have c66b1 : (t210 != ((rd_T32 y183 x50_1).f2)) = true := bne_iff_ne.mpr c66
                              exact absurd H (by simp)
                          · rw [if_neg c65] at H
                            have c65b0 : (t208 == ((rd_T32 y183 x50_1).f2)) = false := beq_eq_false_iff_ne.mpr c65
                            have c65b1 : (t208 != ((rd_T32 y183 x50_1).f2)) = true := bne_iff_ne.mpr c65
                            exact absurd H (by simp)
            · rw [if_neg c15] at H
              exact absurd H (by simp)
          · rw [if_neg c14] at H
            exact absurd H (by simp)
        · rw [if_neg c13] at H
          have c13b0 : decide (x50_1 < (y183.length : Int)) = false := decide_eq_false c13
          clear c13
          replace H := Option.bind_eq_some_iff.mp H
          obtain ⟨t211, A740, H⟩ := H
          replace H : ((some (([t211, 0] : List Int) : List Int)).bind fun y212 => ((civil_Works.f k1 0 y212).bind fun bt215 => ((civil_Between.f 0 1 y212).bind fun bt217 => ((civil_Ahead.f k1 0 0 y212).bind fun bt219 => ((civil_Yearly.f k1 0 101 230).bind fun bt221 => ((civil_Yearly.f k1 0 0 101).bind fun bt223 => (if bt215.2 = 2 then (if bt217.2 = 2 then (if bt219.2 = 2 then (if bt221.2 = 10 then (if bt223.2 = 10 then ((civil_Right.f k1 y212).bind fun t225 => (some (!t225))) else (some false)) else (some false)) else (some false)) else (some false)) else (some false)))))))) = some true := H
          have A74 := Aside0.mk A740
          clear A740
          obtain ⟨y212, hy212⟩ : ∃ y_ : List Int, y_ = (([t211, 0] : List Int)) := ⟨_, rfl⟩
          replace H : ((civil_Works.f k1 0 y212).bind fun bt215 => ((civil_Between.f 0 1 y212).bind fun bt217 => ((civil_Ahead.f k1 0 0 y212).bind fun bt219 => ((civil_Yearly.f k1 0 101 230).bind fun bt221 => ((civil_Yearly.f k1 0 0 101).bind fun bt223 => (if bt215.2 = 2 then (if bt217.2 = 2 then (if bt219.2 = 2 then (if bt221.2 = 10 then (if bt223.2 = 10 then ((civil_Right.f k1 y212).bind fun t225 => (some (!t225))) else (some false)) else (some false)) else (some false)) else (some false)) else (some false))))))) = some true := by first | (rw [hy212]; with_reducible exact H) | (have H2_ := (Option.bind_some _ _).symm.trans H; rw [hy212]; with_reducible exact H2_) | (have H2_ := (Option.bind_some _ _).symm.trans H; with_reducible exact H2_) | with_reducible exact H | (rw [hy212]; exact H) | exact H
          have Ny212 := Aside0.mk hy212
          clear hy212
          replace H := Option.bind_eq_some_iff.mp H
          obtain ⟨⟨t215, t216⟩, A750, H⟩ := H
          replace H : ((civil_Between.f 0 1 y212).bind fun bt217 => ((civil_Ahead.f k1 0 0 y212).bind fun bt219 => ((civil_Yearly.f k1 0 101 230).bind fun bt221 => ((civil_Yearly.f k1 0 0 101).bind fun bt223 => (if t216 = 2 then (if bt217.2 = 2 then (if bt219.2 = 2 then (if bt221.2 = 10 then (if bt223.2 = 10 then ((civil_Right.f k1 y212).bind fun t225 => (some (!t225))) else (some false)) else (some false)) else (some false)) else (some false)) else (some false)))))) = some true := H
          have A75 := Aside0.mk A750
          clear A750
          replace H := Option.bind_eq_some_iff.mp H
          obtain ⟨⟨t217, t218⟩, A760, H⟩ := H
          replace H : ((civil_Ahead.f k1 0 0 y212).bind fun bt219 => ((civil_Yearly.f k1 0 101 230).bind fun bt221 => ((civil_Yearly.f k1 0 0 101).bind fun bt223 => (if t216 = 2 then (if t218 = 2 then (if bt219.2 = 2 then (if bt221.2 = 10 then (if bt223.2 = 10 then ((civil_Right.f k1 y212).bind fun t225 => (some (!t225))) else (some false)) else (some false)) else (some false)) else (some false)) else (some false))))) = some true := H
          have A76 := Aside0.mk A760
          clear A760
          replace H := Option.bind_eq_some_iff.mp H
          obtain ⟨⟨t219, t220⟩, A770, H⟩ := H
          replace H : ((civil_Yearly.f k1 0 101 230).bind fun bt221 => ((civil_Yearly.f k1 0 0 101).bind fun bt223 => (if t216 = 2 then (if t218 = 2 then (if t220 = 2 then (if bt221.2 = 10 then (if bt223.2 = 10 then ((civil_Right.f k1 y212).bind fun t225 => (some (!t225))) else (some false)) else (some false)) else (some false)) else (some false)) else (some false)))) = some true := H
          have A77 := Aside0.mk A770
          clear A770
          replace H := Option.bind_eq_some_iff.mp H
          obtain ⟨⟨t221, t222⟩, A780, H⟩ := H
          replace H : ((civil_Yearly.f k1 0 0 101).bind fun bt223 => (if t216 = 2 then (if t218 = 2 then (if t220 = 2 then (if t222 = 10 then (if bt223.2 = 10 then ((civil_Right.f k1 y212).bind fun t225 => (some (!t225))) else (some false)) else (some false)) else (some false)) else (some false)) else (some false))) = some true := H
          have A78 := Aside0.mk A780
          clear A780
          replace H := Option.bind_eq_some_iff.mp H
          obtain ⟨⟨t223, t224⟩, A790, H⟩ := H
          replace H : (if t216 = 2 then (if t218 = 2 then (if t220 = 2 then (if t222 = 10 then (if t224 = 10 then ((civil_Right.f k1 y212).bind fun t225 => (some (!t225))) else (some false)) else (some false)) else (some false)) else (some false)) else (some false)) = some true := H
          have A79 := Aside0.mk A790
          clear A790
          by_cases c80 : t216 = 2
          · rw [if_pos c80] at H
            have c80b0 : (t216 == 2) = true := beq_iff_eq.mpr c80
            have c80b1 : (t216 != 2) = false := bne_eq_false_iff_eq.mpr c80
            clear c80
            by_cases c81 : t218 = 2
            · rw [if_pos c81] at H
              have c81b0 : (t218 == 2) = true := beq_iff_eq.mpr c81
              have c81b1 : (t218 != 2) = false := bne_eq_false_iff_eq.mpr c81
              clear c81
              by_cases c82 : t220 = 2
              · rw [if_pos c82] at H
                have c82b0 : (t220 == 2) = true := beq_iff_eq.mpr c82
                have c82b1 : (t220 != 2) = false := bne_eq_false_iff_eq.mpr c82
                clear c82
                by_cases c83 : t222 = 10
                · rw [if_pos c83] at H
                  have c83b0 : (t222 == 10) = true := beq_iff_eq.mpr c83
                  have c83b1 : (t222 != 10) = false := bne_eq_false_iff_eq.mpr c83
                  clear c83
                  by_cases c84 : t224 = 10
                  · rw [if_pos c84] at H
                    have c84b0 : (t224 == 10) = true := beq_iff_eq.mpr c84
                    have c84b1 : (t224 != 10) = false := bne_eq_false_iff_eq.mpr c84
                    clear c84
                    replace H := Option.bind_eq_some_iff.mp H
                    obtain ⟨t225, A850, H⟩ := H
                    replace H : (some (!t225)) = some true := H
                    have A85 := Aside0.mk A850
                    clear A850
                    have HT_ := Aside0.mk (Option.some.inj H)
                    go_wp2_with (first | ((with_reducible refine gate_callee (f := 18) rfl ?_); refine goesL_ (some 214) rfl rfl Tryd.func18 (by kernel_rfl) rfl #[.int .i64 a0, .int .i64 1000] rfl (by (try simp only [List.map_toArray, List.map_cons, List.map_nil]); first | done | rfl | (simp only [List.length_drop, List.length_take]; rfl)) ?_; (with_reducible refine (letterbagkit_Pick.calls a0 1000 t211 _ A74.out).mono ?_); rintro e w' ⟨rfl, ⟨nd, rfl⟩⟩; refine ⟨_, rfl, ?_⟩) | ((with_reducible refine gate_dst (N := 215) rfl ?_); refine Kd.R_lit (Kd.int .i64) _ 3 ?hg (N := 215) ?hd (xs := ([t211, 0] : List Int)) (inner := [.int .i64 t211, .int .i64 0]) (ok := fun _ => True) (okp := fun _ => True) ?hr ?hp (fun _ hk => hk) trivial (Below.refl _ _) (Nat.le_refl _) (by simp) ?_; (case hd => rfl); (case hg => rfl); (case hr => first | (go_simp; done) | (go_simp; rfl)); (case hp => exact (Reps.one (show Kd.M (Kd.int .i64) _ _ _ t211 [.int .i64 t211] from rfl) (Reps.one (show Kd.M (Kd.int .i64) _ _ _ 0 [.int .i64 0] from rfl) (Reps.none _ _)))); intro v213 w86 ho87 hb hg_ hnew_; clear hg_ hnew_; (first | rw [← Ny212.out] at ho87 | (simp only [Int.reduceToNat] at ho87; rw [← Ny212.out] at ho87)); have n0_ := Aside0.mk (Kd.R_below (by (with_reducible repeat (first | apply Kd.R_alloc | apply Kd.R_drewN | apply Kd.R_drew)); exact HO_48.out) hb); have n1_ := Aside0.mk (Kd.R_lower ho87 (below_size (by repeat (first | (with_reducible first | exact HB.out | apply below_alloc | apply pw_below_drewN | apply below_drew1) | exact HB.out)))); have n2_ := Aside0.mk (below_step (by repeat (first | (with_reducible first | exact HB.out | apply below_alloc | apply pw_below_drewN | apply below_drew1) | exact HB.out)) hb); clear HO_48; clear HB; have HO_48 := n0_; have HO214 := n1_; have HB := n2_; clear n0_ n1_ n2_; clear hb ho87; obtain ⟨Ao88, co88, eo88⟩ := Kd.R_slice HO214.out; subst eo88) | ((with_reducible refine gate_callee (f := 25) rfl ?_); refine goesL_ (some 218) rfl rfl Tryd.func25 (by kernel_rfl) rfl #[.int .i64 0, .slice Ao88 y212.length co88] rfl (by (try simp only [List.map_toArray, List.map_cons, List.map_nil]); first | done | rfl | (simp only [List.length_drop, List.length_take]; rfl)) ?_; (with_reducible refine (civil_Works.calls k1 0 _ _ y212 t215 t216 _ ?side1 ?side2 A75.out).mono ?_); (case side1 => repeat (first | exact (Kd.R_reads' HO214.out).2.2 | (with_reducible refine Kd.C_alloc ?_ _) | (with_reducible refine Kd.C_drewN ?_ _) | (with_reducible refine Kd.C_drew ?_))); (case side2 => exact (Kd.R_reads' HO214.out).2.1); rintro e w' ⟨rfl, ⟨nd, rfl⟩⟩; refine ⟨_, rfl, ?_⟩) | ((with_reducible refine gate_callee (f := 28) rfl ?_); refine goesL_ (some 223) rfl rfl Tryd.func28 (by kernel_rfl) rfl #[.int .i64 0, .int .i64 1, .slice Ao88 y212.length co88] rfl (by (try simp only [List.map_toArray, List.map_cons, List.map_nil]); first | done | rfl | (simp only [List.length_drop, List.length_take]; rfl)) ?_; (with_reducible refine (civil_Between.calls 0 1 _ _ y212 t217 t218 _ ?side1 ?side2 A76.out).mono ?_); (case side1 => repeat (first | exact (Kd.R_reads' HO214.out).2.2 | (with_reducible refine Kd.C_alloc ?_ _) | (with_reducible refine Kd.C_drewN ?_ _) | (with_reducible refine Kd.C_drew ?_))); (case side2 => exact (Kd.R_reads' HO214.out).2.1); rintro e w89 ⟨rfl, hb⟩; refine ⟨_, rfl, ?_⟩; have n0_ := Aside0.mk (Kd.R_below (by (with_reducible repeat (first | apply Kd.R_alloc | apply Kd.R_drewN | apply Kd.R_drew)); exact HO_48.out) hb); have n1_ := Aside0.mk (Kd.R_below (by (with_reducible repeat (first | apply Kd.R_alloc | apply Kd.R_drewN | apply Kd.R_drew)); exact HO214.out) hb); have n2_ := Aside0.mk (below_step (by repeat (first | (with_reducible first | exact HB.out | apply below_alloc | apply pw_below_drewN | apply below_drew1) | exact HB.out)) hb); clear HO_48; clear HO214; clear HB; have HO_48 := n0_; have HO214 := n1_; have HB := n2_; clear n0_ n1_ n2_; (try clear hb); (try clear hb2); (try clear hk); (try clear hi)) | ((with_reducible refine gate_callee (f := 26) rfl ?_); refine goesL_ (some 228) rfl rfl Tryd.func26 (by kernel_rfl) rfl #[.int .i64 0, .int .i64 0, .slice Ao88 y212.length co88] rfl (by (try simp only [List.map_toArray, List.map_cons, List.map_nil]); first | done | rfl | (simp only [List.length_drop, List.length_take]; rfl)) ?_; (with_reducible refine (civil_Ahead.calls k1 0 0 _ _ y212 t219 t220 _ ?side1 ?side2 A77.out).mono ?_); (case side1 => repeat (first | exact (Kd.R_reads' HO214.out).2.2 | (with_reducible refine Kd.C_alloc ?_ _) | (with_reducible refine Kd.C_drewN ?_ _) | (with_reducible refine Kd.C_drew ?_))); (case side2 => exact (Kd.R_reads' HO214.out).2.1); rintro e w90 ⟨rfl, hb⟩; refine ⟨_, rfl, ?_⟩; have n0_ := Aside0.mk (Kd.R_below (by (with_reducible repeat (first | apply Kd.R_alloc | apply Kd.R_drewN | apply Kd.R_drew)); exact HO_48.out) hb); have n1_ := Aside0.mk (Kd.R_below (by (with_reducible repeat (first | apply Kd.R_alloc | apply Kd.R_drewN | apply Kd.R_drew)); exact HO214.out) hb); have n2_ := Aside0.mk (below_step (by repeat (first | (with_reducible first | exact HB.out | apply below_alloc | apply pw_below_drewN | apply below_drew1) | exact HB.out)) hb); clear HO_48; clear HO214; clear HB; have HO_48 := n0_; have HO214 := n1_; have HB := n2_; clear n0_ n1_ n2_; (try clear hb); (try clear hb2); (try clear hk); (try clear hi)) | ((with_reducible refine gate_callee (f := 27) rfl ?_); refine goesL_ (some 232) rfl rfl Tryd.func27 (by kernel_rfl) rfl #[.int .i64 0, .int .i64 101, .int .i64 230] rfl (by (try simp only [List.map_toArray, List.map_cons, List.map_nil]); first | done | rfl | (simp only [List.length_drop, List.length_take]; rfl)) ?_; (with_reducible refine (civil_Yearly.calls k1 0 101 230 t221 t222 _ ?tabG A78.out).mono ?_); (case tabG => (first | exact hg | exact ⟨hg.out.below (by repeat (first | (with_reducible first | exact HB.out | apply below_alloc | apply pw_below_drewN | apply below_drew1) | exact HB.out))⟩)); rintro e w91 ⟨rfl, hb⟩; refine ⟨_, rfl, ?_⟩; have n0_ := Aside0.mk (Kd.R_below (by (with_reducible repeat (first | apply Kd.R_alloc | apply Kd.R_drewN | apply Kd.R_drew)); exact HO_48.out) hb); have n1_ := Aside0.mk (Kd.R_below (by (with_reducible repeat (first | apply Kd.R_alloc | apply Kd.R_drewN | apply Kd.R_drew)); exact HO214.out) hb); have n2_ := Aside0.mk (below_step (by repeat (first | (with_reducible first | exact HB.out | apply below_alloc | apply pw_below_drewN | apply below_drew1) | exact HB.out)) hb); clear HO_48; clear HO214; clear HB; have HO_48 := n0_; have HO214 := n1_; have HB := n2_; clear n0_ n1_ n2_; (try clear hb); (try clear hb2); (try clear hk); (try clear hi)) | ((with_reducible refine gate_callee (f := 27) rfl ?_); refine goesL_ (some 236) rfl rfl Tryd.func27 (by kernel_rfl) rfl #[.int .i64 0, .int .i64 0, .int .i64 101] rfl (by (try simp only [List.map_toArray, List.map_cons, List.map_nil]); first | done | rfl | (simp only [List.length_drop, List.length_take]; rfl)) ?_; (with_reducible refine (civil_Yearly.calls k1 0 0 101 t223 t224 _ ?tabG A79.out).mono ?_); (case tabG => (first | exact hg | exact ⟨hg.out.below (by repeat (first | (with_reducible first | exact HB.out | apply below_alloc | apply pw_below_drewN | apply below_drew1) | exact HB.out))⟩)); rintro e w92 ⟨rfl, hb⟩; refine ⟨_, rfl, ?_⟩; have n0_ := Aside0.mk (Kd.R_below (by (with_reducible repeat (first | apply Kd.R_alloc | apply Kd.R_drewN | apply Kd.R_drew)); exact HO_48.out) hb); have n1_ := Aside0.mk (Kd.R_below (by (with_reducible repeat (first | apply Kd.R_alloc | apply Kd.R_drewN | apply Kd.R_drew)); exact HO214.out) hb); have n2_ := Aside0.mk (below_step (by repeat (first | (with_reducible first | exact HB.out | apply below_alloc | apply pw_below_drewN | apply below_drew1) | exact HB.out)) hb); clear HO_48; clear HO214; clear HB; have HO_48 := n0_; have HO214 := n1_; have HB := n2_; clear n0_ n1_ n2_; (try clear hb); (try clear hb2); (try clear hk); (try clear hi)) | (go_at_call 29; (with_reducible refine (civil_Right.calls k1 _ _ y212 t225 _ ?side1 ?side2 A85.out).mono ?_); (case side1 => repeat (first | exact (Kd.R_reads' HO214.out).2.2 | (with_reducible refine Kd.C_alloc ?_ _) | (with_reducible refine Kd.C_drewN ?_ _) | (with_reducible refine Kd.C_drew ?_))); (case side2 => exact (Kd.R_reads' HO214.out).2.1); rintro e w' ⟨rfl, ⟨nd, rfl⟩⟩))
                    go_ret
                    exact ⟨by first | rfl | (rw [HT_.out]; done) | (rw [HT_.out]; rfl) | (have e_ := HT_.out; simp only [e_]; done) | (have e_ := HT_.out; simp only [e_]; rfl) | (have e_ := HT_.out; simp at e_ ⊢; exact e_) | (have e_ := HT_.out; simp_all; done) | (simp [errW_none, errW_some] <;> rfl) | (simp [*, errW_none, errW_some] <;> rfl), by repeat (first | (with_reducible first | exact HB.out | apply below_alloc | apply pw_below_drewN | apply below_drew1) | exact HB.out)⟩
                  · rw [if_neg c84] at H
                    have c84b0 : (t224 == 10) = false := beq_eq_false_iff_ne.mpr c84
                    have c84b1 : (t224 != 10) = true := bne_iff_ne.mpr c84
                    exact absurd H (by simp)
                · rw [if_neg c83] at H
                  have c83b0 : (t222 == 10) = false := beq_eq_false_iff_ne.mpr c83
                  have c83b1 : (t222 != 10) = true := bne_iff_ne.mpr c83
                  exact absurd H (by simp)
              · rw [if_neg c82] at H
                have c82b0 : (t220 == 2) = false := beq_eq_false_iff_ne.mpr c82
                have c82b1 : (t220 != 2) = true := bne_iff_ne.mpr c82
                exact absurd H (by simp)
            · rw [if_neg c81] at H
              have c81b0 : (t218 == 2) = false := beq_eq_false_iff_ne.mpr c81
              have c81b1 : (t218 != 2) = true := bne_iff_ne.mpr c81
              exact absurd H (by simp)
          · rw [if_neg c80] at H
            have c80b0 : (t216 == 2) = false := beq_eq_false_iff_ne.mpr c80
            have c80b1 : (t216 != 2) = true := bne_iff_ne.mpr c80
            exact absurd H (by simp)
  · replace c4 := Bool.eq_false_iff.mpr c4
    subst c4
    have H1 : (some false) = some true := by rw [if_neg (show ¬ (false = true) by decide)] at H; exact H
    clear H
    have H := H1
    clear H1
    exact absurd H (by simp)

/-- THE ONE PURE STATEMENT of letterbaglaw01_CivilWrong: yours. -/
def letterbaglaw01_CivilWrong.Pure : Prop := ∀ (a0 : Int) (a1 : Int), (Lit.int .i64 a0).wf = true → (Lit.int .i64 a1).wf = true → ∃ k, letterbaglaw01_CivilWrong.f k a0 a1 = some true
end Go.Proofs.YtehnhedifhpalaaDoor.Cp
