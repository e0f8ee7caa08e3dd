/- Functions of the given program as plain Lean functions, and proofs that the machine's calls do what these say; written by a program of this session (myprint.py, over the kit's print). -/
import Derived.Test.YtehnhedifhpalaaDoorCp0
import Derived.Test.YtehnhedifhpalaaDoorCp3
import Derived.Test.YtehnhedifhpalaaDoorCp4
import Derived.Test.YtehnhedifhpalaaDoorCp19
import Derived.Test.YtehnhedifhpalaaDoorCp10
import Derived.Test.YtehnhedifhpalaaDoorCb
namespace Go.Proofs.YtehnhedifhpalaaDoor.Cp
open Go.RowKit Go.Proofs.YtehnhedifhpalaaDoorW.PrintWords Go.Proofs.YtehnhedifhpalaaDoorW.PrintLast Go.Proofs.YtehnhedifhpalaaDoorW.PrintMore
attribute [local go_sem] max2_int min2_int max_two min_two max_three min_three max_four min_four   -- for this text's walks alone
set_option linter.unusedVariables false
set_option linter.unusedSimpArgs false

/-! ### letterbaglaw01_CivilAdds: function 10 -/
mutual
def letterbaglaw01_CivilAdds.j0 : Nat → Int → Int → List Int → Bool → Option (Bool)
  | 0, _, _, _, _ => none
  | k + 1, x1, x3, x9, x87 => if x87 = true then (some false) else (letterbaglaw01_CivilAdds.l0 k x1 x3 x9 x1)
def letterbaglaw01_CivilAdds.l0 : Nat → Int → Int → List Int → Int → Option (Bool)
  | 0, _, _, _, _ => none
  | k + 1, x1, x3, x9, x16 => if x16 < (mn (wrap64 (x1 + 7)) x3) then ((civil_Works.f k x16 x9).bind fun bt338 => ((civil_Between.f x16 (wrap64 (x16 + 1)) x9).bind fun bt340 => (if (wrap64 (bt338.2 + bt340.2)) = 0 then (if (bt338.1 != (bt340.1 == 1)) = true then (some false) else (if bt340.1 < 0 then (some false) else (if bt340.1 > 1 then (some false) else (letterbaglaw01_CivilAdds.l0 k x1 x3 x9 (wrap64 (x16 + 1)))))) else (some false)))) else ((civil_Between.f x1 (wrap64 (x1 + (wrap64 ((wrap64 (Int.tdiv (wrap64 (x3 - x1)) 7)) * 7)))) ([] : List Int)).bind fun bt342 => (if bt342.2 = 0 then (letterbaglaw01_CivilAdds.j2 k x9 (bt342.1 != (wrap64 ((wrap64 (Int.tdiv (wrap64 (x3 - x1)) 7)) * 5)))) else (letterbaglaw01_CivilAdds.j2 k x9 true)))
def letterbaglaw01_CivilAdds.j2 : Nat → List Int → Bool → Option (Bool)
  | 0, _, _ => none
  | k + 1, x9, x151 => if x151 = true then (some false) else (if (x9.length : Int) = 0 then (some true) else (if 0 ≤ (wrap64 ((x9.length : Int) - 1)) then (if (wrap64 ((x9.length : Int) - 1)) < (x9.length : Int) then (if (wrap64 ((x9.length : Int) - 1)) ≤ (x9.length : Int) then ((civil_Between.f 0 730484 (x9.take ((wrap64 ((x9.length : Int) - 1)) : Int).toNat)).bind fun bt349 => ((civil_Between.f 0 730484 x9).bind fun bt351 => ((civil_Works.f k (rd x9 (wrap64 ((x9.length : Int) - 1))) (x9.take ((wrap64 ((x9.length : Int) - 1)) : Int).toNat)).bind fun bt357 => (if (wrap64 ((wrap64 (bt349.2 + bt351.2)) + bt357.2)) = 0 then (if bt357.1 = true then (if (rd x9 (wrap64 ((x9.length : Int) - 1))) < 730484 then (if bt349.1 = (wrap64 (bt351.1 + 1)) then (some true) else (if (rd x9 (wrap64 ((x9.length : Int) - 1))) = 730484 then (some (bt349.1 == bt351.1)) else (some false))) else (if (rd x9 (wrap64 ((x9.length : Int) - 1))) = 730484 then (some (bt349.1 == bt351.1)) else (some false))) else (some (bt349.1 == bt351.1))) else (some false))))) else (none)) else (none)) else (none)))
end
def letterbaglaw01_CivilAdds.f (k : Nat) (l0 : List Int) (a1 : Int) (a2 : Int) (a3 : Int) : Option (Bool) := (letterbaglaw01_awake.f k).bind fun t325 => (if t325 = true then ((letterbaglaw01_list.f k l0).bind fun t326 => ((letterbaglaw01_day.f a1).bind fun t329 => ((letterbaglaw01_day.f a2).bind fun t330 => ((letterbaglaw01_day.f a3).bind fun t331 => ((civil_Between.f (mn (mn t329 t330) (mn (mx t329 t330) t331)) (mx (mn t329 t330) (mn (mx t329 t330) t331)) t326).bind fun bt332 => ((civil_Between.f (mx (mn t329 t330) (mn (mx t329 t330) t331)) (mx (mx t329 t330) t331) t326).bind fun bt334 => ((civil_Between.f (mn (mn t329 t330) (mn (mx t329 t330) t331)) (mx (mx t329 t330) t331) t326).bind fun bt336 => (if (wrap64 ((wrap64 (bt332.2 + bt334.2)) + bt336.2)) = 0 then (letterbaglaw01_CivilAdds.j0 k (mn (mn t329 t330) (mn (mx t329 t330) t331)) (mx (mx t329 t330) t331) t326 ((wrap64 (bt332.1 + bt334.1)) != bt336.1)) else (letterbaglaw01_CivilAdds.j0 k (mn (mn t329 t330) (mn (mx t329 t330) t331)) (mx (mx t329 t330) t331) t326 true))))))))) else (some false))
theorem letterbaglaw01_CivilAdds.mono_l : ∀ k, (∀ y0 y1 y2 y3, LeO (letterbaglaw01_CivilAdds.j0 k y0 y1 y2 y3) (letterbaglaw01_CivilAdds.j0 (k + 1) y0 y1 y2 y3)) ∧ (∀ y0 y1 y2 y3, LeO (letterbaglaw01_CivilAdds.l0 k y0 y1 y2 y3) (letterbaglaw01_CivilAdds.l0 (k + 1) y0 y1 y2 y3)) ∧ (∀ y0 y1, LeO (letterbaglaw01_CivilAdds.j2 k y0 y1) (letterbaglaw01_CivilAdds.j2 (k + 1) y0 y1))
  | 0 => ⟨fun _ _ _ _ r h => by simp [letterbaglaw01_CivilAdds.j0] at h, fun _ _ _ _ r h => by simp [letterbaglaw01_CivilAdds.l0] at h, fun _ _ r h => by simp [letterbaglaw01_CivilAdds.j2] at h⟩
  | k + 1 => by
    obtain ⟨ih0, ih1, ih2⟩ := letterbaglaw01_CivilAdds.mono_l k
    refine ⟨?_, ?_, ?_⟩
    · intro y0 y1 y2 y3
      unfold letterbaglaw01_CivilAdds.j0
      repeat' first
      | (with_reducible exact ih0 _ _ _ _)
      | (with_reducible exact ih1 _ _ _ _)
      | (with_reducible exact ih2 _ _)
      | (with_reducible exact civil_Works.mono _ _ _)
      | (with_reducible exact letterbaglaw01_awake.mono _)
      | (with_reducible exact letterbaglaw01_list.mono _ _)
      | (with_reducible exact LeO.refl _)
      | (with_reducible exact LeO.none _)
      | (with_reducible refine LeO.ite ?_ ?_)
      | (with_reducible refine LeO.bind ?_ (fun _ => ?_))
      | exact ih0 _ _ _ _
      | exact ih1 _ _ _ _
      | exact ih2 _ _
      | exact civil_Works.mono _ _ _
      | exact letterbaglaw01_awake.mono _
      | exact letterbaglaw01_list.mono _ _
      | exact LeO.none _
      | refine LeO.ite ?_ ?_
      | refine LeO.bind ?_ (fun _ => ?_)
    · intro y0 y1 y2 y3
      unfold letterbaglaw01_CivilAdds.l0
      repeat' first
      | (with_reducible exact ih0 _ _ _ _)
      | (with_reducible exact ih1 _ _ _ _)
      | (with_reducible exact ih2 _ _)
      | (with_reducible exact civil_Works.mono _ _ _)
      | (with_reducible exact letterbaglaw01_awake.mono _)
      | (with_reducible exact letterbaglaw01_list.mono _ _)
      | (with_reducible exact LeO.refl _)
      | (with_reducible exact LeO.none _)
      | (with_reducible refine LeO.ite ?_ ?_)
      | (with_reducible refine LeO.bind ?_ (fun _ => ?_))
      | exact ih0 _ _ _ _
      | exact ih1 _ _ _ _
      | exact ih2 _ _
      | exact civil_Works.mono _ _ _
      | exact letterbaglaw01_awake.mono _
      | exact letterbaglaw01_list.mono _ _
      | exact LeO.none _
      | refine LeO.ite ?_ ?_
      | refine LeO.bind ?_ (fun _ => ?_)
    · intro y0 y1
      unfold letterbaglaw01_CivilAdds.j2
      repeat' first
      | (with_reducible exact ih0 _ _ _ _)
      | (with_reducible exact ih1 _ _ _ _)
      | (with_reducible exact ih2 _ _)
      | (with_reducible exact civil_Works.mono _ _ _)
      | (with_reducible exact letterbaglaw01_awake.mono _)
      | (with_reducible exact letterbaglaw01_list.mono _ _)
      | (with_reducible exact LeO.refl _)
      | (with_reducible exact LeO.none _)
      | (with_reducible refine LeO.ite ?_ ?_)
      | (with_reducible refine LeO.bind ?_ (fun _ => ?_))
      | exact ih0 _ _ _ _
      | exact ih1 _ _ _ _
      | exact ih2 _ _
      | exact civil_Works.mono _ _ _
      | exact letterbaglaw01_awake.mono _
      | exact letterbaglaw01_list.mono _ _
      | exact LeO.none _
      | refine LeO.ite ?_ ?_
      | refine LeO.bind ?_ (fun _ => ?_)
theorem letterbaglaw01_CivilAdds.mono : ∀ a0 a1 a2 a3 k, LeO (letterbaglaw01_CivilAdds.f k a0 a1 a2 a3) (letterbaglaw01_CivilAdds.f (k + 1) a0 a1 a2 a3) := by
  intro a0 a1 a2 a3 k
  obtain ⟨ih0, ih1, ih2⟩ := letterbaglaw01_CivilAdds.mono_l k
  unfold letterbaglaw01_CivilAdds.f
  repeat' first
      | (with_reducible exact ih0 _ _ _ _)
      | (with_reducible exact ih1 _ _ _ _)
      | (with_reducible exact ih2 _ _)
      | (with_reducible exact civil_Works.mono _ _ _)
      | (with_reducible exact letterbaglaw01_awake.mono _)
      | (with_reducible exact letterbaglaw01_list.mono _ _)
      | (with_reducible exact LeO.refl _)
      | (with_reducible exact LeO.none _)
      | (with_reducible refine LeO.ite ?_ ?_)
      | (with_reducible refine LeO.bind ?_ (fun _ => ?_))
      | exact ih0 _ _ _ _
      | exact ih1 _ _ _ _
      | exact ih2 _ _
      | exact civil_Works.mono _ _ _
      | exact letterbaglaw01_awake.mono _
      | exact letterbaglaw01_list.mono _ _
      | exact LeO.none _
      | refine LeO.ite ?_ ?_
      | refine LeO.bind ?_ (fun _ => ?_)
set_option maxHeartbeats 8000000 in
set_option maxRecDepth 100000 in
theorem letterbaglaw01_CivilAdds.calls (k : Nat) (A0 : Option Addr) (c0 : Nat) (l0 : List Int) (a1 : Int) (a2 : Int) (a3 : Int) (w : World) (hg : Aside0 (Tab w)) (hr0 : Kd.C (Kd.int .u16) w A0 l0.length l0) (hc0 : l0.length ≤ c0) (h : letterbaglaw01_CivilAdds.f k l0 a1 a2 a3 = some true) :
    Calls Tryd.prog 10 #[.slice A0 l0.length c0, .int .i64 a1, .int .i64 a2, .int .i64 a3] w fun e w' => e = .returned (.bool true) ∧ Below w.heap.size w w' := by
  have HR0 := Aside0.mk hr0
  have HC0 := Aside0.mk hc0
  clear hr0 hc0
  have HB := Aside0.mk (Below.refl w.heap.size w)
  have H : ((letterbaglaw01_awake.f k).bind fun t325 => (if t325 = true then ((letterbaglaw01_list.f k l0).bind fun t326 => ((letterbaglaw01_day.f a1).bind fun t329 => ((letterbaglaw01_day.f a2).bind fun t330 => ((letterbaglaw01_day.f a3).bind fun t331 => ((civil_Between.f (mn (mn t329 t330) (mn (mx t329 t330) t331)) (mx (mn t329 t330) (mn (mx t329 t330) t331)) t326).bind fun bt332 => ((civil_Between.f (mx (mn t329 t330) (mn (mx t329 t330) t331)) (mx (mx t329 t330) t331) t326).bind fun bt334 => ((civil_Between.f (mn (mn t329 t330) (mn (mx t329 t330) t331)) (mx (mx t329 t330) t331) t326).bind fun bt336 => (if (wrap64 ((wrap64 (bt332.2 + bt334.2)) + bt336.2)) = 0 then (letterbaglaw01_CivilAdds.j0 k (mn (mn t329 t330) (mn (mx t329 t330) t331)) (mx (mx t329 t330) t331) t326 ((wrap64 (bt332.1 + bt334.1)) != bt336.1)) else (letterbaglaw01_CivilAdds.j0 k (mn (mn t329 t330) (mn (mx t329 t330) t331)) (mx (mx t329 t330) t331) t326 true))))))))) else (some false))) = some true := h
  clear h
  replace H := Option.bind_eq_some_iff.mp H
  obtain ⟨t325, A50, H⟩ := H
  replace H : (if t325 = true then ((letterbaglaw01_list.f k l0).bind fun t326 => ((letterbaglaw01_day.f a1).bind fun t329 => ((letterbaglaw01_day.f a2).bind fun t330 => ((letterbaglaw01_day.f a3).bind fun t331 => ((civil_Between.f (mn (mn t329 t330) (mn (mx t329 t330) t331)) (mx (mn t329 t330) (mn (mx t329 t330) t331)) t326).bind fun bt332 => ((civil_Between.f (mx (mn t329 t330) (mn (mx t329 t330) t331)) (mx (mx t329 t330) t331) t326).bind fun bt334 => ((civil_Between.f (mn (mn t329 t330) (mn (mx t329 t330) t331)) (mx (mx t329 t330) t331) t326).bind fun bt336 => (if (wrap64 ((wrap64 (bt332.2 + bt334.2)) + bt336.2)) = 0 then (letterbaglaw01_CivilAdds.j0 k (mn (mn t329 t330) (mn (mx t329 t330) t331)) (mx (mx t329 t330) t331) t326 ((wrap64 (bt332.1 + bt334.1)) != bt336.1)) else (letterbaglaw01_CivilAdds.j0 k (mn (mn t329 t330) (mn (mx t329 t330) t331)) (mx (mx t329 t330) t331) t326 true))))))))) else (some false)) = some true := H
  have A5 := Aside0.mk A50
  clear A50
  by_cases c6 : t325 = true
  · subst c6
    have H1 : ((letterbaglaw01_list.f k l0).bind fun t326 => ((letterbaglaw01_day.f a1).bind fun t329 => ((letterbaglaw01_day.f a2).bind fun t330 => ((letterbaglaw01_day.f a3).bind fun t331 => ((civil_Between.f (mn (mn t329 t330) (mn (mx t329 t330) t331)) (mx (mn t329 t330) (mn (mx t329 t330) t331)) t326).bind fun bt332 => ((civil_Between.f (mx (mn t329 t330) (mn (mx t329 t330) t331)) (mx (mx t329 t330) t331) t326).bind fun bt334 => ((civil_Between.f (mn (mn t329 t330) (mn (mx t329 t330) t331)) (mx (mx t329 t330) t331) t326).bind fun bt336 => (if (wrap64 ((wrap64 (bt332.2 + bt334.2)) + bt336.2)) = 0 then (letterbaglaw01_CivilAdds.j0 k (mn (mn t329 t330) (mn (mx t329 t330) t331)) (mx (mx t329 t330) t331) t326 ((wrap64 (bt332.1 + bt334.1)) != bt336.1)) else (letterbaglaw01_CivilAdds.j0 k (mn (mn t329 t330) (mn (mx t329 t330) t331)) (mx (mx t329 t330) t331) t326 true))))))))) = some true := by rw [if_pos rfl] at H; exact H
    clear H
    have H := H1
    clear H1
    replace H := Option.bind_eq_some_iff.mp H
    obtain ⟨t326, A70, H⟩ := H
    replace H : ((letterbaglaw01_day.f a1).bind fun t329 => ((letterbaglaw01_day.f a2).bind fun t330 => ((letterbaglaw01_day.f a3).bind fun t331 => ((civil_Between.f (mn (mn t329 t330) (mn (mx t329 t330) t331)) (mx (mn t329 t330) (mn (mx t329 t330) t331)) t326).bind fun bt332 => ((civil_Between.f (mx (mn t329 t330) (mn (mx t329 t330) t331)) (mx (mx t329 t330) t331) t326).bind fun bt334 => ((civil_Between.f (mn (mn t329 t330) (mn (mx t329 t330) t331)) (mx (mx t329 t330) t331) t326).bind fun bt336 => (if (wrap64 ((wrap64 (bt332.2 + bt334.2)) + bt336.2)) = 0 then (letterbaglaw01_CivilAdds.j0 k (mn (mn t329 t330) (mn (mx t329 t330) t331)) (mx (mx t329 t330) t331) t326 ((wrap64 (bt332.1 + bt334.1)) != bt336.1)) else (letterbaglaw01_CivilAdds.j0 k (mn (mn t329 t330) (mn (mx t329 t330) t331)) (mx (mx t329 t330) t331) t326 true)))))))) = some true := H
    have A7 := Aside0.mk A70
    clear A70
    replace H := Option.bind_eq_some_iff.mp H
    obtain ⟨t329, A80, H⟩ := H
    replace H : ((letterbaglaw01_day.f a2).bind fun t330 => ((letterbaglaw01_day.f a3).bind fun t331 => ((civil_Between.f (mn (mn t329 t330) (mn (mx t329 t330) t331)) (mx (mn t329 t330) (mn (mx t329 t330) t331)) t326).bind fun bt332 => ((civil_Between.f (mx (mn t329 t330) (mn (mx t329 t330) t331)) (mx (mx t329 t330) t331) t326).bind fun bt334 => ((civil_Between.f (mn (mn t329 t330) (mn (mx t329 t330) t331)) (mx (mx t329 t330) t331) t326).bind fun bt336 => (if (wrap64 ((wrap64 (bt332.2 + bt334.2)) + bt336.2)) = 0 then (letterbaglaw01_CivilAdds.j0 k (mn (mn t329 t330) (mn (mx t329 t330) t331)) (mx (mx t329 t330) t331) t326 ((wrap64 (bt332.1 + bt334.1)) != bt336.1)) else (letterbaglaw01_CivilAdds.j0 k (mn (mn t329 t330) (mn (mx t329 t330) t331)) (mx (mx t329 t330) t331) t326 true))))))) = some true := H
    have A8 := Aside0.mk A80
    clear A80
    replace H := Option.bind_eq_some_iff.mp H
    obtain ⟨t330, A90, H⟩ := H
    replace H : ((letterbaglaw01_day.f a3).bind fun t331 => ((civil_Between.f (mn (mn t329 t330) (mn (mx t329 t330) t331)) (mx (mn t329 t330) (mn (mx t329 t330) t331)) t326).bind fun bt332 => ((civil_Between.f (mx (mn t329 t330) (mn (mx t329 t330) t331)) (mx (mx t329 t330) t331) t326).bind fun bt334 => ((civil_Between.f (mn (mn t329 t330) (mn (mx t329 t330) t331)) (mx (mx t329 t330) t331) t326).bind fun bt336 => (if (wrap64 ((wrap64 (bt332.2 + bt334.2)) + bt336.2)) = 0 then (letterbaglaw01_CivilAdds.j0 k (mn (mn t329 t330) (mn (mx t329 t330) t331)) (mx (mx t329 t330) t331) t326 ((wrap64 (bt332.1 + bt334.1)) != bt336.1)) else (letterbaglaw01_CivilAdds.j0 k (mn (mn t329 t330) (mn (mx t329 t330) t331)) (mx (mx t329 t330) t331) t326 true)))))) = some true := H
    have A9 := Aside0.mk A90
    clear A90
    replace H := Option.bind_eq_some_iff.mp H
    obtain ⟨t331, A100, H⟩ := H
    replace H : ((civil_Between.f (mn (mn t329 t330) (mn (mx t329 t330) t331)) (mx (mn t329 t330) (mn (mx t329 t330) t331)) t326).bind fun bt332 => ((civil_Between.f (mx (mn t329 t330) (mn (mx t329 t330) t331)) (mx (mx t329 t330) t331) t326).bind fun bt334 => ((civil_Between.f (mn (mn t329 t330) (mn (mx t329 t330) t331)) (mx (mx t329 t330) t331) t326).bind fun bt336 => (if (wrap64 ((wrap64 (bt332.2 + bt334.2)) + bt336.2)) = 0 then (letterbaglaw01_CivilAdds.j0 k (mn (mn t329 t330) (mn (mx t329 t330) t331)) (mx (mx t329 t330) t331) t326 ((wrap64 (bt332.1 + bt334.1)) != bt336.1)) else (letterbaglaw01_CivilAdds.j0 k (mn (mn t329 t330) (mn (mx t329 t330) t331)) (mx (mx t329 t330) t331) t326 true))))) = some true := H
    have A10 := Aside0.mk A100
    clear A100
    obtain ⟨ji11, hji11⟩ : ∃ j_ : Int, (mn t329 t330) = j_ := ⟨_, rfl⟩
    replace H : ((civil_Between.f (mn (ji11) (mn (mx t329 t330) t331)) (mx (ji11) (mn (mx t329 t330) t331)) t326).bind fun bt332 => ((civil_Between.f (mx (ji11) (mn (mx t329 t330) t331)) (mx (mx t329 t330) t331) t326).bind fun bt334 => ((civil_Between.f (mn (ji11) (mn (mx t329 t330) t331)) (mx (mx t329 t330) t331) t326).bind fun bt336 => (if (wrap64 ((wrap64 (bt332.2 + bt334.2)) + bt336.2)) = 0 then (letterbaglaw01_CivilAdds.j0 k (mn (ji11) (mn (mx t329 t330) t331)) (mx (mx t329 t330) t331) t326 ((wrap64 (bt332.1 + bt334.1)) != bt336.1)) else (letterbaglaw01_CivilAdds.j0 k (mn (ji11) (mn (mx t329 t330) t331)) (mx (mx t329 t330) t331) t326 true))))) = some true := by first | (rw [hji11] at H; exact H) | (simp only [hji11] at H ⊢; exact H)
    (try rw [hji11] at A5)
    (try rw [hji11] at A7)
    (try rw [hji11] at A8)
    (try rw [hji11] at A9)
    (try rw [hji11] at A10)
    have hji11_ : (if t330 < t329 then t330 else t329) = ji11 := hji11
    obtain ⟨ji12, hji12⟩ : ∃ j_ : Int, (mx t329 t330) = j_ := ⟨_, rfl⟩
    replace H : ((civil_Between.f (mn (ji11) (mn (ji12) t331)) (mx (ji11) (mn (ji12) t331)) t326).bind fun bt332 => ((civil_Between.f (mx (ji11) (mn (ji12) t331)) (mx (ji12) t331) t326).bind fun bt334 => ((civil_Between.f (mn (ji11) (mn (ji12) t331)) (mx (ji12) t331) t326).bind fun bt336 => (if (wrap64 ((wrap64 (bt332.2 + bt334.2)) + bt336.2)) = 0 then (letterbaglaw01_CivilAdds.j0 k (mn (ji11) (mn (ji12) t331)) (mx (ji12) t331) t326 ((wrap64 (bt332.1 + bt334.1)) != bt336.1)) else (letterbaglaw01_CivilAdds.j0 k (mn (ji11) (mn (ji12) t331)) (mx (ji12) t331) t326 true))))) = some true := by first | (rw [hji12] at H; exact H) | (simp only [hji12] at H ⊢; exact H)
    (try rw [hji12] at A5)
    (try rw [hji12] at A7)
    (try rw [hji12] at A8)
    (try rw [hji12] at A9)
    (try rw [hji12] at A10)
    have hji12_ : (if t329 < t330 then t330 else t329) = ji12 := hji12
    obtain ⟨ji13, hji13⟩ : ∃ j_ : Int, (mn (ji12) t331) = j_ := ⟨_, rfl⟩
    replace H : ((civil_Between.f (mn (ji11) (ji13)) (mx (ji11) (ji13)) t326).bind fun bt332 => ((civil_Between.f (mx (ji11) (ji13)) (mx (ji12) t331) t326).bind fun bt334 => ((civil_Between.f (mn (ji11) (ji13)) (mx (ji12) t331) t326).bind fun bt336 => (if (wrap64 ((wrap64 (bt332.2 + bt334.2)) + bt336.2)) = 0 then (letterbaglaw01_CivilAdds.j0 k (mn (ji11) (ji13)) (mx (ji12) t331) t326 ((wrap64 (bt332.1 + bt334.1)) != bt336.1)) else (letterbaglaw01_CivilAdds.j0 k (mn (ji11) (ji13)) (mx (ji12) t331) t326 true))))) = some true := by first | (rw [hji13] at H; exact H) | (simp only [hji13] at H ⊢; exact H)
    (try rw [hji13] at A5)
    (try rw [hji13] at A7)
    (try rw [hji13] at A8)
    (try rw [hji13] at A9)
    (try rw [hji13] at A10)
    have hji13_ : (if t331 < (ji12) then t331 else (ji12)) = ji13 := hji13
    obtain ⟨ji14, hji14⟩ : ∃ j_ : Int, (mx (ji12) t331) = j_ := ⟨_, rfl⟩
    replace H : ((civil_Between.f (mn (ji11) (ji13)) (mx (ji11) (ji13)) t326).bind fun bt332 => ((civil_Between.f (mx (ji11) (ji13)) (ji14) t326).bind fun bt334 => ((civil_Between.f (mn (ji11) (ji13)) (ji14) t326).bind fun bt336 => (if (wrap64 ((wrap64 (bt332.2 + bt334.2)) + bt336.2)) = 0 then (letterbaglaw01_CivilAdds.j0 k (mn (ji11) (ji13)) ji14 t326 ((wrap64 (bt332.1 + bt334.1)) != bt336.1)) else (letterbaglaw01_CivilAdds.j0 k (mn (ji11) (ji13)) ji14 t326 true))))) = some true := by first | (rw [hji14] at H; exact H) | (simp only [hji14] at H ⊢; exact H)
    (try rw [hji14] at A5)
    (try rw [hji14] at A7)
    (try rw [hji14] at A8)
    (try rw [hji14] at A9)
    (try rw [hji14] at A10)
    have hji14_ : (if (ji12) < t331 then t331 else (ji12)) = ji14 := hji14
    obtain ⟨ji15, hji15⟩ : ∃ j_ : Int, (mn (ji11) (ji13)) = j_ := ⟨_, rfl⟩
    replace H : ((civil_Between.f (ji15) (mx (ji11) (ji13)) t326).bind fun bt332 => ((civil_Between.f (mx (ji11) (ji13)) (ji14) t326).bind fun bt334 => ((civil_Between.f (ji15) (ji14) t326).bind fun bt336 => (if (wrap64 ((wrap64 (bt332.2 + bt334.2)) + bt336.2)) = 0 then (letterbaglaw01_CivilAdds.j0 k ji15 ji14 t326 ((wrap64 (bt332.1 + bt334.1)) != bt336.1)) else (letterbaglaw01_CivilAdds.j0 k ji15 ji14 t326 true))))) = some true := by first | (rw [hji15] at H; exact H) | (simp only [hji15] at H ⊢; exact H)
    (try rw [hji15] at A5)
    (try rw [hji15] at A7)
    (try rw [hji15] at A8)
    (try rw [hji15] at A9)
    (try rw [hji15] at A10)
    have hji15_ : (if (ji13) < (ji11) then (ji13) else (ji11)) = ji15 := hji15
    obtain ⟨ji16, hji16⟩ : ∃ j_ : Int, (mx (ji11) (ji13)) = j_ := ⟨_, rfl⟩
    replace H : ((civil_Between.f (ji15) (ji16) t326).bind fun bt332 => ((civil_Between.f (ji16) (ji14) t326).bind fun bt334 => ((civil_Between.f (ji15) (ji14) t326).bind fun bt336 => (if (wrap64 ((wrap64 (bt332.2 + bt334.2)) + bt336.2)) = 0 then (letterbaglaw01_CivilAdds.j0 k ji15 ji14 t326 ((wrap64 (bt332.1 + bt334.1)) != bt336.1)) else (letterbaglaw01_CivilAdds.j0 k ji15 ji14 t326 true))))) = some true := by first | (rw [hji16] at H; exact H) | (simp only [hji16] at H ⊢; exact H)
    (try rw [hji16] at A5)
    (try rw [hji16] at A7)
    (try rw [hji16] at A8)
    (try rw [hji16] at A9)
    (try rw [hji16] at A10)
    have hji16_ : (if (ji11) < (ji13) then (ji13) else (ji11)) = ji16 := hji16
    replace H := Option.bind_eq_some_iff.mp H
    obtain ⟨⟨t332, t333⟩, A170, H⟩ := H
    replace H : ((civil_Between.f (ji16) (ji14) t326).bind fun bt334 => ((civil_Between.f (ji15) (ji14) t326).bind fun bt336 => (if (wrap64 ((wrap64 (t333 + bt334.2)) + bt336.2)) = 0 then (letterbaglaw01_CivilAdds.j0 k ji15 ji14 t326 ((wrap64 (t332 + bt334.1)) != bt336.1)) else (letterbaglaw01_CivilAdds.j0 k ji15 ji14 t326 true)))) = some true := H
    have A17 := Aside0.mk A170
    clear A170
    replace H := Option.bind_eq_some_iff.mp H
    obtain ⟨⟨t334, t335⟩, A180, H⟩ := H
    replace H : ((civil_Between.f (ji15) (ji14) t326).bind fun bt336 => (if (wrap64 ((wrap64 (t333 + t335)) + bt336.2)) = 0 then (letterbaglaw01_CivilAdds.j0 k ji15 ji14 t326 ((wrap64 (t332 + t334)) != bt336.1)) else (letterbaglaw01_CivilAdds.j0 k ji15 ji14 t326 true))) = some true := H
    have A18 := Aside0.mk A180
    clear A180
    replace H := Option.bind_eq_some_iff.mp H
    obtain ⟨⟨t336, t337⟩, A190, H⟩ := H
    replace H : (if (wrap64 ((wrap64 (t333 + t335)) + t337)) = 0 then (letterbaglaw01_CivilAdds.j0 k ji15 ji14 t326 ((wrap64 (t332 + t334)) != t336)) else (letterbaglaw01_CivilAdds.j0 k ji15 ji14 t326 true)) = some true := H
    have A19 := Aside0.mk A190
    clear A190
    have HC20 := Aside0.mk H
    clear H
    go_enter Tryd.func10, Tryd.ntmps10
    go_upto_region 11 with (first | ((with_reducible refine gate_callee (f := 17) rfl ?_); refine goesL_ (some 26) rfl rfl Tryd.func17 (by kernel_rfl) rfl #[] rfl (by (try simp only [List.map_toArray, List.map_cons, List.map_nil]); first | done | rfl | (simp only [List.length_drop, List.length_take]; rfl)) ?_; (with_reducible refine (letterbaglaw01_awake.calls k  true _ ?tabG A5.out).mono ?_); (case tabG => (first | exact hg | exact ⟨hg.out.below (by repeat (first | (with_reducible first | exact HB.out | apply below_alloc | apply pw_below_drewN | apply below_drew1) | exact HB.out))⟩)); rintro e w21 ⟨rfl, hb⟩; refine ⟨_, rfl, ?_⟩; have n0_ := Aside0.mk (below_step (by repeat (first | (with_reducible first | exact HB.out | apply below_alloc | apply pw_below_drewN | apply below_drew1) | exact HB.out)) hb); clear HB; have HB := n0_; clear n0_; (try clear hb); (try clear hb2); (try clear hk); (try clear hi)) | ((with_reducible refine gate_callee (f := 38) rfl ?_); refine goesL_ (some 29) rfl rfl Tryd.func38 (by kernel_rfl) rfl #[.slice A0 l0.length c0] rfl (by (try simp only [List.map_toArray, List.map_cons, List.map_nil]); first | done | rfl | (simp only [List.length_drop, List.length_take]; rfl)) ?_; (with_reducible refine (letterbaglaw01_list.calls k _ _ l0 t326 _ ?side1 ?side2 A7.out).mono ?_); (case side1 => repeat (first | exact (Kd.C_below HR0.out HB.out) | (with_reducible refine Kd.C_alloc ?_ _) | (with_reducible refine Kd.C_drewN ?_ _) | (with_reducible refine Kd.C_drew ?_))); (case side2 => exact HC0.out); rintro e w22 ⟨v327, rfl, ho0, hb⟩; refine ⟨_, rfl, ?_⟩; have n0_ := Aside0.mk (Kd.R_lower ho0 (below_size (by repeat (first | (with_reducible first | exact HB.out | apply below_alloc | apply pw_below_drewN | apply below_drew1) | exact HB.out)))); have n1_ := Aside0.mk (below_step (by repeat (first | (with_reducible first | exact HB.out | apply below_alloc | apply pw_below_drewN | apply below_drew1) | exact HB.out)) hb); clear HB; have HO328 := n0_; have HB := n1_; clear n0_ n1_; (try clear hb); (try clear hb2); (try clear hk); (try clear hi); (try clear ho0)) | ((with_reducible refine gate_callee (f := 37) rfl ?_); refine goesL_ (some 31) rfl rfl Tryd.func37 (by kernel_rfl) rfl #[.int .i64 a1] rfl (by (try simp only [List.map_toArray, List.map_cons, List.map_nil]); first | done | rfl | (simp only [List.length_drop, List.length_take]; rfl)) ?_; (with_reducible refine (letterbaglaw01_day.calls a1 t329 _ A8.out).mono ?_); rintro e w' ⟨rfl, ⟨nd, rfl⟩⟩; refine ⟨_, rfl, ?_⟩) | ((with_reducible refine gate_callee (f := 37) rfl ?_); refine goesL_ (some 33) rfl rfl Tryd.func37 (by kernel_rfl) rfl #[.int .i64 a2] rfl (by (try simp only [List.map_toArray, List.map_cons, List.map_nil]); first | done | rfl | (simp only [List.length_drop, List.length_take]; rfl)) ?_; (with_reducible refine (letterbaglaw01_day.calls a2 t330 _ A9.out).mono ?_); rintro e w' ⟨rfl, ⟨nd, rfl⟩⟩; refine ⟨_, rfl, ?_⟩) | ((with_reducible refine gate_callee (f := 37) rfl ?_); refine goesL_ (some 35) rfl rfl Tryd.func37 (by kernel_rfl) rfl #[.int .i64 a3] rfl (by (try simp only [List.map_toArray, List.map_cons, List.map_nil]); first | done | rfl | (simp only [List.length_drop, List.length_take]; rfl)) ?_; (with_reducible refine (letterbaglaw01_day.calls a3 t331 _ A10.out).mono ?_); rintro e w' ⟨rfl, ⟨nd, rfl⟩⟩; refine ⟨_, rfl, ?_⟩; obtain ⟨Ao23, co23, eo23⟩ := Kd.R_slice HO328.out; subst eo23) | ((with_reducible refine gate_callee (f := 28) rfl ?_); refine goesL_ (some 58) rfl rfl Tryd.func28 (by kernel_rfl) rfl #[.int .i64 ji15, .int .i64 ji16, .slice Ao23 t326.length co23] rfl (by (try simp only [List.map_toArray, List.map_cons, List.map_nil]); first | done | (simp only [hji15, hji16]; rfl) | rfl | (simp only [List.length_drop, List.length_take]; rfl)) ?_; (with_reducible refine (civil_Between.calls ji15 ji16 _ _ t326 t332 t333 _ ?side1 ?side2 A17.out).mono ?_); (case side1 => repeat (first | exact (Kd.R_reads' HO328.out).2.2 | (with_reducible refine Kd.C_alloc ?_ _) | (with_reducible refine Kd.C_drewN ?_ _) | (with_reducible refine Kd.C_drew ?_))); (case side2 => exact (Kd.R_reads' HO328.out).2.1); rintro e w24 ⟨rfl, hb⟩; refine ⟨_, rfl, ?_⟩; have n0_ := Aside0.mk (Kd.R_below (by (with_reducible repeat (first | apply Kd.R_alloc | apply Kd.R_drewN | apply Kd.R_drew)); exact HO328.out) hb); have n1_ := Aside0.mk (below_step (by repeat (first | (with_reducible first | exact HB.out | apply below_alloc | apply pw_below_drewN | apply below_drew1) | exact HB.out)) hb); clear HO328; clear HB; have HO328 := n0_; have HB := n1_; clear n0_ n1_; (try clear hb); (try clear hb2); (try clear hk); (try clear hi)) | ((with_reducible refine gate_callee (f := 28) rfl ?_); refine goesL_ (some 65) rfl rfl Tryd.func28 (by kernel_rfl) rfl #[.int .i64 ji16, .int .i64 ji14, .slice Ao23 t326.length co23] rfl (by (try simp only [List.map_toArray, List.map_cons, List.map_nil]); first | done | (simp only [hji14, hji16]; rfl) | rfl | (simp only [List.length_drop, List.length_take]; rfl)) ?_; (with_reducible refine (civil_Between.calls ji16 ji14 _ _ t326 t334 t335 _ ?side1 ?side2 A18.out).mono ?_); (case side1 => repeat (first | exact (Kd.R_reads' HO328.out).2.2 | (with_reducible refine Kd.C_alloc ?_ _) | (with_reducible refine Kd.C_drewN ?_ _) | (with_reducible refine Kd.C_drew ?_))); (case side2 => exact (Kd.R_reads' HO328.out).2.1); rintro e w25 ⟨rfl, hb⟩; refine ⟨_, rfl, ?_⟩; have n0_ := Aside0.mk (Kd.R_below (by (with_reducible repeat (first | apply Kd.R_alloc | apply Kd.R_drewN | apply Kd.R_drew)); exact HO328.out) hb); have n1_ := Aside0.mk (below_step (by repeat (first | (with_reducible first | exact HB.out | apply below_alloc | apply pw_below_drewN | apply below_drew1) | exact HB.out)) hb); clear HO328; clear HB; have HO328 := n0_; have HB := n1_; clear n0_ n1_; (try clear hb); (try clear hb2); (try clear hk); (try clear hi)) | ((with_reducible refine gate_callee (f := 28) rfl ?_); refine goesL_ (some 72) rfl rfl Tryd.func28 (by kernel_rfl) rfl #[.int .i64 ji15, .int .i64 ji14, .slice Ao23 t326.length co23] rfl (by (try simp only [List.map_toArray, List.map_cons, List.map_nil]); first | done | (simp only [hji14, hji15]; rfl) | rfl | (simp only [List.length_drop, List.length_take]; rfl)) ?_; (with_reducible refine (civil_Between.calls ji15 ji14 _ _ t326 t336 t337 _ ?side1 ?side2 A19.out).mono ?_); (case side1 => repeat (first | exact (Kd.R_reads' HO328.out).2.2 | (with_reducible refine Kd.C_alloc ?_ _) | (with_reducible refine Kd.C_drewN ?_ _) | (with_reducible refine Kd.C_drew ?_))); (case side2 => exact (Kd.R_reads' HO328.out).2.1); rintro e w26 ⟨rfl, hb⟩; refine ⟨_, rfl, ?_⟩; have n0_ := Aside0.mk (Kd.R_below (by (with_reducible repeat (first | apply Kd.R_alloc | apply Kd.R_drewN | apply Kd.R_drew)); exact HO328.out) hb); have n1_ := Aside0.mk (below_step (by repeat (first | (with_reducible first | exact HB.out | apply below_alloc | apply pw_below_drewN | apply below_drew1) | exact HB.out)) hb); clear HO328; clear HB; have HO328 := n0_; have HB := n1_; clear n0_ n1_; (try clear hb); (try clear hb2); (try clear hk); (try clear hi)))
    (try simp only [Act.put, List.setIfInBounds_toArray, List.set_cons_zero, List.set_cons_succ])
    go_cut [87] (fun v87 wc => ∃ (kq : Nat) (x87_19 : Bool), v87 = .bool x87_19 ∧ Aside0 (letterbaglaw01_CivilAdds.j0 kq ji15 ji14 t326 x87_19 = some true) ∧ Aside0 (kq ≤ k) ∧ Aside0 (Kd.R (Kd.int .i64) 3 wc w.heap.size (fun _ => True) (.slice Ao23 t326.length co23) t326) ∧ Aside0 (Below w.heap.size w wc))
    case first =>
      have H := HC20.out
      clear HC20
      by_cases c27 : (wrap64 ((wrap64 (t333 + t335)) + t337)) = 0
      · rw [if_pos c27] at H
        have c27b0 : ((wrap64 ((wrap64 (t333 + t335)) + t337)) == 0) = true := beq_iff_eq.mpr c27
        have c27b1 : ((wrap64 ((wrap64 (t333 + t335)) + t337)) != 0) = false := bne_eq_false_iff_eq.mpr c27
        clear c27
        (first | rw [c27b0] | (simp only [i64_w, i32_w]; rw [c27b0]) | skip)
        have H' := Aside0.mk H
        clear H
        go_wp2
        go_meet
        case rel => exact ⟨_, (((wrap64 (t332 + t334)) != t336)), (by first | rfl | (simp; done) | (simp [*]; done) | (simp; exact (show ∀ a_ b_ : Bool, (a_ == b_) = (!(a_ != b_)) from by decide) _ _) | (rw [Bool.eq_iff_iff]; simp; done) | (simp; rw [Bool.eq_iff_iff]; simp; done)), H', ⟨by first | omega | exact Nat.le_refl _⟩, ⟨by (with_reducible repeat (first | apply Kd.R_alloc | apply Kd.R_drewN | apply Kd.R_drew)); exact HO328.out⟩, ⟨by repeat (first | (with_reducible first | exact HB.out | apply below_alloc | apply pw_below_drewN | apply below_drew1) | exact HB.out)⟩⟩
      · rw [if_neg c27] at H
        have c27b0 : ((wrap64 ((wrap64 (t333 + t335)) + t337)) == 0) = false := beq_eq_false_iff_ne.mpr c27
        have c27b1 : ((wrap64 ((wrap64 (t333 + t335)) + t337)) != 0) = true := bne_iff_ne.mpr c27
        (first | rw [c27b0] | (simp only [i64_w, i32_w]; rw [c27b0]) | skip)
        have H' := Aside0.mk H
        clear H
        go_wp2
        go_meet
        case rel => exact ⟨_, (true), (by first | rfl | (simp; done) | (simp [*]; done) | (simp; exact (show ∀ a_ b_ : Bool, (a_ == b_) = (!(a_ != b_)) from by decide) _ _) | (rw [Bool.eq_iff_iff]; simp; done) | (simp; rw [Bool.eq_iff_iff]; simp; done)), H', ⟨by first | omega | exact Nat.le_refl _⟩, ⟨by (with_reducible repeat (first | apply Kd.R_alloc | apply Kd.R_drewN | apply Kd.R_drew)); exact HO328.out⟩, ⟨by repeat (first | (with_reducible first | exact HB.out | apply below_alloc | apply pw_below_drewN | apply below_drew1) | exact HB.out)⟩⟩
    case rest =>
      clear HC20
      try clear c1
      try clear c2
      try clear p2
      try clear c3
      try clear c6
      try clear p6
      try clear c10
      try clear c17
      try clear c27
      try clear c27b0
      try clear c27b1
      obtain ⟨kq, x87_19, rfl, HA, HJ19, HO_9, HB⟩ := hcut
      cases kq with
      | zero => exact absurd HA.out (by simp [letterbaglaw01_CivilAdds.j0])
      | succ kj19 =>
        have H := HA.out
        clear HA
        simp only [letterbaglaw01_CivilAdds.j0] at H
        by_cases c28 : x87_19 = true
        · subst c28
          have H1 : (some false) = some true := by rw [if_pos rfl] at H; exact H
          clear H
          have H := H1
          clear H1
          exact absurd H (by simp)
        · replace c28 := Bool.eq_false_iff.mpr c28
          subst c28
          have H1 : (letterbaglaw01_CivilAdds.l0 kj19 ji15 ji14 t326 ji15) = some true := by rw [if_neg (show ¬ (false = true) by decide)] at H; exact H
          clear H
          have H := H1
          clear H1
          have H' := Aside0.mk H
          clear H
          go_wp2
          go_loopg [16] kj19 (fun kq v16 w' => ∃ (x16_2 : Int), v16 = .int .i64 x16_2 ∧ Aside0 (letterbaglaw01_CivilAdds.l0 kq ji15 ji14 t326 x16_2 = some true) ∧ Aside0 (kq ≤ kj19) ∧ Aside0 (Kd.R (Kd.int .i64) 3 w' w.heap.size (fun _ => True) (.slice Ao23 t326.length co23) t326) ∧ Aside0 (Below w.heap.size w w'))
          case atStart => exact ⟨(ji15), (by first | rfl | (simp; done) | (simp only [← hji15] <;> (first | rfl | simp)) | (simp [*]; done) | (simp; exact (show ∀ a_ b_ : Bool, (a_ == b_) = (!(a_ != b_)) from by decide) _ _) | (rw [Bool.eq_iff_iff]; simp; done) | (simp; rw [Bool.eq_iff_iff]; simp; done)), H', ⟨Nat.le_refl _⟩, ⟨by (with_reducible repeat (first | apply Kd.R_alloc | apply Kd.R_drewN | apply Kd.R_drew)); exact HO_9.out⟩, ⟨by repeat (first | (with_reducible first | exact HB.out | apply below_alloc | apply pw_below_drewN | apply below_drew1) | exact HB.out)⟩⟩
          case round =>
            clear H'
            try clear c1
            try clear c2
            try clear p2
            try clear c3
            try clear c6
            try clear p6
            try clear c10
            try clear c17
            try clear c27
            try clear c27b0
            try clear c27b1
            try clear c28
            try clear p2
            try clear p6
            obtain ⟨x16_2, rfl, HA, HK2, HO_9, HB⟩ := hrel
            cases gk with
            | zero => exact absurd HA.out (by simp [letterbaglaw01_CivilAdds.l0])
            | succ k2 =>
              have H := HA.out
              clear HA
              simp only [letterbaglaw01_CivilAdds.l0] at H
              obtain ⟨ji29, hji29⟩ : ∃ j_ : Int, (mn (wrap64 (ji15 + 7)) ji14) = j_ := ⟨_, rfl⟩
              replace H : (if x16_2 < (ji29) then ((civil_Works.f k2 x16_2 t326).bind fun bt338 => ((civil_Between.f x16_2 (wrap64 (x16_2 + 1)) t326).bind fun bt340 => (if (wrap64 (bt338.2 + bt340.2)) = 0 then (if (bt338.1 != (bt340.1 == 1)) = true then (some false) else (if bt340.1 < 0 then (some false) else (if bt340.1 > 1 then (some false) else (letterbaglaw01_CivilAdds.l0 k2 ji15 ji14 t326 (wrap64 (x16_2 + 1)))))) else (some false)))) else ((civil_Between.f ji15 (wrap64 (ji15 + (wrap64 ((wrap64 (Int.tdiv (wrap64 (ji14 - ji15)) 7)) * 7)))) ([] : List Int)).bind fun bt342 => (if bt342.2 = 0 then (letterbaglaw01_CivilAdds.j2 k2 t326 (bt342.1 != (wrap64 ((wrap64 (Int.tdiv (wrap64 (ji14 - ji15)) 7)) * 5)))) else (letterbaglaw01_CivilAdds.j2 k2 t326 true)))) = some true := by first | (rw [hji29] at H; exact H) | (simp only [hji29] at H ⊢; exact H)
              have hji29_ : (if ji14 < (wrap64 (ji15 + 7)) then ji14 else (wrap64 (ji15 + 7))) = ji29 := hji29
              by_cases c30 : x16_2 < (ji29)
              · rw [if_pos c30] at H
                have c30b0 : decide (x16_2 < (ji29)) = true := decide_eq_true c30
                clear c30
                replace H := Option.bind_eq_some_iff.mp H
                obtain ⟨⟨t338, t339⟩, A310, H⟩ := H
                replace H : ((civil_Between.f x16_2 (wrap64 (x16_2 + 1)) t326).bind fun bt340 => (if (wrap64 (t339 + bt340.2)) = 0 then (if (t338 != (bt340.1 == 1)) = true then (some false) else (if bt340.1 < 0 then (some false) else (if bt340.1 > 1 then (some false) else (letterbaglaw01_CivilAdds.l0 k2 ji15 ji14 t326 (wrap64 (x16_2 + 1)))))) else (some false))) = some true := H
                have A31 := Aside0.mk A310
                clear A310
                replace H := Option.bind_eq_some_iff.mp H
                obtain ⟨⟨t340, t341⟩, A320, H⟩ := H
                replace H : (if (wrap64 (t339 + t341)) = 0 then (if (t338 != (t340 == 1)) = true then (some false) else (if t340 < 0 then (some false) else (if t340 > 1 then (some false) else (letterbaglaw01_CivilAdds.l0 k2 ji15 ji14 t326 (wrap64 (x16_2 + 1)))))) else (some false)) = some true := H
                have A32 := Aside0.mk A320
                clear A320
                by_cases c33 : (wrap64 (t339 + t341)) = 0
                · rw [if_pos c33] at H
                  have c33b0 : ((wrap64 (t339 + t341)) == 0) = true := beq_iff_eq.mpr c33
                  have c33b1 : ((wrap64 (t339 + t341)) != 0) = false := bne_eq_false_iff_eq.mpr c33
                  clear c33
                  by_cases c34 : (t338 != (t340 == 1)) = true
                  · rw [if_pos c34] at H
                    have c34b0 : (t338 != (t340 == 1)) = true := c34
                    (try (have c34b1 : decide (t338 = (t340 == 1)) = false := by simpa using c34))
                    (try (have c34b2 : (t338 == (t340 == 1)) = false := by simpa using c34))
                    (try (have c34b3 : ¬ (t338 = (t340 == 1)) := by simpa using c34))
                    clear c34
                    exact absurd H (by simp)
                  · rw [if_neg c34] at H
                    have c34b0 : (t338 != (t340 == 1)) = false := by simpa using c34
                    (try (have c34b1 : decide (t338 = (t340 == 1)) = true := by simpa using c34))
                    (try (have c34b2 : (t338 == (t340 == 1)) = true := by simpa using c34))
                    clear c34
                    by_cases c35 : t340 < 0
                    · rw [if_pos c35] at H
                      have c35b0 : decide (t340 < 0) = true := decide_eq_true c35
                      clear c35
                      exact absurd H (by simp)
                    · rw [if_neg c35] at H
                      have c35b0 : decide (t340 < 0) = false := decide_eq_false c35
                      clear c35
                      by_cases c36 : t340 > 1
                      · rw [if_pos c36] at H
                        have c36b0 : decide (1 < t340) = true := decide_eq_true c36
                        clear c36
                        exact absurd H (by simp)
                      · rw [if_neg c36] at H
                        have c36b0 : decide (1 < t340) = false := decide_eq_false c36
                        clear c36
                        have H' := Aside0.mk H
                        clear H
                        go_wp2_with (first | ((with_reducible refine gate_callee (f := 25) rfl ?_); refine goesL_ (some 100) rfl rfl Tryd.func25 (by kernel_rfl) rfl #[.int .i64 x16_2, .slice Ao23 t326.length co23] rfl (by (try simp only [List.map_toArray, List.map_cons, List.map_nil]); first | done | rfl | (simp only [List.length_drop, List.length_take]; rfl)) ?_; (with_reducible refine (civil_Works.calls k2 x16_2 _ _ t326 t338 t339 _ ?side1 ?side2 A31.out).mono ?_); (case side1 => repeat (first | exact (Kd.R_reads' HO_9.out).2.2 | (with_reducible refine Kd.C_alloc ?_ _) | (with_reducible refine Kd.C_drewN ?_ _) | (with_reducible refine Kd.C_drew ?_))); (case side2 => exact (Kd.R_reads' HO_9.out).2.1); rintro e w' ⟨rfl, ⟨nd, rfl⟩⟩; refine ⟨_, rfl, ?_⟩) | ((with_reducible refine gate_callee (f := 28) rfl ?_); refine goesL_ (some 108) rfl rfl Tryd.func28 (by kernel_rfl) rfl #[.int .i64 x16_2, .int .i64 (wrap64 (x16_2 + 1)), .slice Ao23 t326.length co23] rfl (by (try simp only [List.map_toArray, List.map_cons, List.map_nil]); first | done | rfl | (simp only [List.length_drop, List.length_take]; rfl)) ?_; (with_reducible refine (civil_Between.calls x16_2 (wrap64 (x16_2 + 1)) _ _ t326 t340 t341 _ ?side1 ?side2 A32.out).mono ?_); (case side1 => repeat (first | exact (Kd.R_reads' HO_9.out).2.2 | (with_reducible refine Kd.C_alloc ?_ _) | (with_reducible refine Kd.C_drewN ?_ _) | (with_reducible refine Kd.C_drew ?_))); (case side2 => exact (Kd.R_reads' HO_9.out).2.1); rintro e w37 ⟨rfl, hb⟩; refine ⟨_, rfl, ?_⟩; have n0_ := Aside0.mk (Kd.R_below (by (with_reducible repeat (first | apply Kd.R_alloc | apply Kd.R_drewN | apply Kd.R_drew)); exact HO_9.out) hb); have n1_ := Aside0.mk (below_step (by repeat (first | (with_reducible first | exact HB.out | apply below_alloc | apply pw_below_drewN | apply below_drew1) | exact HB.out)) hb); clear HO_9; clear HB; have HO_9 := n0_; have HB := n1_; clear n0_ n1_; (try clear hb); (try clear hb2); (try clear hk); (try clear hi)))
                        go_roundg k2
                        case measure => have := HJ19.out; have := HK2.out; omega
                        case rel => exact ⟨(wrap64 (x16_2 + 1)), (by first | rfl | (simp; done) | (simp [*]; done) | (simp; exact (show ∀ a_ b_ : Bool, (a_ == b_) = (!(a_ != b_)) from by decide) _ _) | (rw [Bool.eq_iff_iff]; simp; done) | (simp; rw [Bool.eq_iff_iff]; simp; done)), H', ⟨by have := HJ19.out; have := HK2.out; omega⟩, ⟨by (with_reducible repeat (first | apply Kd.R_alloc | apply Kd.R_drewN | apply Kd.R_drew)); exact HO_9.out⟩, ⟨by repeat (first | (with_reducible first | exact HB.out | apply below_alloc | apply pw_below_drewN | apply below_drew1) | exact HB.out)⟩⟩
                · rw [if_neg c33] at H
                  have c33b0 : ((wrap64 (t339 + t341)) == 0) = false := beq_eq_false_iff_ne.mpr c33
                  have c33b1 : ((wrap64 (t339 + t341)) != 0) = true := bne_iff_ne.mpr c33
                  exact absurd H (by simp)
              · rw [if_neg c30] at H
                have c30b0 : decide (x16_2 < (ji29)) = false := decide_eq_false c30
                clear c30
                replace H := Option.bind_eq_some_iff.mp H
                obtain ⟨⟨t342, t343⟩, A380, H⟩ := H
                replace H : (if t343 = 0 then (letterbaglaw01_CivilAdds.j2 k2 t326 (t342 != (wrap64 ((wrap64 (Int.tdiv (wrap64 (ji14 - ji15)) 7)) * 5)))) else (letterbaglaw01_CivilAdds.j2 k2 t326 true)) = some true := H
                have A38 := Aside0.mk A380
                clear A380
                have HC39 := Aside0.mk H
                clear H
                go_upto_region 21 with (first | ((with_reducible refine gate_callee (f := 28) rfl ?_); refine goesL_ (some 138) rfl rfl Tryd.func28 (by kernel_rfl) rfl #[.int .i64 ji15, .int .i64 (wrap64 (ji15 + (wrap64 ((wrap64 (Int.tdiv (wrap64 (ji14 - ji15)) 7)) * 7)))), .slice none 0 0] rfl (by (try simp only [List.map_toArray, List.map_cons, List.map_nil]); first | done | (simp only [hji14, hji15]; rfl) | rfl | (simp only [List.length_drop, List.length_take]; rfl)) ?_; (refine (civil_Between.calls ji15 (wrap64 (ji15 + (wrap64 ((wrap64 (Int.tdiv (wrap64 (ji14 - ji15)) 7)) * 7)))) _ _ ([] : List Int) t342 t343 _ ?side1 ?side2 A38.out).mono ?_); (case side1 => exact Kd.C_nil _ _); (case side2 => exact Nat.le_refl _); rintro e w40 ⟨rfl, hb⟩; refine ⟨_, rfl, ?_⟩; have n0_ := Aside0.mk (Kd.R_below (by (with_reducible repeat (first | apply Kd.R_alloc | apply Kd.R_drewN | apply Kd.R_drew)); exact HO_9.out) hb); have n1_ := Aside0.mk (below_step (by repeat (first | (with_reducible first | exact HB.out | apply below_alloc | apply pw_below_drewN | apply below_drew1) | exact HB.out)) hb); clear HO_9; clear HB; have HO_9 := n0_; have HB := n1_; clear n0_ n1_; (try clear hb); (try clear hb2); (try clear hk); (try clear hi)))
                (try simp only [Act.put, List.setIfInBounds_toArray, List.set_cons_zero, List.set_cons_succ])
                go_cut [151] (fun v151 wc => ∃ (kq : Nat) (x151_38 : Bool), v151 = .bool x151_38 ∧ Aside0 (letterbaglaw01_CivilAdds.j2 kq t326 x151_38 = some true) ∧ Aside0 (kq ≤ k2) ∧ Aside0 (Kd.R (Kd.int .i64) 3 wc w.heap.size (fun _ => True) (.slice Ao23 t326.length co23) t326) ∧ Aside0 (Below w.heap.size w wc))
                case first =>
                  have H := HC39.out
                  clear HC39
                  by_cases c41 : t343 = 0
                  · rw [if_pos c41] at H
                    have c41b0 : (t343 == 0) = true := beq_iff_eq.mpr c41
                    have c41b1 : (t343 != 0) = false := bne_eq_false_iff_eq.mpr c41
                    clear c41
                    (first | rw [c41b0] | (simp only [i64_w, i32_w]; rw [c41b0]) | skip)
                    have H' := Aside0.mk H
                    clear H
                    go_wp2
                    go_meet
                    case rel => exact ⟨_, ((t342 != (wrap64 ((wrap64 (Int.tdiv (wrap64 (ji14 - ji15)) 7)) * 5)))), (by first | rfl | (simp; done) | (simp only [← hji14, ← hji15] <;> (first | rfl | simp)) | (simp [*]; done) | (simp; exact (show ∀ a_ b_ : Bool, (a_ == b_) = (!(a_ != b_)) from by decide) _ _) | (rw [Bool.eq_iff_iff]; simp; done) | (simp; rw [Bool.eq_iff_iff]; simp; done)), H', ⟨by have := HJ19.out; have := HK2.out; first | omega | exact Nat.le_refl _⟩, ⟨by (with_reducible repeat (first | apply Kd.R_alloc | apply Kd.R_drewN | apply Kd.R_drew)); exact HO_9.out⟩, ⟨by repeat (first | (with_reducible first | exact HB.out | apply below_alloc | apply pw_below_drewN | apply below_drew1) | exact HB.out)⟩⟩
                  · rw [if_neg c41] at H
                    have c41b0 : (t343 == 0) = false := beq_eq_false_iff_ne.mpr c41
                    have c41b1 : (t343 != 0) = true := bne_iff_ne.mpr c41
                    (first | rw [c41b0] | (simp only [i64_w, i32_w]; rw [c41b0]) | skip)
                    have H' := Aside0.mk H
                    clear H
                    go_wp2
                    go_meet
                    case rel => exact ⟨_, (true), (by first | rfl | (simp; done) | (simp [*]; done) | (simp; exact (show ∀ a_ b_ : Bool, (a_ == b_) = (!(a_ != b_)) from by decide) _ _) | (rw [Bool.eq_iff_iff]; simp; done) | (simp; rw [Bool.eq_iff_iff]; simp; done)), H', ⟨by have := HJ19.out; have := HK2.out; first | omega | exact Nat.le_refl _⟩, ⟨by (with_reducible repeat (first | apply Kd.R_alloc | apply Kd.R_drewN | apply Kd.R_drew)); exact HO_9.out⟩, ⟨by repeat (first | (with_reducible first | exact HB.out | apply below_alloc | apply pw_below_drewN | apply below_drew1) | exact HB.out)⟩⟩
                case rest =>
                  clear HC39
                  try clear c1
                  try clear c2
                  try clear p2
                  try clear c3
                  try clear c4
                  try clear c6
                  try clear p6
                  try clear c10
                  try clear c17
                  try clear c25
                  try clear c27
                  try clear c27b0
                  try clear c27b1
                  try clear c28
                  try clear c30
                  try clear c30b0
                  try clear c33
                  try clear c33b0
                  try clear c33b1
                  try clear c34
                  try clear c34b0
                  try clear c34b1
                  try clear c34b2
                  try clear c35
                  try clear c35b0
                  try clear c36
                  try clear c36b0
                  try clear c37
                  try clear c38
                  try clear c41
                  try clear c41b0
                  try clear c41b1
                  try clear p2
                  try clear p6
                  obtain ⟨kq, x151_38, rfl, HA, HJ38, HO_9, HB⟩ := hcut
                  cases kq with
                  | zero => exact absurd HA.out (by simp [letterbaglaw01_CivilAdds.j2])
                  | succ kj38 =>
                    have H := HA.out
                    clear HA
                    simp only [letterbaglaw01_CivilAdds.j2] at H
                    by_cases c42 : x151_38 = true
                    · subst c42
                      have H1 : (some false) = some true := by rw [if_pos rfl] at H; exact H
                      clear H
                      have H := H1
                      clear H1
                      exact absurd H (by simp)
                    · replace c42 := Bool.eq_false_iff.mpr c42
                      subst c42
                      have H1 : (if (t326.length : Int) = 0 then (some true) else (if 0 ≤ (wrap64 ((t326.length : Int) - 1)) then (if (wrap64 ((t326.length : Int) - 1)) < (t326.length : Int) then (if (wrap64 ((t326.length : Int) - 1)) ≤ (t326.length : Int) then ((civil_Between.f 0 730484 (t326.take ((wrap64 ((t326.length : Int) - 1)) : Int).toNat)).bind fun bt349 => ((civil_Between.f 0 730484 t326).bind fun bt351 => ((civil_Works.f kj38 (rd t326 (wrap64 ((t326.length : Int) - 1))) (t326.take ((wrap64 ((t326.length : Int) - 1)) : Int).toNat)).bind fun bt357 => (if (wrap64 ((wrap64 (bt349.2 + bt351.2)) + bt357.2)) = 0 then (if bt357.1 = true then (if (rd t326 (wrap64 ((t326.length : Int) - 1))) < 730484 then (if bt349.1 = (wrap64 (bt351.1 + 1)) then (some true) else (if (rd t326 (wrap64 ((t326.length : Int) - 1))) = 730484 then (some (bt349.1 == bt351.1)) else (some false))) else (if (rd t326 (wrap64 ((t326.length : Int) - 1))) = 730484 then (some (bt349.1 == bt351.1)) else (some false))) else (some (bt349.1 == bt351.1))) else (some false))))) else (none)) else (none)) else (none))) = some true := by rw [if_neg (show ¬ (false = true) by decide)] at H; exact H
                      clear H
                      have H := H1
                      clear H1
                      by_cases c43 : (t326.length : Int) = 0
                      · rw [if_pos c43] at H
                        have c43b0 : ((t326.length : Int) == 0) = true := beq_iff_eq.mpr c43
                        have c43b1 : ((t326.length : Int) != 0) = false := bne_eq_false_iff_eq.mpr c43
                        clear c43
                        have HT_ := Aside0.mk (Option.some.inj H)
                        go_wp2
                        go_ret
                        exact ⟨by first | rfl | (rw [HT_.out]; done) | (rw [HT_.out]; rfl) | (have e_ := HT_.out; simp only [e_]; done) | (have e_ := HT_.out; simp only [e_]; rfl) | (have e_ := HT_.out; simp at e_ ⊢; exact e_) | (have e_ := HT_.out; simp_all; done) | (simp [errW_none, errW_some] <;> rfl) | (simp only [← hji11, ← hji12, ← hji13, ← hji14, ← hji15, ← hji16, ← hji29]; first | rfl | (simp [errW_none, errW_some] <;> rfl)) | (simp [*, errW_none, errW_some] <;> rfl), by repeat (first | (with_reducible first | exact HB.out | apply below_alloc | apply pw_below_drewN | apply below_drew1) | exact HB.out)⟩
                      · rw [if_neg c43] at H
                        have c43b0 : ((t326.length : Int) == 0) = false := beq_eq_false_iff_ne.mpr c43
                        have c43b1 : ((t326.length : Int) != 0) = true := bne_iff_ne.mpr c43
                        have c43b2 : ¬ (t326 = []) := fun h_ => c43 (by rw [h_]; rfl)
                        obtain ⟨ji44, hji44⟩ : ∃ j_ : Int, (wrap64 ((t326.length : Int) - 1)) = j_ := ⟨_, rfl⟩
                        replace H : (if 0 ≤ (ji44) then (if (ji44) < (t326.length : Int) then (if (ji44) ≤ (t326.length : Int) then ((civil_Between.f 0 730484 (t326.take ((ji44) : Int).toNat)).bind fun bt349 => ((civil_Between.f 0 730484 t326).bind fun bt351 => ((civil_Works.f kj38 (rd t326 (ji44)) (t326.take ((ji44) : Int).toNat)).bind fun bt357 => (if (wrap64 ((wrap64 (bt349.2 + bt351.2)) + bt357.2)) = 0 then (if bt357.1 = true then (if (rd t326 (ji44)) < 730484 then (if bt349.1 = (wrap64 (bt351.1 + 1)) then (some true) else (if (rd t326 (ji44)) = 730484 then (some (bt349.1 == bt351.1)) else (some false))) else (if (rd t326 (ji44)) = 730484 then (some (bt349.1 == bt351.1)) else (some false))) else (some (bt349.1 == bt351.1))) else (some false))))) else (none)) else (none)) else (none)) = some true := by first | (rw [hji44] at H; exact H) | (simp only [hji44] at H ⊢; exact H)
                        have hji44w : (IntKind.i64.wrap ((t326.length : Int) - 1)) = ji44 := (i64_w _).trans hji44
                        by_cases c45 : 0 ≤ (ji44)
                        · rw [if_pos c45] at H
                          have c45b0 : decide (0 ≤ (ji44)) = true := decide_eq_true c45
                          clear c45
                          by_cases c46 : (ji44) < (t326.length : Int)
                          · rw [if_pos c46] at H
                            have c46b0 : decide ((ji44) < (t326.length : Int)) = true := decide_eq_true c46
                            clear c46
                            have c47b0 := eq_true (of_decide_eq_true (by first | (with_reducible assumption) | assumption) : 0 ≤ (ji44))
                            by_cases c48 : (ji44) ≤ (t326.length : Int)
                            · rw [if_pos c48] at H
                              have c48b0 := eq_true c48
                              have c48b1 : decide ((ji44) ≤ (t326.length : Int)) = true := decide_eq_true c48
                              clear c48
                              obtain ⟨y345, hy345⟩ : ∃ y_ : List Int, y_ = (t326.take ((ji44) : Int).toNat) := ⟨_, rfl⟩
                              replace H : ((civil_Between.f 0 730484 y345).bind fun bt349 => ((civil_Between.f 0 730484 t326).bind fun bt351 => ((civil_Works.f kj38 (rd t326 (ji44)) (t326.take ((ji44) : Int).toNat)).bind fun bt357 => (if (wrap64 ((wrap64 (bt349.2 + bt351.2)) + bt357.2)) = 0 then (if bt357.1 = true then (if (rd t326 (ji44)) < 730484 then (if bt349.1 = (wrap64 (bt351.1 + 1)) then (some true) else (if (rd t326 (ji44)) = 730484 then (some (bt349.1 == bt351.1)) else (some false))) else (if (rd t326 (ji44)) = 730484 then (some (bt349.1 == bt351.1)) else (some false))) else (some (bt349.1 == bt351.1))) else (some false))))) = some true := by first | (rw [hy345]; with_reducible exact H) | (have H2_ := (Option.bind_some _ _).symm.trans H; rw [hy345]; with_reducible exact H2_) | (have H2_ := (Option.bind_some _ _).symm.trans H; with_reducible exact H2_) | with_reducible exact H | (rw [hy345]; exact H) | exact H
                              have Ny345 := Aside0.mk hy345
                              clear hy345
                              replace H := Option.bind_eq_some_iff.mp H
                              obtain ⟨⟨t349, t350⟩, A490, H⟩ := H
                              replace H : ((civil_Between.f 0 730484 t326).bind fun bt351 => ((civil_Works.f kj38 (rd t326 (ji44)) (t326.take ((ji44) : Int).toNat)).bind fun bt357 => (if (wrap64 ((wrap64 (t350 + bt351.2)) + bt357.2)) = 0 then (if bt357.1 = true then (if (rd t326 (ji44)) < 730484 then (if t349 = (wrap64 (bt351.1 + 1)) then (some true) else (if (rd t326 (ji44)) = 730484 then (some (t349 == bt351.1)) else (some false))) else (if (rd t326 (ji44)) = 730484 then (some (t349 == bt351.1)) else (some false))) else (some (t349 == bt351.1))) else (some false)))) = some true := H
                              have A49 := Aside0.mk A490
                              clear A490
                              replace H := Option.bind_eq_some_iff.mp H
                              obtain ⟨⟨t351, t352⟩, A500, H⟩ := H
                              replace H : ((civil_Works.f kj38 (rd t326 (ji44)) (t326.take ((ji44) : Int).toNat)).bind fun bt357 => (if (wrap64 ((wrap64 (t350 + t352)) + bt357.2)) = 0 then (if bt357.1 = true then (if (rd t326 (ji44)) < 730484 then (if t349 = (wrap64 (t351 + 1)) then (some true) else (if (rd t326 (ji44)) = 730484 then (some (t349 == t351)) else (some false))) else (if (rd t326 (ji44)) = 730484 then (some (t349 == t351)) else (some false))) else (some (t349 == t351))) else (some false))) = some true := H
                              have A50 := Aside0.mk A500
                              clear A500
                              have c51b0 := eq_true (of_decide_eq_true (by first | (with_reducible assumption) | assumption) : 0 ≤ (ji44))
                              have c52b0 := eq_true (of_decide_eq_true (by first | (with_reducible assumption) | assumption) : (ji44) ≤ (t326.length : Int))
                              replace H : ((civil_Works.f kj38 (rd t326 (ji44)) y345).bind fun bt357 => (if (wrap64 ((wrap64 (t350 + t352)) + bt357.2)) = 0 then (if bt357.1 = true then (if (rd t326 (ji44)) < 730484 then (if t349 = (wrap64 (t351 + 1)) then (some true) else (if (rd t326 (ji44)) = 730484 then (some (t349 == t351)) else (some false))) else (if (rd t326 (ji44)) = 730484 then (some (t349 == t351)) else (some false))) else (some (t349 == t351))) else (some false))) = some true := by first | (rw [Ny345.out]; with_reducible exact H) | (have H2_ := (Option.bind_some _ _).symm.trans H; rw [Ny345.out]; with_reducible exact H2_) | (have H2_ := (Option.bind_some _ _).symm.trans H; with_reducible exact H2_) | with_reducible exact H | (rw [Ny345.out]; exact H) | exact H
                              replace H := Option.bind_eq_some_iff.mp H
                              obtain ⟨⟨t357, t358⟩, A530, H⟩ := H
                              replace H : (if (wrap64 ((wrap64 (t350 + t352)) + t358)) = 0 then (if t357 = true then (if (rd t326 (ji44)) < 730484 then (if t349 = (wrap64 (t351 + 1)) then (some true) else (if (rd t326 (ji44)) = 730484 then (some (t349 == t351)) else (some false))) else (if (rd t326 (ji44)) = 730484 then (some (t349 == t351)) else (some false))) else (some (t349 == t351))) else (some false)) = some true := H
                              have A53 := Aside0.mk A530
                              clear A530
                              by_cases c54 : (wrap64 ((wrap64 (t350 + t352)) + t358)) = 0
                              · rw [if_pos c54] at H
                                have c54b0 : ((wrap64 ((wrap64 (t350 + t352)) + t358)) == 0) = true := beq_iff_eq.mpr c54
                                have c54b1 : ((wrap64 ((wrap64 (t350 + t352)) + t358)) != 0) = false := bne_eq_false_iff_eq.mpr c54
                                clear c54
                                by_cases c55 : t357 = true
                                · subst c55
                                  have H1 : (if (rd t326 (ji44)) < 730484 then (if t349 = (wrap64 (t351 + 1)) then (some true) else (if (rd t326 (ji44)) = 730484 then (some (t349 == t351)) else (some false))) else (if (rd t326 (ji44)) = 730484 then (some (t349 == t351)) else (some false))) = some true := by rw [if_pos rfl] at H; exact H
                                  clear H
                                  have H := H1
                                  clear H1
                                  by_cases c56 : (rd t326 (ji44)) < 730484
                                  · rw [if_pos c56] at H
                                    have c56b0 : decide ((rd t326 (ji44)) < 730484) = true := decide_eq_true c56
                                    clear c56
                                    by_cases c57 : t349 = (wrap64 (t351 + 1))
                                    · rw [if_pos c57] at H
                                      have c57b0 : (t349 == (wrap64 (t351 + 1))) = true := beq_iff_eq.mpr c57
                                      have c57b1 : (t349 != (wrap64 (t351 + 1))) = false := bne_eq_false_iff_eq.mpr c57
                                      clear c57
                                      have HT_ := Aside0.mk (Option.some.inj H)
                                      have p344 : 0 ≤ ((ji44) : Int) := of_decide_eq_true (by first | (with_reducible assumption) | assumption)
                                      have q344 : (ji44) < (t326.length : Int) := of_decide_eq_true (by first | (with_reducible assumption) | assumption)
                                      obtain ⟨ad344, e344, hx344_0⟩ := Kd.at_int (Kd.R_reads' HO_9.out).2.2 (ji44) p344 q344
                                      cases e344
                                      replace p344 := eq_true p344
                                      replace q344 := eq_true q344
                                      have q58 : ((ji44) : Int) ≤ ((t326.length : Int) : Int) := of_decide_eq_true (by first | (with_reducible assumption) | assumption)
                                      obtain ⟨i058, hi058, _, hsz58, _⟩ := info_parts info3
                                      have hroom58 : t326.length ≤ co23 := (Kd.R_reads' HO_9.out).2.1
                                      have hC58 : Kd.C (Kd.int .i64) _ (some ad344) t326.length t326 := (Kd.R_reads' HO_9.out).2.2
                                      have hcut58 := cut_to (P := Tryd.prog) 22 3 .i64 Tryd.underlying22 hi058 (some ad344) t326.length co23 (ji44) (of_decide_eq_true (by first | (with_reducible assumption) | assumption)) q58 hroom58
                                      have hr58 := Kd.C_take (m := ((ji44) : Int).toNat) hC58 (by omega)
                                      have hy58 : y345.length = ((ji44) : Int).toNat := (by rw [Ny345.out, List.length_take]; omega)
                                      rw [← Ny345.out] at hr58
                                      rw [← hy58] at hcut58
                                      have HR348 := Aside0.mk hr58
                                      have HC348 := Aside0.mk (show y345.length ≤ co23 from by omega)
                                      clear hr58 hC58 hroom58 hi058 hsz58
                                      have KY58 := Aside0.mk hy58
                                      clear hy58
                                      have KL58 := Aside0.mk (show ((ji44) : Int).toNat ≤ t326.length from by omega)
                                      replace q58 := eq_true q58
                                      go_wp2_with (first | ((with_reducible refine gate_callee (f := 28) rfl ?_); refine goesL_ (some 167) rfl rfl Tryd.func28 (by kernel_rfl) rfl #[.int .i64 0, .int .i64 730484, .slice (some ad344) y345.length co23] rfl (by (try simp only [List.map_toArray, List.map_cons, List.map_nil]); first | done | rfl | (simp only [List.length_drop, List.length_take]; rfl)) ?_; (with_reducible refine (civil_Between.calls 0 730484 _ _ y345 t349 t350 _ ?side1 ?side2 A49.out).mono ?_); (case side1 => repeat (first | exact (by repeat (first | (with_reducible exact HR348.out) | (with_reducible refine Kd.C_alloc ?_ _) | (with_reducible refine Kd.C_drewN ?_ _) | (with_reducible refine Kd.C_drew ?_) | exact HR348.out)) | (with_reducible refine Kd.C_alloc ?_ _) | (with_reducible refine Kd.C_drewN ?_ _) | (with_reducible refine Kd.C_drew ?_))); (case side2 => exact HC348.out); rintro e w59 ⟨rfl, hb⟩; refine ⟨_, rfl, ?_⟩; have n0_ := Aside0.mk (Kd.R_below (by (with_reducible repeat (first | apply Kd.R_alloc | apply Kd.R_drewN | apply Kd.R_drew)); exact HO_9.out) hb); have n1_ := Aside0.mk (Kd.C_below (by repeat (first | (with_reducible exact HR348.out) | (with_reducible refine Kd.C_alloc ?_ _) | (with_reducible refine Kd.C_drewN ?_ _) | (with_reducible refine Kd.C_drew ?_) | exact HR348.out)) hb); have n2_ := Aside0.mk (below_step (by repeat (first | (with_reducible first | exact HB.out | apply below_alloc | apply pw_below_drewN | apply below_drew1) | exact HB.out)) hb); clear HO_9; clear HR348; clear HB; have HO_9 := n0_; have HR348 := n1_; have HB := n2_; clear n0_ n1_ n2_; (try clear hb); (try clear hb2); (try clear hk); (try clear hi)) | ((with_reducible refine gate_callee (f := 28) rfl ?_); refine goesL_ (some 172) rfl rfl Tryd.func28 (by kernel_rfl) rfl #[.int .i64 0, .int .i64 730484, .slice (some ad344) t326.length co23] rfl (by (try simp only [List.map_toArray, List.map_cons, List.map_nil]); first | done | rfl | (simp only [List.length_drop, List.length_take]; rfl)) ?_; (with_reducible refine (civil_Between.calls 0 730484 _ _ t326 t351 t352 _ ?side1 ?side2 A50.out).mono ?_); (case side1 => repeat (first | exact (Kd.R_reads' HO_9.out).2.2 | (with_reducible refine Kd.C_alloc ?_ _) | (with_reducible refine Kd.C_drewN ?_ _) | (with_reducible refine Kd.C_drew ?_))); (case side2 => exact (Kd.R_reads' HO_9.out).2.1); rintro e w60 ⟨rfl, hb⟩; refine ⟨_, rfl, ?_⟩; have n0_ := Aside0.mk (Kd.R_below (by (with_reducible repeat (first | apply Kd.R_alloc | apply Kd.R_drewN | apply Kd.R_drew)); exact HO_9.out) hb); have n1_ := Aside0.mk (Kd.C_below (by repeat (first | (with_reducible exact HR348.out) | (with_reducible refine Kd.C_alloc ?_ _) | (with_reducible refine Kd.C_drewN ?_ _) | (with_reducible refine Kd.C_drew ?_) | exact HR348.out)) hb); have n2_ := Aside0.mk (below_step (by repeat (first | (with_reducible first | exact HB.out | apply below_alloc | apply pw_below_drewN | apply below_drew1) | exact HB.out)) hb); clear HO_9; clear HR348; clear HB; have HO_9 := n0_; have HR348 := n1_; have HB := n2_; clear n0_ n1_ n2_; (try clear hb); (try clear hb2); (try clear hk); (try clear hi); have q61 : ((ji44) : Int) ≤ ((t326.length : Int) : Int) := of_decide_eq_true (by first | (with_reducible assumption) | assumption); obtain ⟨i061, hi061, _, hsz61, _⟩ := info_parts info3; have hroom61 : t326.length ≤ co23 := (Kd.R_reads' HO_9.out).2.1; have hC61 : Kd.C (Kd.int .i64) _ (some ad344) t326.length t326 := (Kd.R_reads' HO_9.out).2.2; have hcut61 := cut_to (P := Tryd.prog) 22 3 .i64 Tryd.underlying22 hi061 (some ad344) t326.length co23 (ji44) (of_decide_eq_true (by first | (with_reducible assumption) | assumption)) q61 hroom61; have hr61 := Kd.C_take (m := ((ji44) : Int).toNat) hC61 (by omega); have hy61 : y345.length = ((ji44) : Int).toNat := (by rw [Ny345.out, List.length_take]; omega); rw [← Ny345.out] at hr61; rw [← hy61] at hcut61; have HR356 := Aside0.mk hr61; have HC356 := Aside0.mk (show y345.length ≤ co23 from by omega); clear hr61 hC61 hroom61 hi061 hsz61; have KY61 := Aside0.mk hy61; clear hy61; have KL61 := Aside0.mk (show ((ji44) : Int).toNat ≤ t326.length from by omega); replace q61 := eq_true q61) | ((with_reducible refine gate_callee (f := 25) rfl ?_); refine goesL_ (some 182) rfl rfl Tryd.func25 (by kernel_rfl) rfl #[.int .i64 (rd t326 (ji44)), .slice (some ad344) y345.length co23] rfl (by (try simp only [List.map_toArray, List.map_cons, List.map_nil]); first | done | (simp only [hji44]; rfl) | rfl | (simp only [List.length_drop, List.length_take]; rfl)) ?_; (with_reducible refine (civil_Works.calls kj38 (rd t326 (ji44)) _ _ y345 true t358 _ ?side1 ?side2 A53.out).mono ?_); (case side1 => repeat (first | exact (by repeat (first | (with_reducible exact HR356.out) | (with_reducible refine Kd.C_alloc ?_ _) | (with_reducible refine Kd.C_drewN ?_ _) | (with_reducible refine Kd.C_drew ?_) | exact HR356.out)) | (with_reducible refine Kd.C_alloc ?_ _) | (with_reducible refine Kd.C_drewN ?_ _) | (with_reducible refine Kd.C_drew ?_))); (case side2 => exact HC356.out); rintro e w' ⟨rfl, ⟨nd, rfl⟩⟩; refine ⟨_, rfl, ?_⟩))
                                      go_ret
                                      exact ⟨by first | rfl | (rw [HT_.out]; done) | (rw [HT_.out]; rfl) | (have e_ := HT_.out; simp only [e_]; done) | (have e_ := HT_.out; simp only [e_]; rfl) | (have e_ := HT_.out; simp at e_ ⊢; exact e_) | (have e_ := HT_.out; simp_all; done) | (simp [errW_none, errW_some] <;> rfl) | (simp only [← hji11, ← hji12, ← hji13, ← hji14, ← hji15, ← hji16, ← hji29, ← hji44]; first | rfl | (simp [errW_none, errW_some] <;> rfl)) | (simp [*, errW_none, errW_some] <;> rfl), by repeat (first | (with_reducible first | exact HB.out | apply below_alloc | apply pw_below_drewN | apply below_drew1) | exact HB.out)⟩
                                    · rw [if_neg c57] at H
                                      have c57b0 : (t349 == (wrap64 (t351 + 1))) = false := beq_eq_false_iff_ne.mpr c57
                                      have c57b1 : (t349 != (wrap64 (t351 + 1))) = true := bne_iff_ne.mpr c57
                                      by_cases c62 : (rd t326 (ji44)) = 730484
                                      · rw [if_pos c62] at H
                                        have c62b0 : ((rd t326 (ji44)) == 730484) = true := beq_iff_eq.mpr c62
                                        have c62b1 : ((rd t326 (ji44)) != 730484) = false := bne_eq_false_iff_eq.mpr c62
                                        clear c62
                                        have HT_ := Aside0.mk (Option.some.inj H)
                                        have p344 : 0 ≤ ((ji44) : Int) := of_decide_eq_true (by first | (with_reducible assumption) | assumption)
                                        have q344 : (ji44) < (t326.length : Int) := of_decide_eq_true (by first | (with_reducible assumption) | assumption)
                                        obtain ⟨ad344, e344, hx344_0⟩ := Kd.at_int (Kd.R_reads' HO_9.out).2.2 (ji44) p344 q344
                                        cases e344
                                        replace p344 := eq_true p344
                                        replace q344 := eq_true q344
                                        have q63 : ((ji44) : Int) ≤ ((t326.length : Int) : Int) := of_decide_eq_true (by first | (with_reducible assumption) | assumption)
                                        obtain ⟨i063, hi063, _, hsz63, _⟩ := info_parts info3
                                        have hroom63 : t326.length ≤ co23 := (Kd.R_reads' HO_9.out).2.1
                                        have hC63 : Kd.C (Kd.int .i64) _ (some ad344) t326.length t326 := (Kd.R_reads' HO_9.out).2.2
                                        have hcut63 := cut_to (P := Tryd.prog) 22 3 .i64 Tryd.underlying22 hi063 (some ad344) t326.length co23 (ji44) (of_decide_eq_true (by first | (with_reducible assumption) | assumption)) q63 hroom63
                                        have hr63 := Kd.C_take (m := ((ji44) : Int).toNat) hC63 (by omega)
                                        have hy63 : y345.length = ((ji44) : Int).toNat := (by rw [Ny345.out, List.length_take]; omega)
                                        rw [← Ny345.out] at hr63
                                        rw [← hy63] at hcut63
                                        have HR348 := Aside0.mk hr63
                                        have HC348 := Aside0.mk (show y345.length ≤ co23 from by omega)
                                        clear hr63 hC63 hroom63 hi063 hsz63
                                        have KY63 := Aside0.mk hy63
                                        clear hy63
                                        have KL63 := Aside0.mk (show ((ji44) : Int).toNat ≤ t326.length from by omega)
                                        replace q63 := eq_true q63
                                        go_wp2_with (first | ((with_reducible refine gate_callee (f := 28) rfl ?_); refine goesL_ (some 167) rfl rfl Tryd.func28 (by kernel_rfl) rfl #[.int .i64 0, .int .i64 730484, .slice (some ad344) y345.length co23] rfl (by (try simp only [List.map_toArray, List.map_cons, List.map_nil]); first | done | rfl | (simp only [List.length_drop, List.length_take]; rfl)) ?_; (with_reducible refine (civil_Between.calls 0 730484 _ _ y345 t349 t350 _ ?side1 ?side2 A49.out).mono ?_); (case side1 => repeat (first | exact (by repeat (first | (with_reducible exact HR348.out) | (with_reducible refine Kd.C_alloc ?_ _) | (with_reducible refine Kd.C_drewN ?_ _) | (with_reducible refine Kd.C_drew ?_) | exact HR348.out)) | (with_reducible refine Kd.C_alloc ?_ _) | (with_reducible refine Kd.C_drewN ?_ _) | (with_reducible refine Kd.C_drew ?_))); (case side2 => exact HC348.out); rintro e w64 ⟨rfl, hb⟩; refine ⟨_, rfl, ?_⟩; have n0_ := Aside0.mk (Kd.R_below (by (with_reducible repeat (first | apply Kd.R_alloc | apply Kd.R_drewN | apply Kd.R_drew)); exact HO_9.out) hb); have n1_ := Aside0.mk (Kd.C_below (by repeat (first | (with_reducible exact HR348.out) | (with_reducible refine Kd.C_alloc ?_ _) | (with_reducible refine Kd.C_drewN ?_ _) | (with_reducible refine Kd.C_drew ?_) | exact HR348.out)) hb); have n2_ := Aside0.mk (below_step (by repeat (first | (with_reducible first | exact HB.out | apply below_alloc | apply pw_below_drewN | apply below_drew1) | exact HB.out)) hb); clear HO_9; clear HR348; clear HB; have HO_9 := n0_; have HR348 := n1_; have HB := n2_; clear n0_ n1_ n2_; (try clear hb); (try clear hb2); (try clear hk); (try clear hi)) | ((with_reducible refine gate_callee (f := 28) rfl ?_); refine goesL_ (some 172) rfl rfl Tryd.func28 (by kernel_rfl) rfl #[.int .i64 0, .int .i64 730484, .slice (some ad344) t326.length co23] rfl (by (try simp only [List.map_toArray, List.map_cons, List.map_nil]); first | done | rfl | (simp only [List.length_drop, List.length_take]; rfl)) ?_; (with_reducible refine (civil_Between.calls 0 730484 _ _ t326 t351 t352 _ ?side1 ?side2 A50.out).mono ?_); (case side1 => repeat (first | exact (Kd.R_reads' HO_9.out).2.2 | (with_reducible refine Kd.C_alloc ?_ _) | (with_reducible refine Kd.C_drewN ?_ _) | (with_reducible refine Kd.C_drew ?_))); (case side2 => exact (Kd.R_reads' HO_9.out).2.1); rintro e w65 ⟨rfl, hb⟩; refine ⟨_, rfl, ?_⟩; have n0_ := Aside0.mk (Kd.R_below (by (with_reducible repeat (first | apply Kd.R_alloc | apply Kd.R_drewN | apply Kd.R_drew)); exact HO_9.out) hb); have n1_ := Aside0.mk (Kd.C_below (by repeat (first | (with_reducible exact HR348.out) | (with_reducible refine Kd.C_alloc ?_ _) | (with_reducible refine Kd.C_drewN ?_ _) | (with_reducible refine Kd.C_drew ?_) | exact HR348.out)) hb); have n2_ := Aside0.mk (below_step (by repeat (first | (with_reducible first | exact HB.out | apply below_alloc | apply pw_below_drewN | apply below_drew1) | exact HB.out)) hb); clear HO_9; clear HR348; clear HB; have HO_9 := n0_; have HR348 := n1_; have HB := n2_; clear n0_ n1_ n2_; (try clear hb); (try clear hb2); (try clear hk); (try clear hi); have q66 : ((ji44) : Int) ≤ ((t326.length : Int) : Int) := of_decide_eq_true (by first | (with_reducible assumption) | assumption); obtain ⟨i066, hi066, _, hsz66, _⟩ := info_parts info3; have hroom66 : t326.length ≤ co23 := (Kd.R_reads' HO_9.out).2.1; have hC66 : Kd.C (Kd.int .i64) _ (some ad344) t326.length t326 := (Kd.R_reads' HO_9.out).2.2; have hcut66 := cut_to (P := Tryd.prog) 22 3 .i64 Tryd.underlying22 hi066 (some ad344) t326.length co23 (ji44) (of_decide_eq_true (by first | (with_reducible assumption) | assumption)) q66 hroom66; have hr66 := Kd.C_take (m := ((ji44) : Int).toNat) hC66 (by omega); have hy66 : y345.length = ((ji44) : Int).toNat := (by rw [Ny345.out, List.length_take]; omega); rw [← Ny345.out] at hr66; rw [← hy66] at hcut66; have HR356 := Aside0.mk hr66; have HC356 := Aside0.mk (show y345.length ≤ co23 from by omega); clear hr66 hC66 hroom66 hi066 hsz66; have KY66 := Aside0.mk hy66; clear hy66; have KL66 := Aside0.mk (show ((ji44) : Int).toNat ≤ t326.length from by omega); replace q66 := eq_true q66) | ((with_reducible refine gate_callee (f := 25) rfl ?_); refine goesL_ (some 182) rfl rfl Tryd.func25 (by kernel_rfl) rfl #[.int .i64 (rd t326 (ji44)), .slice (some ad344) y345.length co23] rfl (by (try simp only [List.map_toArray, List.map_cons, List.map_nil]); first | done | (simp only [hji44]; rfl) | rfl | (simp only [List.length_drop, List.length_take]; rfl)) ?_; (with_reducible refine (civil_Works.calls kj38 (rd t326 (ji44)) _ _ y345 true t358 _ ?side1 ?side2 A53.out).mono ?_); (case side1 => repeat (first | exact (by repeat (first | (with_reducible exact HR356.out) | (with_reducible refine Kd.C_alloc ?_ _) | (with_reducible refine Kd.C_drewN ?_ _) | (with_reducible refine Kd.C_drew ?_) | exact HR356.out)) | (with_reducible refine Kd.C_alloc ?_ _) | (with_reducible refine Kd.C_drewN ?_ _) | (with_reducible refine Kd.C_drew ?_))); (case side2 => exact HC356.out); rintro e w' ⟨rfl, ⟨nd, rfl⟩⟩; refine ⟨_, rfl, ?_⟩))
                                        go_ret
                                        exact ⟨by first | rfl | (rw [HT_.out]; done) | (rw [HT_.out]; rfl) | (have e_ := HT_.out; simp only [e_]; done) | (have e_ := HT_.out; simp only [e_]; rfl) | (have e_ := HT_.out; simp at e_ ⊢; exact e_) | (have e_ := HT_.out; simp_all; done) | (simp [errW_none, errW_some] <;> rfl) | (simp only [← hji11, ← hji12, ← hji13, ← hji14, ← hji15, ← hji16, ← hji29, ← hji44]; first | rfl | (simp [errW_none, errW_some] <;> rfl)) | (simp [*, errW_none, errW_some] <;> rfl), by repeat (first | (with_reducible first | exact HB.out | apply below_alloc | apply pw_below_drewN | apply below_drew1) | exact HB.out)⟩
                                      · rw [if_neg c62] at H
                                        have c62b0 : ((rd t326 (ji44)) == 730484) = false := beq_eq_false_iff_ne.mpr c62
                                        have c62b1 : ((rd t326 (ji44)) != 730484) = true := bne_iff_ne.mpr c62
                                        exact absurd H (by simp)
                                  · rw [if_neg c56] at H
                                    have c56b0 : decide ((rd t326 (ji44)) < 730484) = false := decide_eq_false c56
                                    clear c56
                                    by_cases c67 : (rd t326 (ji44)) = 730484
                                    · rw [if_pos c67] at H
                                      have c67b0 : ((rd t326 (ji44)) == 730484) = true := beq_iff_eq.mpr c67
                                      have c67b1 : ((rd t326 (ji44)) != 730484) = false := bne_eq_false_iff_eq.mpr c67
                                      clear c67
                                      have HT_ := Aside0.mk (Option.some.inj H)
                                      have p344 : 0 ≤ ((ji44) : Int) := of_decide_eq_true (by first | (with_reducible assumption) | assumption)
                                      have q344 : (ji44) < (t326.length : Int) := of_decide_eq_true (by first | (with_reducible assumption) | assumption)
                                      obtain ⟨ad344, e344, hx344_0⟩ := Kd.at_int (Kd.R_reads' HO_9.out).2.2 (ji44) p344 q344
                                      cases e344
                                      replace p344 := eq_true p344
                                      replace q344 := eq_true q344
                                      have q68 : ((ji44) : Int) ≤ ((t326.length : Int) : Int) := of_decide_eq_true (by first | (with_reducible assumption) | assumption)
                                      obtain ⟨i068, hi068, _, hsz68, _⟩ := info_parts info3
                                      have hroom68 : t326.length ≤ co23 := (Kd.R_reads' HO_9.out).2.1
                                      have hC68 : Kd.C (Kd.int .i64) _ (some ad344) t326.length t326 := (Kd.R_reads' HO_9.out).2.2
                                      have hcut68 := cut_to (P := Tryd.prog) 22 3 .i64 Tryd.underlying22 hi068 (some ad344) t326.length co23 (ji44) (of_decide_eq_true (by first | (with_reducible assumption) | assumption)) q68 hroom68
                                      have hr68 := Kd.C_take (m := ((ji44) : Int).toNat) hC68 (by omega)
                                      have hy68 : y345.length = ((ji44) : Int).toNat := (by rw [Ny345.out, List.length_take]; omega)
                                      rw [← Ny345.out] at hr68
                                      rw [← hy68] at hcut68
                                      have HR348 := Aside0.mk hr68
                                      have HC348 := Aside0.mk (show y345.length ≤ co23 from by omega)
                                      clear hr68 hC68 hroom68 hi068 hsz68
                                      have KY68 := Aside0.mk hy68
                                      clear hy68
                                      have KL68 := Aside0.mk (show ((ji44) : Int).toNat ≤ t326.length from by omega)
                                      replace q68 := eq_true q68
                                      go_wp2_with (first | ((with_reducible refine gate_callee (f := 28) rfl ?_); refine goesL_ (some 167) rfl rfl Tryd.func28 (by kernel_rfl) rfl #[.int .i64 0, .int .i64 730484, .slice (some ad344) y345.length co23] rfl (by (try simp only [List.map_toArray, List.map_cons, List.map_nil]); first | done | rfl | (simp only [List.length_drop, List.length_take]; rfl)) ?_; (with_reducible refine (civil_Between.calls 0 730484 _ _ y345 t349 t350 _ ?side1 ?side2 A49.out).mono ?_); (case side1 => repeat (first | exact (by repeat (first | (with_reducible exact HR348.out) | (with_reducible refine Kd.C_alloc ?_ _) | (with_reducible refine Kd.C_drewN ?_ _) | (with_reducible refine Kd.C_drew ?_) | exact HR348.out)) | (with_reducible refine Kd.C_alloc ?_ _) | (with_reducible refine Kd.C_drewN ?_ _) | (with_reducible refine Kd.C_drew ?_))); (case side2 => exact HC348.out); rintro e w69 ⟨rfl, hb⟩; refine ⟨_, rfl, ?_⟩; have n0_ := Aside0.mk (Kd.R_below (by (with_reducible repeat (first | apply Kd.R_alloc | apply Kd.R_drewN | apply Kd.R_drew)); exact HO_9.out) hb); have n1_ := Aside0.mk (Kd.C_below (by repeat (first | (with_reducible exact HR348.out) | (with_reducible refine Kd.C_alloc ?_ _) | (with_reducible refine Kd.C_drewN ?_ _) | (with_reducible refine Kd.C_drew ?_) | exact HR348.out)) hb); have n2_ := Aside0.mk (below_step (by repeat (first | (with_reducible first | exact HB.out | apply below_alloc | apply pw_below_drewN | apply below_drew1) | exact HB.out)) hb); clear HO_9; clear HR348; clear HB; have HO_9 := n0_; have HR348 := n1_; have HB := n2_; clear n0_ n1_ n2_; (try clear hb); (try clear hb2); (try clear hk); (try clear hi)) | ((with_reducible refine gate_callee (f := 28) rfl ?_); refine goesL_ (some 172) rfl rfl Tryd.func28 (by kernel_rfl) rfl #[.int .i64 0, .int .i64 730484, .slice (some ad344) t326.length co23] rfl (by (try simp only [List.map_toArray, List.map_cons, List.map_nil]); first | done | rfl | (simp only [List.length_drop, List.length_take]; rfl)) ?_; (with_reducible refine (civil_Between.calls 0 730484 _ _ t326 t351 t352 _ ?side1 ?side2 A50.out).mono ?_); (case side1 => repeat (first | exact (Kd.R_reads' HO_9.out).2.2 | (with_reducible refine Kd.C_alloc ?_ _) | (with_reducible refine Kd.C_drewN ?_ _) | (with_reducible refine Kd.C_drew ?_))); (case side2 => exact (Kd.R_reads' HO_9.out).2.1); rintro e w70 ⟨rfl, hb⟩; refine ⟨_, rfl, ?_⟩; have n0_ := Aside0.mk (Kd.R_below (by (with_reducible repeat (first | apply Kd.R_alloc | apply Kd.R_drewN | apply Kd.R_drew)); exact HO_9.out) hb); have n1_ := Aside0.mk (Kd.C_below (by repeat (first | (with_reducible exact HR348.out) | (with_reducible refine Kd.C_alloc ?_ _) | (with_reducible refine Kd.C_drewN ?_ _) | (with_reducible refine Kd.C_drew ?_) | exact HR348.out)) hb); have n2_ := Aside0.mk (below_step (by repeat (first | (with_reducible first | exact HB.out | apply below_alloc | apply pw_below_drewN | apply below_drew1) | exact HB.out)) hb); clear HO_9; clear HR348; clear HB; have HO_9 := n0_; have HR348 := n1_; have HB := n2_; clear n0_ n1_ n2_; (try clear hb); (try clear hb2); (try clear hk); (try clear hi); have q71 : ((ji44) : Int) ≤ ((t326.length : Int) : Int) := of_decide_eq_true (by first | (with_reducible assumption) | assumption); obtain ⟨i071, hi071, _, hsz71, _⟩ := info_parts info3; have hroom71 : t326.length ≤ co23 := (Kd.R_reads' HO_9.out).2.1; have hC71 : Kd.C (Kd.int .i64) _ (some ad344) t326.length t326 := (Kd.R_reads' HO_9.out).2.2; have hcut71 := cut_to (P := Tryd.prog) 22 3 .i64 Tryd.underlying22 hi071 (some ad344) t326.length co23 (ji44) (of_decide_eq_true (by first | (with_reducible assumption) | assumption)) q71 hroom71; have hr71 := Kd.C_take (m := ((ji44) : Int).toNat) hC71 (by omega); have hy71 : y345.length = ((ji44) : Int).toNat := (by rw [Ny345.out, List.length_take]; omega); rw [← Ny345.out] at hr71; rw [← hy71] at hcut71; have HR356 := Aside0.mk hr71; have HC356 := Aside0.mk (show y345.length ≤ co23 from by omega); clear hr71 hC71 hroom71 hi071 hsz71; have KY71 := Aside0.mk hy71; clear hy71; have KL71 := Aside0.mk (show ((ji44) : Int).toNat ≤ t326.length from by omega); replace q71 := eq_true q71) | ((with_reducible refine gate_callee (f := 25) rfl ?_); refine goesL_ (some 182) rfl rfl Tryd.func25 (by kernel_rfl) rfl #[.int .i64 (rd t326 (ji44)), .slice (some ad344) y345.length co23] rfl (by (try simp only [List.map_toArray, List.map_cons, List.map_nil]); first | done | (simp only [hji44]; rfl) | rfl | (simp only [List.length_drop, List.length_take]; rfl)) ?_; (with_reducible refine (civil_Works.calls kj38 (rd t326 (ji44)) _ _ y345 true t358 _ ?side1 ?side2 A53.out).mono ?_); (case side1 => repeat (first | exact (by repeat (first | (with_reducible exact HR356.out) | (with_reducible refine Kd.C_alloc ?_ _) | (with_reducible refine Kd.C_drewN ?_ _) | (with_reducible refine Kd.C_drew ?_) | exact HR356.out)) | (with_reducible refine Kd.C_alloc ?_ _) | (with_reducible refine Kd.C_drewN ?_ _) | (with_reducible refine Kd.C_drew ?_))); (case side2 => exact HC356.out); rintro e w' ⟨rfl, ⟨nd, rfl⟩⟩; refine ⟨_, rfl, ?_⟩))
                                      go_ret
                                      exact ⟨by first | rfl | (rw [HT_.out]; done) | (rw [HT_.out]; rfl) | (have e_ := HT_.out; simp only [e_]; done) | (have e_ := HT_.out; simp only [e_]; rfl) | (have e_ := HT_.out; simp at e_ ⊢; exact e_) | (have e_ := HT_.out; simp_all; done) | (simp [errW_none, errW_some] <;> rfl) | (simp only [← hji11, ← hji12, ← hji13, ← hji14, ← hji15, ← hji16, ← hji29, ← hji44]; first | rfl | (simp [errW_none, errW_some] <;> rfl)) | (simp [*, errW_none, errW_some] <;> rfl), by repeat (first | (with_reducible first | exact HB.out | apply below_alloc | apply pw_below_drewN | apply below_drew1) | exact HB.out)⟩
                                    · rw [if_neg c67] at H
                                      have c67b0 : ((rd t326 (ji44)) == 730484) = false := beq_eq_false_iff_ne.mpr c67
                                      have c67b1 : ((rd t326 (ji44)) != 730484) = true := bne_iff_ne.mpr c67
                                      exact absurd H (by simp)
                                · replace c55 := Bool.eq_false_iff.mpr c55
                                  subst c55
                                  have H1 : (some (t349 == t351)) = some true := by rw [if_neg (show ¬ (false = true) by decide)] at H; exact H
                                  clear H
                                  have H := H1
                                  clear H1
                                  have HT_ := Aside0.mk (Option.some.inj H)
                                  have p344 : 0 ≤ ((ji44) : Int) := of_decide_eq_true (by first | (with_reducible assumption) | assumption)
                                  have q344 : (ji44) < (t326.length : Int) := of_decide_eq_true (by first | (with_reducible assumption) | assumption)
                                  obtain ⟨ad344, e344, hx344_0⟩ := Kd.at_int (Kd.R_reads' HO_9.out).2.2 (ji44) p344 q344
                                  cases e344
                                  replace p344 := eq_true p344
                                  replace q344 := eq_true q344
                                  have q72 : ((ji44) : Int) ≤ ((t326.length : Int) : Int) := of_decide_eq_true (by first | (with_reducible assumption) | assumption)
                                  obtain ⟨i072, hi072, _, hsz72, _⟩ := info_parts info3
                                  have hroom72 : t326.length ≤ co23 := (Kd.R_reads' HO_9.out).2.1
                                  have hC72 : Kd.C (Kd.int .i64) _ (some ad344) t326.length t326 := (Kd.R_reads' HO_9.out).2.2
                                  have hcut72 := cut_to (P := Tryd.prog) 22 3 .i64 Tryd.underlying22 hi072 (some ad344) t326.length co23 (ji44) (of_decide_eq_true (by first | (with_reducible assumption) | assumption)) q72 hroom72
                                  have hr72 := Kd.C_take (m := ((ji44) : Int).toNat) hC72 (by omega)
                                  have hy72 : y345.length = ((ji44) : Int).toNat := (by rw [Ny345.out, List.length_take]; omega)
                                  rw [← Ny345.out] at hr72
                                  rw [← hy72] at hcut72
                                  have HR348 := Aside0.mk hr72
                                  have HC348 := Aside0.mk (show y345.length ≤ co23 from by omega)
                                  clear hr72 hC72 hroom72 hi072 hsz72
                                  have KY72 := Aside0.mk hy72
                                  clear hy72
                                  have KL72 := Aside0.mk (show ((ji44) : Int).toNat ≤ t326.length from by omega)
                                  replace q72 := eq_true q72
                                  go_wp2_with (first | ((with_reducible refine gate_callee (f := 28) rfl ?_); refine goesL_ (some 167) rfl rfl Tryd.func28 (by kernel_rfl) rfl #[.int .i64 0, .int .i64 730484, .slice (some ad344) y345.length co23] rfl (by (try simp only [List.map_toArray, List.map_cons, List.map_nil]); first | done | rfl | (simp only [List.length_drop, List.length_take]; rfl)) ?_; (with_reducible refine (civil_Between.calls 0 730484 _ _ y345 t349 t350 _ ?side1 ?side2 A49.out).mono ?_); (case side1 => repeat (first | exact (by repeat (first | (with_reducible exact HR348.out) | (with_reducible refine Kd.C_alloc ?_ _) | (with_reducible refine Kd.C_drewN ?_ _) | (with_reducible refine Kd.C_drew ?_) | exact HR348.out)) | (with_reducible refine Kd.C_alloc ?_ _) | (with_reducible refine Kd.C_drewN ?_ _) | (with_reducible refine Kd.C_drew ?_))); (case side2 => exact HC348.out); rintro e w73 ⟨rfl, hb⟩; refine ⟨_, rfl, ?_⟩; have n0_ := Aside0.mk (Kd.R_below (by (with_reducible repeat (first | apply Kd.R_alloc | apply Kd.R_drewN | apply Kd.R_drew)); exact HO_9.out) hb); have n1_ := Aside0.mk (Kd.C_below (by repeat (first | (with_reducible exact HR348.out) | (with_reducible refine Kd.C_alloc ?_ _) | (with_reducible refine Kd.C_drewN ?_ _) | (with_reducible refine Kd.C_drew ?_) | exact HR348.out)) hb); have n2_ := Aside0.mk (below_step (by repeat (first | (with_reducible first | exact HB.out | apply below_alloc | apply pw_below_drewN | apply below_drew1) | exact HB.out)) hb); clear HO_9; clear HR348; clear HB; have HO_9 := n0_; have HR348 := n1_; have HB := n2_; clear n0_ n1_ n2_; (try clear hb); (try clear hb2); (try clear hk); (try clear hi)) | ((with_reducible refine gate_callee (f := 28) rfl ?_); refine goesL_ (some 172) rfl rfl Tryd.func28 (by kernel_rfl) rfl #[.int .i64 0, .int .i64 730484, .slice (some ad344) t326.length co23] rfl (by (try simp only [List.map_toArray, List.map_cons, List.map_nil]); first | done | rfl | (simp only [List.length_drop, List.length_take]; rfl)) ?_; (with_reducible refine (civil_Between.calls 0 730484 _ _ t326 t351 t352 _ ?side1 ?side2 A50.out).mono ?_); (case side1 => repeat (first | exact (Kd.R_reads' HO_9.out).2.2 | (with_reducible refine Kd.C_alloc ?_ _) | (with_reducible refine Kd.C_drewN ?_ _) | (with_reducible refine Kd.C_drew ?_))); (case side2 => exact (Kd.R_reads' HO_9.out).2.1); rintro e w74 ⟨rfl, hb⟩; refine ⟨_, rfl, ?_⟩; have n0_ := Aside0.mk (Kd.R_below (by (with_reducible repeat (first | apply Kd.R_alloc | apply Kd.R_drewN | apply Kd.R_drew)); exact HO_9.out) hb); have n1_ := Aside0.mk (Kd.C_below (by repeat (first | (with_reducible exact HR348.out) | (with_reducible refine Kd.C_alloc ?_ _) | (with_reducible refine Kd.C_drewN ?_ _) | (with_reducible refine Kd.C_drew ?_) | exact HR348.out)) hb); have n2_ := Aside0.mk (below_step (by repeat (first | (with_reducible first | exact HB.out | apply below_alloc | apply pw_below_drewN | apply below_drew1) | exact HB.out)) hb); clear HO_9; clear HR348; clear HB; have HO_9 := n0_; have HR348 := n1_; have HB := n2_; clear n0_ n1_ n2_; (try clear hb); (try clear hb2); (try clear hk); (try clear hi); have q75 : ((ji44) : Int) ≤ ((t326.length : Int) : Int) := of_decide_eq_true (by first | (with_reducible assumption) | assumption); obtain ⟨i075, hi075, _, hsz75, _⟩ := info_parts info3; have hroom75 : t326.length ≤ co23 := (Kd.R_reads' HO_9.out).2.1; have hC75 : Kd.C (Kd.int .i64) _ (some ad344) t326.length t326 := (Kd.R_reads' HO_9.out).2.2; have hcut75 := cut_to (P := Tryd.prog) 22 3 .i64 Tryd.underlying22 hi075 (some ad344) t326.length co23 (ji44) (of_decide_eq_true (by first | (with_reducible assumption) | assumption)) q75 hroom75; have hr75 := Kd.C_take (m := ((ji44) : Int).toNat) hC75 (by omega); have hy75 : y345.length = ((ji44) : Int).toNat := (by rw [Ny345.out, List.length_take]; omega); rw [← Ny345.out] at hr75; rw [← hy75] at hcut75; have HR356 := Aside0.mk hr75; have HC356 := Aside0.mk (show y345.length ≤ co23 from by omega); clear hr75 hC75 hroom75 hi075 hsz75; have KY75 := Aside0.mk hy75; clear hy75; have KL75 := Aside0.mk (show ((ji44) : Int).toNat ≤ t326.length from by omega); replace q75 := eq_true q75) | ((with_reducible refine gate_callee (f := 25) rfl ?_); refine goesL_ (some 182) rfl rfl Tryd.func25 (by kernel_rfl) rfl #[.int .i64 (rd t326 (ji44)), .slice (some ad344) y345.length co23] rfl (by (try simp only [List.map_toArray, List.map_cons, List.map_nil]); first | done | (simp only [hji44]; rfl) | rfl | (simp only [List.length_drop, List.length_take]; rfl)) ?_; (with_reducible refine (civil_Works.calls kj38 (rd t326 (ji44)) _ _ y345 false t358 _ ?side1 ?side2 A53.out).mono ?_); (case side1 => repeat (first | exact (by repeat (first | (with_reducible exact HR356.out) | (with_reducible refine Kd.C_alloc ?_ _) | (with_reducible refine Kd.C_drewN ?_ _) | (with_reducible refine Kd.C_drew ?_) | exact HR356.out)) | (with_reducible refine Kd.C_alloc ?_ _) | (with_reducible refine Kd.C_drewN ?_ _) | (with_reducible refine Kd.C_drew ?_))); (case side2 => exact HC356.out); rintro e w' ⟨rfl, ⟨nd, rfl⟩⟩; refine ⟨_, rfl, ?_⟩))
                                  go_ret
                                  exact ⟨by first | rfl | (rw [HT_.out]; done) | (rw [HT_.out]; rfl) | (have e_ := HT_.out; simp only [e_]; done) | (have e_ := HT_.out; simp only [e_]; rfl) | (have e_ := HT_.out; simp at e_ ⊢; exact e_) | (have e_ := HT_.out; simp_all; done) | (simp [errW_none, errW_some] <;> rfl) | (simp only [← hji11, ← hji12, ← hji13, ← hji14, ← hji15, ← hji16, ← hji29, ← hji44]; first | rfl | (simp [errW_none, errW_some] <;> rfl)) | (simp [*, errW_none, errW_some] <;> rfl), by repeat (first | (with_reducible first | exact HB.out | apply below_alloc | apply pw_below_drewN | apply below_drew1) | exact HB.out)⟩
                              · rw [if_neg c54] at H
                                have c54b0 : ((wrap64 ((wrap64 (t350 + t352)) + t358)) == 0) = false := beq_eq_false_iff_ne.mpr c54
                                have c54b1 : ((wrap64 ((wrap64 (t350 + t352)) + t358)) != 0) = true := bne_iff_ne.mpr c54
                                exact absurd H (by simp)
                            · rw [if_neg c48] at H
                              exact absurd H (by simp)
                          · rw [if_neg c46] at H
                            exact absurd H (by simp)
                        · rw [if_neg c45] at H
                          exact absurd H (by simp)
  · replace c6 := Bool.eq_false_iff.mpr c6
    subst c6
    have H1 : (some false) = some true := by rw [if_neg (show ¬ (false = true) by decide)] at H; exact H
    clear H
    have H := H1
    clear H1
    exact absurd H (by simp)

/-- THE ONE PURE STATEMENT of letterbaglaw01_CivilAdds: yours. -/
def letterbaglaw01_CivilAdds.Pure : Prop := ∀ (l0 : List Int) (a1 : Int) (a2 : Int) (a3 : Int), l0.length ≤ maxLen → l0.length * 2 ≤ 140737488351232 → (∀ x ∈ l0, (Lit.int .u16 x).wf = true) → (Lit.int .i64 a1).wf = true → (Lit.int .i64 a2).wf = true → (Lit.int .i64 a3).wf = true → ∃ k, letterbaglaw01_CivilAdds.f k l0 a1 a2 a3 = some true
end Go.Proofs.YtehnhedifhpalaaDoor.Cp
