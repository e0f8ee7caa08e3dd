/- Functions of the given program as plain Lean functions, and proofs that the machine's calls do what these say; written by a program of this session (myprint.py, over the kit's print). -/
import Derived.Test.YtehnhedifhpalaaDoorCp0
import Derived.Test.YtehnhedifhpalaaDoorCp3
import Derived.Test.YtehnhedifhpalaaDoorCk
namespace Go.Proofs.YtehnhedifhpalaaDoor.Cp
open Go.RowKit Go.Proofs.YtehnhedifhpalaaDoorW.PrintWords Go.Proofs.YtehnhedifhpalaaDoorW.PrintLast Go.Proofs.YtehnhedifhpalaaDoorW.PrintMore
attribute [local go_sem] max2_int min2_int max_two min_two max_three min_three max_four min_four   -- for this text's walks alone
set_option linter.unusedVariables false
set_option linter.unusedSimpArgs false

/-! ### letterbaglaw01_CivilWorks: function 9 -/
def letterbaglaw01_CivilWorks.f (k : Nat) (l0 : List Int) (a1 : Int) (a2 : Int) (a3 : Int) (a4 : Int) (a5 : Int) : Option (Bool) := (letterbaglaw01_awake.f k).bind fun t319 => (if t319 = true then ((letterbaglaw01_civilWorks.f k l0 a1 a2 a3 a4 a5).bind fun t320 => (some t320)) else (some false))
theorem letterbaglaw01_CivilWorks.mono : ∀ a0 a1 a2 a3 a4 a5 k, LeO (letterbaglaw01_CivilWorks.f k a0 a1 a2 a3 a4 a5) (letterbaglaw01_CivilWorks.f (k + 1) a0 a1 a2 a3 a4 a5) := by
  intro a0 a1 a2 a3 a4 a5 k
  unfold letterbaglaw01_CivilWorks.f
  repeat' first
      | (with_reducible exact letterbaglaw01_awake.mono _)
      | (with_reducible exact letterbaglaw01_civilWorks.mono _ _ _ _ _ _ _)
      | (with_reducible exact LeO.refl _)
      | (with_reducible exact LeO.none _)
      | (with_reducible refine LeO.ite ?_ ?_)
      | (with_reducible refine LeO.bind ?_ (fun _ => ?_))
      | exact letterbaglaw01_awake.mono _
      | exact letterbaglaw01_civilWorks.mono _ _ _ _ _ _ _
      | exact LeO.none _
      | refine LeO.ite ?_ ?_
      | refine LeO.bind ?_ (fun _ => ?_)
set_option maxHeartbeats 8000000 in
set_option maxRecDepth 100000 in
theorem letterbaglaw01_CivilWorks.calls (k : Nat) (A0 : Option Addr) (c0 : Nat) (l0 : List Int) (a1 : Int) (a2 : Int) (a3 : Int) (a4 : Int) (a5 : Int) (w : World) (hg : Aside0 (Tab w)) (hr0 : Kd.C (Kd.int .i64) w A0 l0.length l0) (hc0 : l0.length ≤ c0) (h : letterbaglaw01_CivilWorks.f k l0 a1 a2 a3 a4 a5 = some true) :
    Calls Tryd.prog 9 #[.slice A0 l0.length c0, .int .i64 a1, .int .i64 a2, .int .i64 a3, .int .i64 a4, .int .i64 a5] w fun e w' => e = .returned (.bool true) ∧ Below w.heap.size w w' := by
  have HR0 := Aside0.mk hr0
  have HC0 := Aside0.mk hc0
  clear hr0 hc0
  have HB := Aside0.mk (Below.refl w.heap.size w)
  have H : ((letterbaglaw01_awake.f k).bind fun t319 => (if t319 = true then ((letterbaglaw01_civilWorks.f k l0 a1 a2 a3 a4 a5).bind fun t320 => (some t320)) else (some false))) = some true := h
  clear h
  replace H := Option.bind_eq_some_iff.mp H
  obtain ⟨t319, A70, H⟩ := H
  replace H : (if t319 = true then ((letterbaglaw01_civilWorks.f k l0 a1 a2 a3 a4 a5).bind fun t320 => (some t320)) else (some false)) = some true := H
  have A7 := Aside0.mk A70
  clear A70
  by_cases c8 : t319 = true
  · subst c8
    have H1 : ((letterbaglaw01_civilWorks.f k l0 a1 a2 a3 a4 a5).bind fun t320 => (some t320)) = some true := by rw [if_pos rfl] at H; exact H
    clear H
    have H := H1
    clear H1
    replace H := Option.bind_eq_some_iff.mp H
    obtain ⟨t320, A90, H⟩ := H
    replace H : (some t320) = some true := H
    have A9 := Aside0.mk A90
    clear A90
    have HT_ := Aside0.mk (Option.some.inj H)
    go_enter Tryd.func9, Tryd.ntmps9
    go_wp2_with (first | ((with_reducible refine gate_callee (f := 17) rfl ?_); refine goesL_ (some 13) rfl rfl Tryd.func17 (by kernel_rfl) rfl #[] rfl (by (try simp only [List.map_toArray, List.map_cons, List.map_nil]); first | done | rfl | (simp only [List.length_drop, List.length_take]; rfl)) ?_; (with_reducible refine (letterbaglaw01_awake.calls k  true _ ?tabG A7.out).mono ?_); (case tabG => (first | exact hg | exact ⟨hg.out.below (by repeat (first | (with_reducible first | exact HB.out | apply below_alloc | apply pw_below_drewN | apply below_drew1) | exact HB.out))⟩)); rintro e w10 ⟨rfl, hb⟩; refine ⟨_, rfl, ?_⟩; have n0_ := Aside0.mk (below_step (by repeat (first | (with_reducible first | exact HB.out | apply below_alloc | apply pw_below_drewN | apply below_drew1) | exact HB.out)) hb); clear HB; have HB := n0_; clear n0_; (try clear hb); (try clear hb2); (try clear hk); (try clear hi)) | (go_at_call 15; (with_reducible refine (letterbaglaw01_civilWorks.calls k _ _ l0 a1 a2 a3 a4 a5 t320 _ ?tabG ?side1 ?side2 A9.out).mono ?_); (case tabG => (first | exact hg | exact ⟨hg.out.below (by repeat (first | (with_reducible first | exact HB.out | apply below_alloc | apply pw_below_drewN | apply below_drew1) | exact HB.out))⟩)); (case side1 => repeat (first | exact (Kd.C_below HR0.out HB.out) | (with_reducible refine Kd.C_alloc ?_ _) | (with_reducible refine Kd.C_drewN ?_ _) | (with_reducible refine Kd.C_drew ?_))); (case side2 => exact HC0.out); rintro e w11 ⟨rfl, hb⟩; have n0_ := Aside0.mk (below_step (by repeat (first | (with_reducible first | exact HB.out | apply below_alloc | apply pw_below_drewN | apply below_drew1) | exact HB.out)) hb); clear HB; have HB := n0_; clear n0_; (try clear hb); (try clear hb2); (try clear hk); (try clear hi)))
    go_ret
    exact ⟨by first | rfl | (rw [HT_.out]; done) | (rw [HT_.out]; rfl) | (have e_ := HT_.out; simp only [e_]; done) | (have e_ := HT_.out; simp only [e_]; rfl) | (have e_ := HT_.out; simp at e_ ⊢; exact e_) | (have e_ := HT_.out; simp_all; done) | (simp [errW_none, errW_some] <;> rfl) | (simp [*, errW_none, errW_some] <;> rfl), by repeat (first | (with_reducible first | exact HB.out | apply below_alloc | apply pw_below_drewN | apply below_drew1) | exact HB.out)⟩
  · replace c8 := Bool.eq_false_iff.mpr c8
    subst c8
    have H1 : (some false) = some true := by rw [if_neg (show ¬ (false = true) by decide)] at H; exact H
    clear H
    have H := H1
    clear H1
    exact absurd H (by simp)

/-- THE ONE PURE STATEMENT of letterbaglaw01_CivilWorks: yours. -/
def letterbaglaw01_CivilWorks.Pure : Prop := ∀ (l0 : List Int) (a1 : Int) (a2 : Int) (a3 : Int) (a4 : Int) (a5 : Int), l0.length ≤ maxLen → l0.length * 8 ≤ 140737488351232 → (∀ x ∈ l0, (Lit.int .i64 x).wf = true) → (Lit.int .i64 a1).wf = true → (Lit.int .i64 a2).wf = true → (Lit.int .i64 a3).wf = true → (Lit.int .i64 a4).wf = true → (Lit.int .i64 a5).wf = true → ∃ k, letterbaglaw01_CivilWorks.f k l0 a1 a2 a3 a4 a5 = some true

end Go.Proofs.YtehnhedifhpalaaDoor.Cp
