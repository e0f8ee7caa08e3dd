/- civilWorks as a plain function; the machine's call does what it says. -/
import Derived.Test.YtehnhedifhpalaaDoorKc
import Derived.Test.YtehnhedifhpalaaDoorCp4
import Derived.Test.YtehnhedifhpalaaDoorCp9
import Derived.Test.YtehnhedifhpalaaDoorCb
set_option linter.unusedVariables false
set_option linter.unusedSimpArgs false
namespace Go.Proofs.YtehnhedifhpalaaDoor.Cp
open Go.RowKit Go.Proofs.YtehnhedifhpalaaDoorW.PrintWords Go.Proofs.YtehnhedifhpalaaDoorW.PrintLast Go.Proofs.YtehnhedifhpalaaDoorW.PrintMore
attribute [local go_sem] max2_int min2_int max_two min_two max_three min_three max_four min_four

def letterbaglaw01_civilWorks.f (k : Nat) (l : List Int) (a1 a2 a3 a4 a5 : Int) : Option Bool :=
  (letterbaglaw01_few.f l a1 a2 a3).bind fun t => if t = true then
    (civil_Works.f k a1 l).bind fun x => (letterbagref01_Works.f k a1 l).bind fun y => (civil_Right.f k l).bind fun r => (letterbagref01_Right.f k l).bind fun q =>
    (civil_Between.f a1 a2 l).bind fun c => (letterbagref01_Between.f k a1 a2 l).bind fun d => (civil_Ahead.f k a1 a3 l).bind fun i => (letterbagref01_Ahead.f k a1 a3 l).bind fun j =>
    (civil_Yearly.f k a1 a4 a5).bind fun u => (letterbagref01_Yearly.f k a1 a4 a5).bind fun v =>
    if x = y ∧ r = q ∧ c = d ∧ i = j ∧ u = v then some true else none
  else some true

theorem letterbaglaw01_civilWorks.mono : ∀ l a1 a2 a3 a4 a5 k, LeO (letterbaglaw01_civilWorks.f k l a1 a2 a3 a4 a5) (letterbaglaw01_civilWorks.f (k + 1) l a1 a2 a3 a4 a5) := by
  intro l a1 a2 a3 a4 a5 k
  unfold letterbaglaw01_civilWorks.f
  refine LeO.bind (LeO.refl _) fun _ => LeO.ite ?_ (LeO.refl _)
  refine LeO.bind (civil_Works.mono _ _ _) fun _ => LeO.bind (letterbagref01_Works.mono _ _ _) fun _ => LeO.bind (civil_Right.mono _ _) fun _ => LeO.bind (letterbagref01_Right.mono _ _) fun _ => ?_
  refine LeO.bind (LeO.refl _) fun _ => LeO.bind (letterbagref01_Between.mono _ _ _ _) fun _ => LeO.bind (civil_Ahead.mono _ _ _ _) fun _ => LeO.bind (letterbagref01_Ahead.mono _ _ _ _) fun _ => ?_
  exact LeO.bind (civil_Yearly.mono _ _ _ _) fun _ => LeO.bind (letterbagref01_Yearly.mono _ _ _ _) fun _ => LeO.refl _

set_option maxHeartbeats 8000000 in
set_option maxRecDepth 100000 in
theorem letterbaglaw01_civilWorks.calls (k : Nat) (A0 : Option Addr) (c0 : Nat) (l0 : List Int) (a1 a2 a3 a4 a5 : Int) (r : Bool) (w : World) (hg : Aside0 (Tab w)) (hr0 : Kd.C (Kd.int .i64) w A0 l0.length l0) (hc0 : l0.length ≤ c0) (h : letterbaglaw01_civilWorks.f k l0 a1 a2 a3 a4 a5 = some r) :
    Calls Tryd.prog 15 #[.slice A0 l0.length c0, .int .i64 a1, .int .i64 a2, .int .i64 a3, .int .i64 a4, .int .i64 a5] w fun e w' => e = .returned (.bool r) ∧ Below w.heap.size w w' := by
  have HR := Aside0.mk hr0
  have HC := Aside0.mk hc0
  clear hr0 hc0
  unfold letterbaglaw01_civilWorks.f at h
  obtain ⟨t, hf, h⟩ := Option.bind_eq_some_iff.mp h
  have HF := Aside0.mk hf
  by_cases ct : t = true
  · subst ct
    rw [if_pos rfl] at h
    obtain ⟨⟨x1, x2⟩, hx, h⟩ := Option.bind_eq_some_iff.mp h
    obtain ⟨⟨y1, y2⟩, hy, h⟩ := Option.bind_eq_some_iff.mp h
    obtain ⟨ri, hri, h⟩ := Option.bind_eq_some_iff.mp h
    obtain ⟨qi, hqi, h⟩ := Option.bind_eq_some_iff.mp h
    obtain ⟨⟨b1, b2⟩, hb, h⟩ := Option.bind_eq_some_iff.mp h
    obtain ⟨⟨d1, d2⟩, hd, h⟩ := Option.bind_eq_some_iff.mp h
    obtain ⟨⟨i1, i2⟩, hi, h⟩ := Option.bind_eq_some_iff.mp h
    obtain ⟨⟨j1, j2⟩, hj, h⟩ := Option.bind_eq_some_iff.mp h
    obtain ⟨⟨u1, u2⟩, hu, h⟩ := Option.bind_eq_some_iff.mp h
    obtain ⟨⟨v1, v2⟩, hv, h⟩ := Option.bind_eq_some_iff.mp h
    try simp only at h
    by_cases ce : (x1, x2) = (y1, y2) ∧ ri = qi ∧ (b1, b2) = (d1, d2) ∧ (i1, i2) = (j1, j2) ∧ (u1, u2) = (v1, v2)
    · rw [if_pos ce] at h
      obtain rfl := Option.some.inj h
      obtain ⟨e1, rfl, e2, e3, e4⟩ := ce
      obtain ⟨rfl, rfl⟩ := Prod.mk.inj e1
      obtain ⟨rfl, rfl⟩ := Prod.mk.inj e2
      obtain ⟨rfl, rfl⟩ := Prod.mk.inj e3
      obtain ⟨rfl, rfl⟩ := Prod.mk.inj e4
      have hn : l0.length ≤ 60 := by
        unfold letterbaglaw01_few.f at hf
        by_cases c : (l0.length : Int) ≤ 60
        · omega
        · rw [if_neg c] at hf; exact absurd hf (by simp)
      have HN := Aside0.mk hn
      have HX := Aside0.mk hx
      have HY := Aside0.mk hy
      have HRI := Aside0.mk hri
      have HQI := Aside0.mk hqi
      have HB := Aside0.mk hb
      have HD := Aside0.mk hd
      have HI := Aside0.mk hi
      have HJ := Aside0.mk hj
      have HU := Aside0.mk hu
      have HV := Aside0.mk hv
      clear hf hx hy hri hqi hb hd hi hj hu hv e1 e2 e3 e4 hn h
      go_enter Tryd.func15, Tryd.ntmps15
      go_wp2_with (first
        | (go_at_call 46; (with_reducible refine (letterbaglaw01_few.calls _ _ l0 a1 a2 a3 true _ ?side1 ?side2 HF.out).mono ?_); (case side1 => exact HR.out); (case side2 => exact HC.out); rintro e w1 ⟨rfl, ⟨nd, rfl⟩⟩)
        | (go_at_call 47; (with_reducible refine (lent_ex _ _ l0 _ ?side1 ?side2 HN.out).mono ?_); (case side1 => exact Kd.C_drewN HR.out _); (case side2 => exact HC.out); rintro e w1 ⟨g, rfl, hl, hb⟩; have ST := Aside0.mk (St.mk (below_then (first_below w nd) (below_size (first_below w nd)) hb) ((hg.out.drewN nd).below hb) hl (Kd.C_below (Kd.C_drewN HR.out nd) hb)); clear hl hb)
        | (go_at_call 25; (with_reducible refine (civil_Works.calls k a1 _ _ l0 x1 x2 _ ?side1 ?side2 HX.out).mono ?_); (case side1 => exact lent_list ST.out.lent HN.out); (case side2 => exact Nat.le_add_right _ _); rintro e w1 ⟨rfl, hb⟩; replace ST := Aside0.mk (ST.out.step hb.below); clear hb)
        | (go_at_call 48; (with_reducible refine (letterbagref01_Works.calls k a1 _ _ l0 x1 x2 _ ?side1 ?side2 HY.out).mono ?_); (case side1 => exact ST.out.arg); (case side2 => exact HC.out); rintro e w1 ⟨rfl, hb⟩; replace ST := Aside0.mk (ST.out.step hb.below); clear hb)
        | (go_at_call 29; (with_reducible refine (civil_Right.calls k _ _ l0 ri _ ?side1 ?side2 HRI.out).mono ?_); (case side1 => exact lent_list ST.out.lent HN.out); (case side2 => exact Nat.le_add_right _ _); rintro e w1 ⟨rfl, hb⟩; replace ST := Aside0.mk (ST.out.step hb.below); clear hb)
        | (go_at_call 49; (with_reducible refine (letterbagref01_Right.calls k _ _ l0 ri _ ?side1 ?side2 HQI.out).mono ?_); (case side1 => exact ST.out.arg); (case side2 => exact HC.out); rintro e w1 ⟨rfl, hb⟩; replace ST := Aside0.mk (ST.out.step hb.below); clear hb)
        | (go_at_call 28; (with_reducible refine (civil_Between.calls a1 a2 _ _ l0 b1 b2 _ ?side1 ?side2 HB.out).mono ?_); (case side1 => exact lent_list ST.out.lent HN.out); (case side2 => exact Nat.le_add_right _ _); rintro e w1 ⟨rfl, hb⟩; replace ST := Aside0.mk (ST.out.step hb); clear hb)
        | (go_at_call 50; (with_reducible refine (letterbagref01_Between.calls k a1 a2 _ _ l0 b1 b2 _ ?side1 ?side2 HD.out).mono ?_); (case side1 => exact ST.out.arg); (case side2 => exact HC.out); rintro e w1 ⟨rfl, hb⟩; replace ST := Aside0.mk (ST.out.step hb.below); clear hb)
        | (go_at_call 26; (with_reducible refine (civil_Ahead.calls k a1 a3 _ _ l0 i1 i2 _ ?side1 ?side2 HI.out).mono ?_); (case side1 => exact lent_list ST.out.lent HN.out); (case side2 => exact Nat.le_add_right _ _); rintro e w1 ⟨rfl, hb⟩; replace ST := Aside0.mk (ST.out.step hb); clear hb)
        | (go_at_call 51; (with_reducible refine (letterbagref01_Ahead.calls k a1 a3 _ _ l0 i1 i2 _ ?side1 ?side2 HJ.out).mono ?_); (case side1 => exact ST.out.arg); (case side2 => exact HC.out); rintro e w1 ⟨rfl, hb⟩; replace ST := Aside0.mk (ST.out.step hb.below); clear hb)
        | (go_at_call 27; (with_reducible refine (civil_Yearly.calls k a1 a4 a5 u1 u2 _ ?tabG HU.out).mono ?_); (case tabG => exact ⟨ST.out.tab⟩); rintro e w1 ⟨rfl, hb⟩; replace ST := Aside0.mk (ST.out.step hb); clear hb)
        | (go_at_call 52; (with_reducible refine (letterbagref01_Yearly.calls k a1 a4 a5 u1 u2 _ HV.out).mono ?_); rintro e w1 ⟨rfl, hb⟩; replace ST := Aside0.mk (ST.out.step hb.below); clear hb)
        | (go_at_call 53; (with_reducible refine (kept_any _ _ _ _ l0 _ ?side1 ?side2 ?side3 ?side4 ?side5).mono ?_); (case side1 => exact ST.out.lent); (case side2 => exact ST.out.arg); (case side3 => exact HC.out); (case side4 => exact HN.out); (case side5 => exact Nat.le_refl _); rintro e w1 ⟨rfl, hb⟩; replace ST := Aside0.mk (ST.out.step hb.below); clear hb))
      go_ret
      exact ⟨rfl, ST.out.below⟩
    · rw [if_neg ce] at h; exact absurd h (by simp)
  · rw [if_neg ct] at h
    obtain rfl := Option.some.inj h
    obtain rfl : t = false := by simpa using ct
    clear hf ct h
    go_enter Tryd.func15, Tryd.ntmps15
    go_wp2_with (first
      | (go_at_call 46; (with_reducible refine (letterbaglaw01_few.calls _ _ l0 a1 a2 a3 false _ ?side1 ?side2 HF.out).mono ?_); (case side1 => exact HR.out); (case side2 => exact HC.out); rintro e w1 ⟨rfl, ⟨nd, rfl⟩⟩))
    go_ret
    exact ⟨rfl, first_below w nd⟩

end Go.Proofs.YtehnhedifhpalaaDoor.Cp
