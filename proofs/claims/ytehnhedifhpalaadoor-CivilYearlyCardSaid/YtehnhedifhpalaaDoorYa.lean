/- CivilYearly: the law as a plain function; the machine's call does what it says. -/
import Derived.Test.YtehnhedifhpalaaDoorCp19
set_option linter.unusedVariables false
set_option linter.unusedSimpArgs false
namespace Go.Proofs.YtehnhedifhpalaaDoor.Cp
open Go.RowKit Go.Proofs.YtehnhedifhpalaaDoorW.PrintWords Go.Proofs.YtehnhedifhpalaaDoorW.PrintLast Go.Proofs.YtehnhedifhpalaaDoorW.PrintMore
attribute [local go_sem] max2_int min2_int max_two min_two max_three min_three max_four min_four

/-- The law's closure: a day's number in its year. -/
def md.f (k : Nat) (d : Int) : Option Int := (civil_Date.f k d).bind fun r => some (wrap64 (wrap64 (100 * r.2.1) + r.2.2.1))

set_option maxHeartbeats 1000000 in
theorem md.calls (k : Nat) (d v : Int) (w : World) (hg : Aside0 (Tab w)) (h : md.f k d = some v) :
    Calls Tryd.prog 36 #[.int .i64 d] w fun e w' => e = .returned (.int .i64 v) ∧ Below w.heap.size w w' := by
  unfold md.f at h
  obtain ⟨⟨y, m, q, e⟩, hd, h⟩ := Option.bind_eq_some_iff.mp h
  obtain rfl : wrap64 (wrap64 (100 * m) + q) = v := by simpa using h
  have HD := Aside0.mk hd
  clear hd h
  go_enter Tryd.func36, Tryd.ntmps36
  go_wp2_with (first | (go_at_call 19; (with_reducible refine (civil_Date.calls k d y m q e _ ?tabG HD.out).mono ?_); (case tabG => exact hg); rintro e w1 ⟨rfl, hb⟩; have HB := Aside0.mk hb; clear hb))
  go_ret
  exact ⟨rfl, HB.out⟩

def yearB (i o at_ : Bool) (x y : Int) : Bool := if x = y then (i == at_ && o == at_) else ((i || o) && ((i && o) == at_))

def letterbaglaw01_CivilYearly.f (k : Nat) (a0 a1 a2 : Int) : Option Bool :=
  (letterbaglaw01_awake.f k).bind fun t => if t = true then
    (letterbaglaw01_day.f a0).bind fun d => (letterbaglaw01_day.f a1).bind fun u => (md.f k u).bind fun x => (letterbaglaw01_day.f a2).bind fun v => (md.f k v).bind fun y =>
    (civil_Yearly.f k d x y).bind fun i => (civil_Yearly.f k d y x).bind fun o => (md.f k d).bind fun z =>
    if wrap64 (i.2 + o.2) = 0 then some (yearB i.1 o.1 (z == x || z == y) x y) else some false
  else some false

theorem step_ {w W W' : World} (h : Aside0 (Below w.heap.size w W)) (hb : Below W.heap.size W W') : Aside0 (Below w.heap.size w W') := ⟨below_step h.out hb⟩
theorem drawn_ {w W W' : World} (h : Aside0 (Below w.heap.size w W)) (hb : Drawn0 W W') : Aside0 (Below w.heap.size w W') := ⟨below_step h.out hb.below⟩

set_option maxHeartbeats 4000000 in
set_option maxRecDepth 100000 in
theorem letterbaglaw01_CivilYearly.calls (k : Nat) (a0 a1 a2 : Int) (w : World) (hg : Aside0 (Tab w)) (h : letterbaglaw01_CivilYearly.f k a0 a1 a2 = some true) :
    Calls Tryd.prog 8 #[.int .i64 a0, .int .i64 a1, .int .i64 a2] w fun e w' => e = .returned (.bool true) ∧ Below w.heap.size w w' := by
  have HB := Aside0.mk (Below.refl w.heap.size w)
  unfold letterbaglaw01_CivilYearly.f at h
  obtain ⟨t, ha, h⟩ := Option.bind_eq_some_iff.mp h
  by_cases ct : t = true
  · subst ct
    rw [if_pos rfl] at h
    obtain ⟨d, h0, h⟩ := Option.bind_eq_some_iff.mp h
    obtain ⟨u, h1, h⟩ := Option.bind_eq_some_iff.mp h
    obtain ⟨x, m1, h⟩ := Option.bind_eq_some_iff.mp h
    obtain ⟨v, h2, h⟩ := Option.bind_eq_some_iff.mp h
    obtain ⟨y, m2, h⟩ := Option.bind_eq_some_iff.mp h
    obtain ⟨⟨i, e1⟩, y1, h⟩ := Option.bind_eq_some_iff.mp h
    obtain ⟨⟨o, e2⟩, y2, h⟩ := Option.bind_eq_some_iff.mp h
    obtain ⟨z, m3, h⟩ := Option.bind_eq_some_iff.mp h
    simp only at h
    by_cases ce : wrap64 (e1 + e2) = 0
    · rw [if_pos ce] at h
      have hy : yearB i o (z == x || z == y) x y = true := Option.some.inj h
      have e0 : (wrap64 (e1 + e2) == 0) = true := beq_iff_eq.mpr ce
      have e0' : (wrap64 (e1 + e2) != 0) = false := bne_eq_false_iff_eq.mpr ce
      have HA := Aside0.mk ha
      have H0 := Aside0.mk h0
      have H1 := Aside0.mk h1
      have H2 := Aside0.mk h2
      have M1 := Aside0.mk m1
      have M2 := Aside0.mk m2
      have M3 := Aside0.mk m3
      have Y1 := Aside0.mk y1
      have Y2 := Aside0.mk y2
      clear ha h0 h1 h2 m1 m2 m3 y1 y2 h ce
      go_enter Tryd.func8, Tryd.ntmps8
      go_wp2_with (first
        | (go_at_call 17; (with_reducible refine (letterbaglaw01_awake.calls k true _ ?tabG HA.out).mono ?_); (case tabG => exact ⟨hg.out.below HB.out⟩); rintro e w1 ⟨rfl, hb⟩; replace HB := step_ HB hb; clear hb)
        | (go_at_call 37; (with_reducible refine (letterbaglaw01_day.calls a0 d _ H0.out).mono ?_); rintro e w1 ⟨rfl, hb⟩; replace HB := drawn_ HB hb; clear hb)
        | (go_at_call 37; (with_reducible refine (letterbaglaw01_day.calls a1 u _ H1.out).mono ?_); rintro e w1 ⟨rfl, hb⟩; replace HB := drawn_ HB hb; clear hb)
        | (go_at_call 37; (with_reducible refine (letterbaglaw01_day.calls a2 v _ H2.out).mono ?_); rintro e w1 ⟨rfl, hb⟩; replace HB := drawn_ HB hb; clear hb)
        | (go_at_call 36; (with_reducible refine (md.calls k u x _ ?tabG M1.out).mono ?_); (case tabG => exact ⟨hg.out.below HB.out⟩); rintro e w1 ⟨rfl, hb⟩; replace HB := step_ HB hb; clear hb)
        | (go_at_call 36; (with_reducible refine (md.calls k v y _ ?tabG M2.out).mono ?_); (case tabG => exact ⟨hg.out.below HB.out⟩); rintro e w1 ⟨rfl, hb⟩; replace HB := step_ HB hb; clear hb)
        | (go_at_call 27; (with_reducible refine (civil_Yearly.calls k d x y i e1 _ ?tabG Y1.out).mono ?_); (case tabG => exact ⟨hg.out.below HB.out⟩); rintro e w1 ⟨rfl, hb⟩; replace HB := step_ HB hb; clear hb)
        | (go_at_call 27; (with_reducible refine (civil_Yearly.calls k d y x o e2 _ ?tabG Y2.out).mono ?_); (case tabG => exact ⟨hg.out.below HB.out⟩); rintro e w1 ⟨rfl, hb⟩; replace HB := step_ HB hb; clear hb)
        | (go_at_call 36; (with_reducible refine (md.calls k d z _ ?tabG M3.out).mono ?_); (case tabG => exact ⟨hg.out.below HB.out⟩); rintro e w1 ⟨rfl, hb⟩; replace HB := step_ HB hb; clear hb))
      all_goals (go_ret; refine ⟨?_, HB.out⟩; first | rfl | (unfold yearB at hy; simp_all; done))
    · rw [if_neg ce] at h; exact absurd h (by simp)
  · rw [if_neg ct] at h; exact absurd h (by simp)
end Go.Proofs.YtehnhedifhpalaaDoor.Cp
