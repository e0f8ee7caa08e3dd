/- Right, Works, Between, Ahead and Yearly of the reference; CivilWorks returns true at all lists and numbers. -/
import Derived.Test.YtehnhedifhpalaaDoorFa
import Derived.Test.YtehnhedifhpalaaDoorRb
import Derived.Test.YtehnhedifhpalaaDoorCk
import Derived.Test.YtehnhedifhpalaaDoorCi
import Derived.Test.YtehnhedifhpalaaDoorCp16
set_option linter.unusedVariables false
set_option linter.unusedSimpArgs false
namespace Go.Proofs.YtehnhedifhpalaaDoor.Cp
open Go.RowKit Go.Proofs.YtehnhedifhpalaaDoorW.PrintWords Go.Proofs.YtehnhedifhpalaaDoorW.PrintLast Go.Proofs.YtehnhedifhpalaaDoorW.PrintMore

/-! ### Right -/
def prevOf (l : List Int) (i : Nat) : Int := if i = 0 then -1 else l.getD (i - 1) 0

theorem prev_succ {l : List Int} {i : Nat} (h : i < l.length) : prevOf l (i + 1) = l[i] := by
  unfold prevOf
  rw [if_neg (by omega), Nat.add_sub_cancel, List.getD_eq_getElem?_getD, List.getElem?_eq_getElem h]; rfl

theorem rright_l0 (l : List Int) (hl : l.length ≤ 1000000) (d : Nat) : ∀ i : Nat, i ≤ l.length → l.length - i = d → -1 ≤ prevOf l i →
    Ev (fun k => letterbagref01_Right.l0 k l (i : Int)) (rightFrom (prevOf l i) (l.drop i) && decide (l.length ≤ 1000)) := by
  induction d with
  | zero =>
    intro i hi hd hp
    refine Ev.step (fun k => letterbagref01_Right.l0.eq_2 _ _ k) ?_
    rw [List.drop_of_length_le (by omega)]
    refine ev_neg (by omega) (ev_eq ?_ (Ev.now _))
    simp only [rightFrom, Bool.true_and]
    rw [Bool.eq_iff_iff]
    simp only [decide_eq_true_eq]
    omega
  | succ d ih =>
    intro i hi hd hp
    have c : i < l.length := by omega
    have e1 : (i : Int) + 1 = ((i + 1 : Nat) : Int) := by omega
    have b1 : -10000000 ≤ (i : Int) + 1 ∧ (i : Int) + 1 ≤ 10000000 := by omega
    refine Ev.step (fun k => letterbagref01_Right.l0.eq_2 _ _ k) ?_
    refine ev_pos (by omega) (ev_pos (by omega) ?_)
    rw [rd_get c, wb b1, e1, List.drop_eq_getElem_cons c]
    simp only [rightFrom]
    by_cases c0 : l[i] < 0
    · refine ev_pos c0 (ev_eq ?_ (Ev.now _))
      rw [decide_eq_true (show l[i] ≤ prevOf l i by omega)]; rfl
    · refine ev_neg c0 ?_
      by_cases c1 : l[i] > 730484
      · refine ev_pos c1 (ev_eq ?_ (Ev.now _))
        rw [decide_eq_true (show 730484 < l[i] from c1), Bool.not_true, Bool.and_false, Bool.false_and, Bool.false_and]
      · refine ev_neg c1 ?_
        have ih1 := ih (i + 1) (by omega) (by omega) (by rw [prev_succ c]; omega)
        rw [prev_succ c] at ih1
        by_cases c2 : (i : Int) > 0
        · have ci : i - 1 < l.length := by omega
          have b2 : -10000000 ≤ (i : Int) - 1 ∧ (i : Int) - 1 ≤ 10000000 := by omega
          have e2 : (i : Int) - 1 = ((i - 1 : Nat) : Int) := by omega
          have ep : prevOf l i = l[i - 1] := by
            have := prev_succ ci
            rwa [show i - 1 + 1 = i by omega] at this
          rw [wb b2, e2, rd_get ci, ← ep]
          refine ev_pos c2 (ev_pos (by omega) (ev_pos (by omega) ?_))
          by_cases c3 : prevOf l i ≥ l[i]
          · refine ev_pos c3 (ev_eq ?_ (Ev.now _))
            rw [decide_eq_true (show l[i] ≤ prevOf l i from c3)]; rfl
          · refine ev_neg c3 (ev_eq ?_ ih1)
            rw [decide_eq_false (show ¬ l[i] ≤ prevOf l i from c3), decide_eq_false (show ¬ 730484 < l[i] from c1)]; rfl
        · refine ev_neg c2 (ev_eq ?_ ih1)
          obtain rfl : i = 0 := by omega
          have ep : prevOf l 0 = -1 := rfl
          rw [ep, decide_eq_false (show ¬ l[0] ≤ (-1 : Int) by omega), decide_eq_false (show ¬ (730484 : Int) < l[0] from c1)]; rfl

theorem rright_f (l : List Int) (hl : l.length ≤ 1000000) : Ev (fun k => letterbagref01_Right.f k l) (rightB l) := by
  have := rright_l0 l hl (l.length - 0) 0 (by omega) rfl (by show (-1 : Int) ≤ -1; decide)
  rw [List.drop_zero] at this
  exact this

/-! ### Works -/
theorem rworks_l0 (l : List Int) (hl : l.length ≤ 1000000) (a : Int) (ha : 0 ≤ a) (d : Nat) : ∀ i : Nat, i ≤ l.length → l.length - i = d →
    Ev (fun k => letterbagref01_works.l0 k a l (i : Int)) (decide (a % 7 < 5) && !(l.drop i).contains a) := by
  induction d with
  | zero =>
    intro i hi hd
    refine Ev.step (fun k => letterbagref01_works.l0.eq_2 _ _ _ k) ?_
    rw [List.drop_of_length_le (by omega), Int.tmod_eq_emod_of_nonneg ha]
    exact ev_neg (by omega) (ev_eq (by simp) (Ev.now _))
  | succ d ih =>
    intro i hi hd
    have c : i < l.length := by omega
    have e1 : (i : Int) + 1 = ((i + 1 : Nat) : Int) := by omega
    have b1 : -10000000 ≤ (i : Int) + 1 ∧ (i : Int) + 1 ≤ 10000000 := by omega
    refine Ev.step (fun k => letterbagref01_works.l0.eq_2 _ _ _ k) ?_
    refine ev_pos (by omega) (ev_pos (by omega) ?_)
    rw [rd_get c, wb b1, e1, List.drop_eq_getElem_cons c, List.contains_cons]
    by_cases c0 : l[i] = a
    · refine ev_pos c0 (ev_eq ?_ (Ev.now _))
      simp [c0]
    · refine ev_neg c0 (ev_eq ?_ (ih (i + 1) (by omega) (by omega)))
      rw [beq_eq_false_iff_ne.mpr (Ne.symm c0), Bool.false_or]

theorem rworks_f (l : List Int) (hl : l.length ≤ 1000000) {a : Int} (ha : 0 ≤ a) : Ev (fun k => letterbagref01_works.f k a l) (Cv.wk l a) := by
  have := rworks_l0 l hl a ha _ 0 (by omega) rfl
  rw [List.drop_zero] at this
  exact this

theorem rWorks_f (l : List Int) (a : Int) (hl : l.length ≤ 1000000) : Ev (fun k => letterbagref01_Works.f k a l) (worksB l a) := by
  have hr := rright_f l hl
  unfold letterbagref01_Works.f
  cases hR : rightB l with
  | false =>
    rw [hR] at hr
    rw [worksB_bad hR]
    exact Ev.bind hr (ev_neg Bool.false_ne_true (Ev.now _))
  | true =>
    rw [hR] at hr
    refine Ev.bind hr (ev_pos rfl (Ev.bind (ev_val (rwithin_f a _)) ?_))
    by_cases ha : 0 ≤ a ∧ a ≤ 730484
    · rw [worksB_ok hR ha]
      exact ev_pos (errOf_ok ha) (Ev.bind (rworks_f l hl ha.1) (Ev.now _))
    · rw [worksB_err hR ha]
      exact ev_neg (errOf_ne ha) (Ev.now _)

/-! ### Between -/
theorem rbetween_l0 (l : List Int) (hl : l.length ≤ 1000000) {a b : Int} (ha : 0 ≤ a) (hb : b ≤ 730484) (d : Nat) : ∀ x : Int, a ≤ x → x ≤ b → b - x = d →
    Ev (fun k => letterbagref01_Between.l0 k b l (Cv.cnt (Cv.wk l) a x) x) (Cv.cnt (Cv.wk l) a b, 0) := by
  induction d with
  | zero =>
    intro x h1 h2 hd
    obtain rfl : x = b := by omega
    exact Ev.step (fun k => letterbagref01_Between.l0.eq_2 _ _ _ _ k) (ev_neg (by omega) (Ev.now _))
  | succ d ih =>
    intro x h1 h2 hd
    have hc := Cv.cnt_le_len (Cv.wk l) h1
    have hc0 := Cv.cnt_nonneg (Cv.wk l) a x
    have hs := Cv.cnt_succ (Cv.wk l) h1
    have b1 : -10000000 ≤ x + 1 ∧ x + 1 ≤ 10000000 := by omega
    have b2 : -10000000 ≤ Cv.cnt (Cv.wk l) a x + 1 ∧ Cv.cnt (Cv.wk l) a x + 1 ≤ 10000000 := by omega
    have ih1 := ih (x + 1) (by omega) (by omega) (by omega)
    refine Ev.step (fun k => letterbagref01_Between.l0.eq_2 _ _ _ _ k) (ev_pos (by omega) (Ev.bind (rworks_f l hl (a := x) (by omega)) ?_))
    rw [wb b1, wb b2]
    by_cases c : Cv.wk l x = true
    · rw [if_pos c] at hs
      refine ev_pos c ?_
      rw [← hs]
      exact ih1
    · rw [if_neg c, Int.add_zero] at hs
      refine ev_neg c ?_
      rw [← hs]
      exact ih1

def betB (l : List Int) (a b : Int) : Int × Int := if rightB l = true ∧ 0 ≤ a ∧ a ≤ b then (if b ≤ 730484 then (Cv.cnt (Cv.wk l) a b, 0) else (0, 3)) else (0, 2)

theorem cbetween_f (l : List Int) (a b : Int) : civil_Between.f a b l = some (betB l a b) := by
  unfold betB
  by_cases h : rightB l = true ∧ 0 ≤ a ∧ a ≤ b
  · rw [if_pos h]
    by_cases c : b ≤ 730484
    · rw [if_pos c, cbetween_ok h.1 h.2.1 h.2.2 c]
    · unfold civil_Between.f
      rw [if_pos h, if_neg c, if_neg c]
  · unfold civil_Between.f
    rw [if_neg h, if_neg h]

theorem rbetween_f (l : List Int) (hl : l.length ≤ 1000000) (a b : Int) : Ev (fun k => letterbagref01_Between.f k a b l) (betB l a b) := by
  have hr := rright_f l hl
  have no : ∀ x : Bool, x = true → ¬ (rightB l = true ∧ 0 ≤ a ∧ a ≤ b) → Ev (fun k => letterbagref01_Between.j0 k a b l x) (betB l a b) := by
    intro x hx hn
    unfold betB
    rw [if_neg hn]
    exact Ev.step (fun k => letterbagref01_Between.j0.eq_2 _ _ _ _ k) (ev_pos hx (Ev.now _))
  unfold letterbagref01_Between.f
  cases hR : rightB l with
  | false =>
    rw [hR] at hr
    exact Ev.bind hr (ev_neg Bool.false_ne_true (no _ rfl (fun h => by rw [hR] at h; exact absurd h.1 Bool.false_ne_true)))
  | true =>
    rw [hR] at hr
    refine Ev.bind hr (ev_pos rfl ?_)
    by_cases c1 : a < 0
    · exact ev_pos c1 (no _ rfl (fun h => by omega))
    · refine ev_neg c1 ?_
      by_cases c2 : b < a
      · exact no _ (decide_eq_true c2) (fun h => by omega)
      · refine Ev.step (fun k => letterbagref01_Between.j0.eq_2 _ _ _ _ k) (ev_neg (by rw [decide_eq_false c2]; exact Bool.false_ne_true) ?_)
        unfold betB
        rw [if_pos ⟨hR, by omega, by omega⟩]
        by_cases c3 : b > 730484
        · refine ev_pos c3 (ev_eq ?_ (Ev.now _))
          rw [if_neg (by omega)]
        · refine ev_neg c3 ?_
          rw [if_pos (by omega)]
          have := rbetween_l0 l hl (a := a) (b := b) (by omega) (by omega) (b - a).toNat a (by omega) (by omega) (by omega)
          rw [Cv.cnt_nil _ (Int.le_refl a)] at this
          exact this

/-! ### Ahead -/
theorem rahead_l0 (l : List Int) (hl : l.length ≤ 1000000) (d : Nat) : ∀ x m : Int, 0 ≤ x → x ≤ 730485 → 730485 - x = d → (0 ≤ m ∧ m ≤ 10000000) →
    (∃ e, Cv.IsAhead (Cv.wk l) x m e ∧ Ev (fun k => letterbagref01_Ahead.l0 k m l x) (e, 0)) ∨ (Cv.cnt (Cv.wk l) x 730485 ≤ m ∧ Ev (fun k => letterbagref01_Ahead.l0 k m l x) (0, 3)) := by
  induction d with
  | zero =>
    intro x m h0 h1 hd hm
    obtain rfl : x = 730485 := by omega
    refine .inr ⟨by rw [Cv.cnt_nil _ (Int.le_refl _)]; exact hm.1, Ev.step (fun k => letterbagref01_Ahead.l0.eq_2 _ _ _ k) (ev_neg (by omega) (Ev.now _))⟩
  | succ d ih =>
    intro x m h0 h1 hd hm
    have hx := Cv.cnt_split (Cv.wk l) (a := x) (b := x + 1) (by omega) 730485 (by omega)
    have hs := Cv.cnt_succ (Cv.wk l) (Int.le_refl x)
    rw [Cv.cnt_nil _ (Int.le_refl x)] at hs
    have b1 : -10000000 ≤ x + 1 ∧ x + 1 ≤ 10000000 := by omega
    have b2 : -10000000 ≤ m - 1 ∧ m - 1 ≤ 10000000 := by omega
    have go : ∀ {r : Int × Int}, Ev (fun k => (letterbagref01_works.f k x l).bind fun t312 => (if t312 = true then (if m = 0 then (some (x, 0)) else (letterbagref01_Ahead.l0 k (wrap64 (m - 1)) l (wrap64 (x + 1)))) else (letterbagref01_Ahead.l0 k m l (wrap64 (x + 1))))) r → Ev (fun k => letterbagref01_Ahead.l0 k m l x) r :=
      fun h => Ev.step (fun k => letterbagref01_Ahead.l0.eq_2 _ _ _ k) (ev_pos (by omega) h)
    have hw := rworks_f l hl h0
    rw [wb b1, wb b2] at go
    cases c : Cv.wk l x with
    | true =>
      rw [c] at hw hs
      simp only [if_true] at hs
      by_cases c0 : m = 0
      · refine .inl ⟨x, ⟨Int.le_refl x, by omega, c, by rw [Cv.cnt_nil _ (Int.le_refl x), c0]⟩, go (Ev.bind hw (ev_pos rfl (ev_pos c0 (Ev.now _))))⟩
      · rcases ih (x + 1) (m - 1) (by omega) (by omega) (by omega) (by omega) with ⟨e, k1, k2⟩ | ⟨k1, k2⟩
        · refine .inl ⟨e, ⟨by have := k1.ge; omega, k1.le, k1.is, ?_⟩, go (Ev.bind hw (ev_pos rfl (ev_neg c0 k2)))⟩
          have := Cv.cnt_split (Cv.wk l) (a := x) (b := x + 1) (by omega) e k1.ge
          have := k1.cnt
          omega
        · exact .inr ⟨by omega, go (Ev.bind hw (ev_pos rfl (ev_neg c0 k2)))⟩
    | false =>
      rw [c] at hw hs
      simp only [Bool.false_eq_true, if_false] at hs
      rcases ih (x + 1) m (by omega) (by omega) (by omega) hm with ⟨e, k1, k2⟩ | ⟨k1, k2⟩
      · refine .inl ⟨e, ⟨by have := k1.ge; omega, k1.le, k1.is, ?_⟩, go (Ev.bind hw (ev_neg Bool.false_ne_true k2))⟩
        have := Cv.cnt_split (Cv.wk l) (a := x) (b := x + 1) (by omega) e k1.ge
        have := k1.cnt
        omega
      · exact .inr ⟨by omega, go (Ev.bind hw (ev_neg Bool.false_ne_true k2))⟩

theorem ahead_same (l : List Int) (hl : l.length ≤ 1000000) (a n : Int) (hn : n ≤ 10000000) : ∃ r, Ev (fun k => civil_Ahead.f k a n l) r ∧ Ev (fun k => letterbagref01_Ahead.f k a n l) r := by
  have hr := rright_f l hl
  by_cases h : rightB l = true ∧ 0 ≤ a ∧ 0 ≤ n
  · have rf : ∀ {r : Int × Int}, Ev (fun k => letterbagref01_Ahead.l0 k n l a) r → Ev (fun k => letterbagref01_Ahead.f k a n l) r := by
      intro r hx
      unfold letterbagref01_Ahead.f
      rw [h.1] at hr
      exact Ev.bind hr (ev_pos rfl (ev_neg (by omega) (Ev.step (fun k => letterbagref01_Ahead.j0.eq_2 _ _ _ _ k) (ev_neg (by rw [decide_eq_false (show ¬ n < 0 by omega)]; exact Bool.false_ne_true) hx))))
    by_cases c : a ≤ 730484
    · rcases rahead_l0 l hl (730485 - a).toNat a n h.2.1 (by omega) (by omega) (by omega) with ⟨e, k1, k2⟩ | ⟨k1, k2⟩
      · have hlt : n < Cv.cnt (Cv.wk l) a 730485 := by
          refine Classical.byContradiction fun hc => Cv.ahead_none (p := Cv.wk l) (a := a) (n := n) (by omega) e k1
        obtain ⟨e', j1, j2⟩ := cahead_ok h.1 ⟨h.2.1, c⟩ h.2.2 hlt
        obtain rfl := k1.unique j1
        exact ⟨_, j2, rf k2⟩
      · exact ⟨_, cahead_none h.1 h.2.1 h.2.2 k1, rf k2⟩
    · refine ⟨(0, 3), cahead_none h.1 h.2.1 h.2.2 (by rw [Cv.cnt_nil _ (by omega)]; exact h.2.2), rf ?_⟩
      exact Ev.step (fun k => letterbagref01_Ahead.l0.eq_2 _ _ _ k) (ev_neg c (Ev.now _))
  · refine ⟨(0, 2), cahead_arg h, ?_⟩
    have no : ∀ x : Bool, x = true → Ev (fun k => letterbagref01_Ahead.j0 k a n l x) (0, 2) := fun x hx => Ev.step (fun k => letterbagref01_Ahead.j0.eq_2 _ _ _ _ k) (ev_pos hx (Ev.now _))
    unfold letterbagref01_Ahead.f
    cases hR : rightB l with
    | false =>
      rw [hR] at hr
      exact Ev.bind hr (ev_neg Bool.false_ne_true (no _ rfl))
    | true =>
      rw [hR] at hr
      refine Ev.bind hr (ev_pos rfl ?_)
      by_cases c1 : a < 0
      · exact ev_pos c1 (no _ rfl)
      · exact ev_neg c1 (no _ (decide_eq_true (Classical.byContradiction fun hc => h ⟨hR, by omega, by omega⟩)))

/-! ### Yearly -/
theorem j0_same (x y m d : Int) (b : Bool) : ∃ r, Ev (fun k => civil_Yearly.j0 k x y m d b) r ∧ Ev (fun k => letterbagref01_Yearly.j0 k x y m d b) r := by
  cases b with
  | true => exact ⟨_, Ev.step (fun k => civil_Yearly.j0.eq_2 _ _ _ _ _ k) (ev_pos rfl (Ev.now _)), Ev.step (fun k => letterbagref01_Yearly.j0.eq_2 _ _ _ _ _ k) (ev_pos rfl (Ev.now _))⟩
  | false =>
    have cs : ∀ {r}, Ev (fun k => (if x > y then (if (wrap64 ((wrap64 (100 * m)) + d)) ≥ x then (some (true, 0)) else (some (decide ((wrap64 ((wrap64 (100 * m)) + d)) ≤ y), 0))) else (if (wrap64 ((wrap64 (100 * m)) + d)) ≥ x then (some (decide ((wrap64 ((wrap64 (100 * m)) + d)) ≤ y), 0)) else (some (false, (0 : Int)))))) r → Ev (fun k => civil_Yearly.j0 k x y m d false) r :=
      fun h => Ev.step (fun k => civil_Yearly.j0.eq_2 _ _ _ _ _ k) (ev_neg Bool.false_ne_true h)
    have rs : ∀ {r}, Ev (fun k => (if x ≤ y then (if (wrap64 ((wrap64 (100 * m)) + d)) ≥ x then (some (decide ((wrap64 ((wrap64 (100 * m)) + d)) ≤ y), 0)) else (some (false, 0))) else (if (wrap64 ((wrap64 (100 * m)) + d)) ≥ x then (some (true, 0)) else (some (decide ((wrap64 ((wrap64 (100 * m)) + d)) ≤ y), (0 : Int)))))) r → Ev (fun k => letterbagref01_Yearly.j0 k x y m d false) r :=
      fun h => Ev.step (fun k => letterbagref01_Yearly.j0.eq_2 _ _ _ _ _ k) (ev_neg Bool.false_ne_true h)
    generalize wrap64 ((wrap64 (100 * m)) + d) = z at cs rs
    by_cases c1 : x > y
    · have c2 : ¬ x ≤ y := by omega
      by_cases c3 : z ≥ x
      · exact ⟨_, cs (ev_pos c1 (ev_pos c3 (Ev.now _))), rs (ev_neg c2 (ev_pos c3 (Ev.now _)))⟩
      · exact ⟨_, cs (ev_pos c1 (ev_neg c3 (Ev.now _))), rs (ev_neg c2 (ev_neg c3 (Ev.now _)))⟩
    · have c2 : x ≤ y := by omega
      by_cases c3 : z ≥ x
      · exact ⟨_, cs (ev_neg c1 (ev_pos c3 (Ev.now _))), rs (ev_pos c2 (ev_pos c3 (Ev.now _)))⟩
      · exact ⟨_, cs (ev_neg c1 (ev_neg c3 (Ev.now _))), rs (ev_pos c2 (ev_neg c3 (Ev.now _)))⟩

theorem yearly_same (a x y : Int) : ∃ r, Ev (fun k => civil_Yearly.f k a x y) r ∧ Ev (fun k => letterbagref01_Yearly.f k a x y) r := by
  unfold civil_Yearly.f letterbagref01_Yearly.f
  by_cases h : 0 ≤ a ∧ a ≤ 730484
  · obtain ⟨yy, m, d, i1, i2⟩ := has_date h
    subst i2
    by_cases c : Cv.IsDate 2004 (wrap64 (Int.tdiv x 100)) (Int.tmod x 100)
    · obtain ⟨r, k1, k2⟩ := j0_same x y m d (!decide (Cv.IsDate 2004 (wrap64 (Int.tdiv y 100)) (Int.tmod y 100)))
      exact ⟨r, Ev.bind (cdate_f i1) (ev_pos rfl (Ev.bind (ev_val (dated_f _ _ _)) (ev_pos (decide_eq_true c) (Ev.bind (ev_val (dated_f _ _ _)) k1)))),
        Ev.bind (rdate_f i1) (ev_pos rfl (Ev.bind (ev_val (rdate_b _ _ _)) (ev_pos (decide_eq_true c) (Ev.bind (ev_val (rdate_b _ _ _)) k2))))⟩
    · obtain ⟨r, k1, k2⟩ := j0_same x y m d true
      have cf : ¬ decide (Cv.IsDate 2004 (wrap64 (Int.tdiv x 100)) (Int.tmod x 100)) = true := by rw [decide_eq_false c]; exact Bool.false_ne_true
      exact ⟨r, Ev.bind (cdate_f i1) (ev_pos rfl (Ev.bind (ev_val (dated_f _ _ _)) (ev_neg cf k1))), Ev.bind (rdate_f i1) (ev_pos rfl (Ev.bind (ev_val (rdate_b _ _ _)) (ev_neg cf k2)))⟩
  · exact ⟨_, Ev.bind (cdate_no h) (ev_neg (errOf_ne h) (Ev.now _)), Ev.bind (rdate_no h) (ev_neg (errOf_ne h) (Ev.now _))⟩

/-! ### CivilWorks -/
theorem few_f (l : List Int) (a b n : Int) : ∃ t, letterbaglaw01_few.f l a b n = some t ∧ (t = true → l.length ≤ 60 ∧ n ≤ 1000) := by
  unfold letterbaglaw01_few.f
  by_cases c1 : (l.length : Int) ≤ 60
  · rw [if_pos c1]
    by_cases c2 : b ≤ wrap64 (a + 4000)
    · rw [if_pos c2]
      exact ⟨_, rfl, fun h => ⟨by omega, of_decide_eq_true h⟩⟩
    · rw [if_neg c2]
      exact ⟨_, rfl, fun h => absurd h Bool.false_ne_true⟩
  · rw [if_neg c1]
    exact ⟨_, rfl, fun h => absurd h Bool.false_ne_true⟩

theorem civilWorks_all (l : List Int) (a1 a2 a3 a4 a5 : Int) : Ev (fun k => letterbaglaw01_civilWorks.f k l a1 a2 a3 a4 a5) true := by
  obtain ⟨t, ht, hb⟩ := few_f l a1 a2 a3
  unfold letterbaglaw01_civilWorks.f
  refine Ev.bind (ev_val ht) ?_
  by_cases c : t = true
  · obtain ⟨hl, hn⟩ := hb c
    obtain ⟨i, i1, i2⟩ := ahead_same l (by omega) a1 a3 (by omega)
    obtain ⟨u, u1, u2⟩ := yearly_same a1 a4 a5
    refine ev_pos c (Ev.bind (cworks_f l a1 (by omega)) (Ev.bind (rWorks_f l a1 (by omega)) (Ev.bind (right_f l (by omega)) (Ev.bind (rright_f l (by omega)) ?_))))
    exact Ev.bind (ev_val (cbetween_f l a1 a2)) (Ev.bind (rbetween_f l (by omega) a1 a2) (Ev.bind i1 (Ev.bind i2 (Ev.bind u1 (Ev.bind u2 (ev_pos ⟨rfl, rfl, rfl, rfl, rfl⟩ (Ev.now _)))))))
  · exact ev_neg c (Ev.now _)

theorem works_all (l : List Int) (a1 a2 a3 a4 a5 : Int) : Ev (fun k => letterbaglaw01_CivilWorks.f k l a1 a2 a3 a4 a5) true := by
  unfold letterbaglaw01_CivilWorks.f
  exact Ev.bind awake_f (ev_pos rfl (Ev.bind (civilWorks_all l a1 a2 a3 a4 a5) (Ev.now _)))

end Go.Proofs.YtehnhedifhpalaaDoor.Cp
