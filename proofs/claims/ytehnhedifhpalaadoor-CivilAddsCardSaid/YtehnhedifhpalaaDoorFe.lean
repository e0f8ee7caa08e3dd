/- CivilAdds: the plain function of the law returns true at all lists and numbers. -/
import Derived.Test.YtehnhedifhpalaaDoorFc
import Derived.Test.YtehnhedifhpalaaDoorCp11
set_option linter.unusedVariables false
set_option linter.unusedSimpArgs false
namespace Go.Proofs.YtehnhedifhpalaaDoor.Cp
open Go.RowKit Go.Proofs.YtehnhedifhpalaaDoorW.PrintWords Go.Proofs.YtehnhedifhpalaaDoorW.PrintLast Go.Proofs.YtehnhedifhpalaaDoorW.PrintMore

theorem mx_max (a b : Int) : mx a b = max a b := by unfold mx; split <;> omega

theorem less_append (F G : List Int) (d : Int) : Cv.less (F ++ G) d = Cv.less F d + Cv.less G d := by
  unfold Cv.less
  rw [List.filter_append, List.length_append]

theorem free_append (H G : List Int) : Cv.freeOf (H ++ G) = Cv.freeOf H ++ Cv.freeOf G := by
  unfold Cv.freeOf
  rw [List.filter_append]

/-- A holiday more. -/
theorem below_snoc (H : List Int) (x d : Int) : Cv.below (H ++ [x]) d = Cv.below H d - if x % 7 < 5 ∧ x < d then 1 else 0 := by
  unfold Cv.below
  rw [free_append, less_append]
  have : (Cv.less (Cv.freeOf [x]) d : Int) = if x % 7 < 5 ∧ x < d then 1 else 0 := by
    unfold Cv.less Cv.freeOf
    by_cases c1 : x % 7 < 5
    · by_cases c2 : x < d <;> simp [c1, c2]
    · simp [c1]
  omega

theorem adds_j2 {H : List Int} (hr : rightB H = true) : Ev (fun k => letterbaglaw01_CivilAdds.j2 k H false) true := by
  refine Ev.step (fun k => letterbaglaw01_CivilAdds.j2.eq_2 _ _ k) (ev_neg Bool.false_ne_true ?_)
  obtain ⟨hR, hL⟩ := rightB_of hr
  rcases Cv.snoc_cases H with rfl | ⟨G, x, rfl⟩
  · exact ev_pos rfl (Ev.now _)
  · have hlen : (G ++ [x]).length = G.length + 1 := by simp
    have b1 : -10000000 ≤ ((G ++ [x]).length : Int) - 1 ∧ ((G ++ [x]).length : Int) - 1 ≤ 10000000 := by omega
    have e1 : ((G ++ [x]).length : Int) - 1 = ((G.length : Nat) : Int) := by omega
    have et : (G ++ [x]).take ((G.length : Nat) : Int).toNat = G := by simp
    have er : rd (G ++ [x]) ((G.length : Nat) : Int) = x := by simp [rd]
    have hx := hR.bd x (by simp)
    have hord := List.pairwise_append.1 hR.ord
    have hG : rightB G = true := rightB_mk hord.1 (fun d hd => hR.bd d (by simp [hd])) (by omega)
    have hxG : ∀ d ∈ G, d < x := fun d hd => hord.2.2 d hd x (by simp)
    have hnx : G.contains x = false := by
      rw [Bool.eq_false_iff]
      intro hc
      have := hxG x (by simpa using hc)
      omega
    have hw := cworks_f G x (len_small hG)
    rw [worksB_ok hG hx] at hw
    have hwk : Cv.wk G x = decide (x % 7 < 5) := by unfold Cv.wk; rw [hnx]; simp
    rw [hwk] at hw
    have c1 := Cv.below_cnt (rightB_of hG).1 (a := 0) 730484 (by decide)
    have c2 := Cv.below_cnt hR (a := 0) 730484 (by decide)
    rw [below_snoc, below_snoc] at c2
    rw [if_neg (show ¬ (x % 7 < 5 ∧ x < 0) by omega)] at c2
    have nn := Cv.cnt_nonneg (Cv.wk (G ++ [x])) 0 730484
    have le := Cv.cnt_le_len (Cv.wk (G ++ [x])) (show (0 : Int) ≤ 730484 by decide)
    have b2 : -10000000 ≤ Cv.cnt (Cv.wk (G ++ [x])) 0 730484 + 1 ∧ Cv.cnt (Cv.wk (G ++ [x])) 0 730484 + 1 ≤ 10000000 := by omega
    have z0 : wrap64 (wrap64 ((0 : Int) + 0) + 0) = 0 := by
      have z : wrap64 ((0 : Int) + 0) = 0 := wb (by decide)
      rw [z, z]
    have l0 : ¬ (((G ++ [x]).length : Int) = 0) := by omega
    have l1 : (0 : Int) ≤ ((G.length : Nat) : Int) := by omega
    have l2 : ((G.length : Nat) : Int) < ((G ++ [x]).length : Int) := by omega
    have l3 : ((G.length : Nat) : Int) ≤ ((G ++ [x]).length : Int) := by omega
    refine ev_neg l0 ?_
    rw [wb b1, e1, et, er]
    refine ev_pos l1 (ev_pos l2 (ev_pos l3 (Ev.bind (ev_val (cbetween_ok hG (by decide) (by decide) (by decide))) (Ev.bind (ev_val (cbetween_ok hr (by decide) (by decide) (by decide))) (Ev.bind hw (ev_pos z0 ?_))))))
    rw [wb b2]
    by_cases w : x % 7 < 5
    · refine ev_pos (decide_eq_true w) ?_
      by_cases e : x < 730484
      · rw [if_pos ⟨w, e⟩] at c2
        exact ev_pos e (ev_pos (show Cv.cnt (Cv.wk G) 0 730484 = _ by omega) (Ev.now _))
      · rw [if_neg (fun h => e h.2)] at c2
        refine ev_neg e (ev_pos (by omega) (ev_eq ?_ (Ev.now _)))
        rw [beq_iff_eq]; omega
    · rw [if_neg (fun h => w h.1)] at c2
      refine ev_neg (by rw [decide_eq_false w]; exact Bool.false_ne_true) (ev_eq ?_ (Ev.now _))
      rw [beq_iff_eq]; omega

theorem nil_right : rightB [] = true := rfl

theorem adds_l0 {H : List Int} (hr : rightB H = true) {a c : Int} (ha : 0 ≤ a) (hac : a ≤ c) (hc : c ≤ 730484) (m : Nat) : ∀ x : Int, a ≤ x → c - x ≤ m → Ev (fun k => letterbaglaw01_CivilAdds.l0 k a c H x) true := by
  have b7 : -10000000 ≤ a + 7 ∧ a + 7 ≤ 10000000 := by omega
  have z0 : wrap64 ((0 : Int) + 0) = 0 := wb (by decide)
  have last : ∀ x : Int, ¬ x < mn (wrap64 (a + 7)) c → Ev (fun k => letterbaglaw01_CivilAdds.l0 k a c H x) true := by
    intro x hx
    have n1 : -10000000 ≤ c - a ∧ c - a ≤ 10000000 := by omega
    have n2 : 0 ≤ c - a := by omega
    have n3 : -10000000 ≤ (c - a) / 7 ∧ (c - a) / 7 ≤ 10000000 := by omega
    have n4 : -10000000 ≤ (c - a) / 7 * 7 ∧ (c - a) / 7 * 7 ≤ 10000000 := by omega
    have n5 : -10000000 ≤ a + (c - a) / 7 * 7 ∧ a + (c - a) / 7 * 7 ≤ 10000000 := by omega
    have n6 : -10000000 ≤ (c - a) / 7 * 5 ∧ (c - a) / 7 * 5 ≤ 10000000 := by omega
    have hcnt : Cv.cnt (Cv.wk []) a (a + (c - a) / 7 * 7) = (c - a) / 7 * 5 := by
      rw [← Cv.below_cnt (rightB_of nil_right).1 (a := a) (a + (c - a) / 7 * 7) (by omega)]
      have e0 : ∀ d, Cv.below [] d = Cv.wdays d := by intro d; unfold Cv.below Cv.less Cv.freeOf; simp
      rw [e0, e0]
      unfold Cv.wdays
      omega
    refine Ev.step (fun k => letterbaglaw01_CivilAdds.l0.eq_2 _ _ _ _ k) (ev_neg hx ?_)
    rw [wb n1, Int.tdiv_eq_ediv_of_nonneg n2, wb n3, wb n4, wb n5, wb n6]
    refine Ev.bind (ev_val (cbetween_ok nil_right ha (by omega) (by omega))) (ev_pos rfl ?_)
    simp only [hcnt, bne_self_eq_false]
    exact adds_j2 hr
  induction m with
  | zero =>
    intro x hx hm
    refine last x ?_
    rw [mn_min]
    omega
  | succ m ih =>
    intro x hx hm
    by_cases h : x < mn (wrap64 (a + 7)) c
    · have h' : x < a + 7 ∧ x < c := by rw [mn_min, wb b7] at h; omega
      have n1 : -10000000 ≤ x + 1 ∧ x + 1 ≤ 10000000 := by omega
      have hw := cworks_f H x (len_small hr)
      rw [worksB_ok hr ⟨by omega, by omega⟩] at hw
      have hs := Cv.cnt_succ (Cv.wk H) (Int.le_refl x)
      rw [Cv.cnt_nil _ (Int.le_refl x)] at hs
      have hbt := cbetween_ok hr (a := x) (b := x + 1) (by omega) (by omega) (by omega)
      have ih1 := ih (x + 1) (by omega) (by omega)
      refine Ev.step (fun k => letterbaglaw01_CivilAdds.l0.eq_2 _ _ _ _ k) (ev_pos h (Ev.bind hw ?_))
      rw [wb n1]
      refine Ev.bind (ev_val hbt) (ev_pos z0 ?_)
      cases w : Cv.wk H x with
      | true =>
        rw [w] at hs
        simp only [if_true] at hs
        refine ev_neg (by rw [hs]; decide) (ev_neg (by omega) (ev_neg (by omega) ih1))
      | false =>
        rw [w] at hs
        simp only [Bool.false_eq_true, if_false] at hs
        refine ev_neg (by rw [hs]; decide) (ev_neg (by omega) (ev_neg (by omega) ih1))
    · exact last x h

theorem adds_all (l : List Int) (a1 a2 a3 : Int) (hb : ∀ x ∈ l, 0 ≤ x ∧ x ≤ 65535) : Ev (fun k => letterbaglaw01_CivilAdds.f k l a1 a2 a3) true := by
  obtain ⟨H, hr, hl⟩ := list_f l hb
  obtain ⟨a, p, p0, p1⟩ := day_in a1
  obtain ⟨b, q, q0, q1⟩ := day_in a2
  obtain ⟨c, r, r0, r1⟩ := day_in a3
  have z0 : wrap64 (wrap64 ((0 : Int) + 0) + 0) = 0 := by
    have z : wrap64 ((0 : Int) + 0) = 0 := wb (by decide)
    rw [z, z]
  obtain ⟨x, hx⟩ : ∃ x, x = mn (mn a b) (mn (mx a b) c) := ⟨_, rfl⟩
  obtain ⟨y, hy⟩ : ∃ y, y = mx (mn a b) (mn (mx a b) c) := ⟨_, rfl⟩
  obtain ⟨z, hz⟩ : ∃ z, z = mx (mx a b) c := ⟨_, rfl⟩
  have ord : 0 ≤ x ∧ x ≤ y ∧ y ≤ z ∧ z ≤ 730484 := by
    simp only [mn_min, mx_max] at hx hy hz
    omega
  unfold letterbaglaw01_CivilAdds.f
  refine Ev.bind awake_f (ev_pos rfl (Ev.bind hl (Ev.bind (ev_val p) (Ev.bind (ev_val q) (Ev.bind (ev_val r) ?_)))))
  rw [← hx, ← hy, ← hz]
  have hsum := Cv.cnt_split (Cv.wk H) ord.2.1 z ord.2.2.1
  have nn := Cv.cnt_nonneg (Cv.wk H) x z
  have le := Cv.cnt_le_len (Cv.wk H) (show x ≤ z by omega)
  have bs : -10000000 ≤ Cv.cnt (Cv.wk H) x z ∧ Cv.cnt (Cv.wk H) x z ≤ 10000000 := by omega
  refine Ev.bind (ev_val (cbetween_ok hr ord.1 ord.2.1 (by omega))) (Ev.bind (ev_val (cbetween_ok hr (by omega) ord.2.2.1 ord.2.2.2)) (Ev.bind (ev_val (cbetween_ok hr ord.1 (by omega) ord.2.2.2)) (ev_pos z0 ?_)))
  simp only [← hsum, wb bs, bne_self_eq_false]
  exact Ev.step (fun k => letterbaglaw01_CivilAdds.j0.eq_2 _ _ _ _ k) (ev_neg Bool.false_ne_true (adds_l0 hr ord.1 (by omega) ord.2.2.2 (z - x).toNat x (Int.le_refl x) (by omega)))

end Go.Proofs.YtehnhedifhpalaaDoor.Cp
