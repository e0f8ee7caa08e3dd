/- Leap, long, date, Day, Date, digits and texts of dates of the reference. -/
import Derived.Test.YtehnhedifhpalaaDoorCp6
import Derived.Test.YtehnhedifhpalaaDoorRz
import Derived.Test.YtehnhedifhpalaaDoorCv
set_option linter.unusedVariables false
set_option linter.unusedSimpArgs false
namespace Go.Proofs.YtehnhedifhpalaaDoor.Cp
open Go.RowKit Go.Proofs.YtehnhedifhpalaaDoorW.PrintWords Go.Proofs.YtehnhedifhpalaaDoorW.PrintLast Go.Proofs.YtehnhedifhpalaaDoorW.PrintMore

theorem rleap_f {y : Int} (h : 0 ≤ y) : letterbagref01_Leap.f y = some (decide (Cv.leap y)) := by
  unfold letterbagref01_Leap.f
  rw [Int.tmod_eq_emod_of_nonneg h, Int.tmod_eq_emod_of_nonneg h, Int.tmod_eq_emod_of_nonneg h]
  by_cases c4 : y % 400 = 0
  · rw [if_pos c4, decide_eq_true (show Cv.leap y by unfold Cv.leap; omega)]
  · rw [if_neg c4]
    by_cases c : y % 4 = 0
    · rw [if_pos c]
      by_cases c1 : y % 100 = 0
      · rw [decide_eq_false (show ¬ Cv.leap y by unfold Cv.leap; omega), c1]; rfl
      · rw [decide_eq_true (show Cv.leap y by unfold Cv.leap; omega), bne_iff_ne.mpr c1]
    · rw [if_neg c, decide_eq_false (show ¬ Cv.leap y by unfold Cv.leap; omega)]

theorem rlong_f {y m : Int} (hy : 0 ≤ y) (h1 : 1 ≤ m) (h2 : m ≤ 12) : letterbagref01_long.f y m = some (Cv.mlen y m) := by
  unfold letterbagref01_long.f
  rw [rleap_f hy]
  by_cases l : Cv.leap y
  · rw [decide_eq_true l]
    rcases Cv.month_cases h1 h2 with rfl | rfl | rfl | rfl | rfl | rfl | rfl | rfl | rfl | rfl | rfl | rfl <;> simp [Cv.mlen, Cv.fst, Cv.ah, Cv.lp, l]
  · rw [decide_eq_false l]
    rcases Cv.month_cases h1 h2 with rfl | rfl | rfl | rfl | rfl | rfl | rfl | rfl | rfl | rfl | rfl | rfl <;> simp [Cv.mlen, Cv.fst, Cv.ah, Cv.lp, l]

theorem rdate_b (y m d : Int) : letterbagref01_date.f y m d = some (decide (Cv.IsDate y m d)) := by
  unfold letterbagref01_date.f
  have no : ∀ {p : Prop}, ¬ Cv.IsDate y m d → (some false : Option Bool) = some (decide (Cv.IsDate y m d)) := fun h => by rw [decide_eq_false h]
  by_cases c1 : y ≥ 2001
  · rw [if_pos c1]
    by_cases c2 : y ≤ 4000
    · rw [if_pos c2]
      by_cases c3 : m ≥ 1
      · rw [if_pos c3]
        by_cases c4 : m ≤ 12
        · rw [if_pos c4]
          by_cases c5 : d ≥ 1
          · rw [if_pos c5, rlong_f (by omega) (by omega) (by omega)]
            simp only [Option.bind_some]
            congr 1
            rw [decide_eq_decide]
            constructor
            · intro h; exact ⟨c1, c2, c3, c4, c5, h⟩
            · intro h; exact h.d2
          · rw [if_neg c5]; exact no (p := True) (fun h => c5 h.d1)
        · rw [if_neg c4]; exact no (p := True) (fun h => c4 h.m2)
      · rw [if_neg c3]; exact no (p := True) (fun h => c3 h.m1)
    · rw [if_neg c2]; exact no (p := True) (fun h => c2 h.y2)
  · rw [if_neg c1]; exact no (p := True) (fun h => c1 h.y1)

theorem rday_l1 {y m : Int} (hy : 2001 ≤ y) (hm : m ≤ 12) (d : Nat) : ∀ (j n : Int), 1 ≤ j → j ≤ m → m - j = d → (0 ≤ n ∧ n ≤ 1000000) →
    Ev (fun k => letterbagref01_Day.l1 k y m (n + Cv.fst y j) j) (n + Cv.fst y m, 0) := by
  induction d with
  | zero =>
    intro j n h1 h2 hd hn
    obtain rfl : j = m := by omega
    exact Ev.step (fun k => letterbagref01_Day.l1.eq_2 _ _ _ _ k) (ev_neg (by omega) (Ev.now _))
  | succ d ih =>
    intro j n h1 h2 hd hn
    have hb := Cv.fst_bd y (m := j) h1 (by omega)
    have hb2 := Cv.mlen_bd y (m := j) h1 (by omega)
    have e1 := Cv.fst_succ y j
    have q0 : -10000000 ≤ j + 1 ∧ j + 1 ≤ 10000000 := by omega
    have q1 : -10000000 ≤ n + Cv.fst y j + Cv.mlen y j ∧ n + Cv.fst y j + Cv.mlen y j ≤ 10000000 := by omega
    refine Ev.step (fun k => letterbagref01_Day.l1.eq_2 _ _ _ _ k) (ev_pos (by omega) ?_)
    refine Ev.bind (ev_val (rlong_f (by omega) h1 (by omega))) ?_
    rw [wb q0, wb q1]
    rw [show n + Cv.fst y j + Cv.mlen y j = n + Cv.fst y (j + 1) by omega]
    exact ih (j + 1) n (by omega) (by omega) (by omega) hn

theorem rday_l0 {y m : Int} (hy2 : y ≤ 4000) (h1 : 1 ≤ m) (h2 : m ≤ 12) (c : Int) (hc : 0 ≤ c ∧ c ≤ 31) (d : Nat) : ∀ (z : Int), 2001 ≤ z → z ≤ y → y - z = d →
    Ev (fun k => letterbagref01_Day.l0 k y m (Cv.ys z + c) z) (Cv.ys y + c + Cv.fst y m, 0) := by
  induction d with
  | zero =>
    intro z hz hzy hd
    obtain rfl : z = y := by omega
    have b1 := Cv.ys_mono hz
    have b2 := Cv.ys_mono (show z ≤ 4001 by omega)
    rw [Cv.ys_2001] at b1
    rw [Cv.ys_4001] at b2
    refine Ev.step (fun k => letterbagref01_Day.l0.eq_2 _ _ _ _ k) (ev_neg (by omega) ?_)
    have := rday_l1 (y := z) (m := m) hz h2 (m - 1).toNat 1 (Cv.ys z + c) (by omega) h1 (by omega) (by omega)
    rw [Cv.fst_1, Int.add_zero] at this
    exact this
  | succ d ih =>
    intro z hz hzy hd
    have b1 := Cv.ys_mono hz
    have b2 := Cv.ys_mono (show z ≤ 4001 by omega)
    rw [Cv.ys_2001] at b1
    rw [Cv.ys_4001] at b2
    have e1 := Cv.ys_succ z
    have ih1 := ih (z + 1) (by omega) (by omega) (by omega)
    have q0 : -10000000 ≤ z + 1 ∧ z + 1 ≤ 10000000 := by omega
    have q1 : -10000000 ≤ Cv.ys z + c + 365 ∧ Cv.ys z + c + 365 ≤ 10000000 := by omega
    have q2 : -10000000 ≤ Cv.ys z + c + 365 + 1 ∧ Cv.ys z + c + 365 + 1 ≤ 10000000 := by omega
    refine Ev.step (fun k => letterbagref01_Day.l0.eq_2 _ _ _ _ k) (ev_pos (by omega) ?_)
    refine Ev.bind (ev_val (rleap_f (by omega))) ?_
    rw [wb q0, wb q1, wb q2]
    unfold Cv.lp at e1
    by_cases l : Cv.leap z
    · rw [if_pos l] at e1
      refine ev_pos (decide_eq_true l) ?_
      rw [show Cv.ys z + c + 365 + 1 = Cv.ys (z + 1) + c by omega]
      exact ih1
    · rw [if_neg l] at e1
      refine ev_neg (by rw [decide_eq_false l]; exact Bool.false_ne_true) ?_
      rw [show Cv.ys z + c + 365 = Cv.ys (z + 1) + c by omega]
      exact ih1

theorem rday_f {y m d : Int} (h : Cv.IsDate y m d) : Ev (fun k => letterbagref01_Day.f k y m d) (Cv.dayOf y m d, 0) := by
  unfold letterbagref01_Day.f
  have hb := Cv.mlen_bd y h.m1 h.m2
  have h1 := h.y1; have h2 := h.y2; have h5 := h.d1; have h6 := h.d2
  have q0 : -10000000 ≤ d - 1 ∧ d - 1 ≤ 10000000 := by omega
  refine Ev.bind (ev_val (rdate_b y m d)) (ev_pos (decide_eq_true h) ?_)
  rw [wb q0]
  have := rday_l0 (y := y) (m := m) h2 h.m1 h.m2 (d - 1) (by omega) (y - 2001).toNat 2001 (by omega) h1 (by omega)
  rw [Cv.ys_2001, Int.zero_add] at this
  refine ev_eq ?_ this
  unfold Cv.dayOf
  congr 1
  omega

theorem rday_no {y m d : Int} (h : ¬ Cv.IsDate y m d) : Ev (fun k => letterbagref01_Day.f k y m d) (0, 10) := by
  unfold letterbagref01_Day.f
  exact Ev.bind (ev_val (rdate_b y m d)) (ev_neg (by rw [decide_eq_false h]; exact Bool.false_ne_true) (Ev.now _))

theorem rdate_l1 {y u : Int} (hy : 0 ≤ y) (hu : u < Cv.fst y 13) (d : Nat) : ∀ m : Int, 1 ≤ m → m ≤ 12 → 12 - m = d → Cv.fst y m ≤ u →
    ∃ n, (1 ≤ n ∧ n ≤ 12) ∧ Cv.fst y n ≤ u ∧ u < Cv.fst y (n + 1) ∧ Ev (fun k => letterbagref01_Date.l1 k (u - Cv.fst y m) y m) (y, n, u - Cv.fst y n + 1, 0) := by
  induction d with
  | zero =>
    intro m h1 h2 hd hf
    obtain rfl : m = 12 := by omega
    refine ⟨12, by omega, hf, hu, ?_⟩
    have hb := Cv.fst_bd y (m := 12) (by decide) (by decide)
    have hb2 := Cv.fst_bd y (m := 13) (by decide) (by decide)
    have e1 : Cv.fst y 13 = Cv.fst y 12 + Cv.mlen y 12 := Cv.fst_succ y 12
    have q : -10000000 ≤ u - Cv.fst y 12 + 1 ∧ u - Cv.fst y 12 + 1 ≤ 10000000 := by omega
    refine Ev.step (fun k => letterbagref01_Date.l1.eq_2 _ _ _ k) ?_
    refine Ev.bind (ev_val (rlong_f hy (by decide) (by decide))) (ev_neg (by omega) (ev_eq ?_ (Ev.now _)))
    rw [wb q]
  | succ d ih =>
    intro m h1 h2 hd hf
    have hb := Cv.fst_bd y (m := m) h1 (by omega)
    have hb2 := Cv.fst_bd y (m := m + 1) (by omega) (by omega)
    have hb3 := Cv.fst_bd y (m := 13) (by decide) (by decide)
    have e1 := Cv.fst_succ y m
    have q0 : -10000000 ≤ m + 1 ∧ m + 1 ≤ 10000000 := by omega
    have q1 : -10000000 ≤ u - Cv.fst y m - Cv.mlen y m ∧ u - Cv.fst y m - Cv.mlen y m ≤ 10000000 := by omega
    have q2 : -10000000 ≤ u - Cv.fst y m + 1 ∧ u - Cv.fst y m + 1 ≤ 10000000 := by omega
    by_cases c : u ≥ Cv.fst y (m + 1)
    · obtain ⟨n, k1, k2, k3, k4⟩ := ih (m + 1) (by omega) (by omega) (by omega) c
      refine ⟨n, k1, k2, k3, Ev.step (fun k => letterbagref01_Date.l1.eq_2 _ _ _ k) ?_⟩
      refine Ev.bind (ev_val (rlong_f hy (by omega) (by omega))) (ev_pos (by omega) (Ev.bind (ev_val (rlong_f hy (by omega) (by omega))) ?_))
      rw [wb q0, wb q1, show u - Cv.fst y m - Cv.mlen y m = u - Cv.fst y (m + 1) by omega]
      exact k4
    · refine ⟨m, ⟨h1, h2⟩, hf, by omega, Ev.step (fun k => letterbagref01_Date.l1.eq_2 _ _ _ k) ?_⟩
      refine Ev.bind (ev_val (rlong_f hy (by omega) (by omega))) (ev_neg (by omega) (ev_eq ?_ (Ev.now _)))
      rw [wb q2]

theorem rdate_l0 {a : Int} (h : 0 ≤ a ∧ a ≤ 730484) (d : Nat) : ∀ z : Int, 2001 ≤ z → 4001 - z = d → Cv.ys z ≤ a →
    ∃ y m k, Cv.IsDate y m k ∧ Cv.dayOf y m k = a ∧ Ev (fun n => letterbagref01_Date.l0 n (a - Cv.ys z) z 1) (y, m, k, 0) := by
  induction d with
  | zero =>
    intro z h1 h2 hz
    obtain rfl : z = 4001 := by omega
    rw [Cv.ys_4001] at hz
    omega
  | succ d ih =>
    intro z h1 h2 hz
    have e1 := Cv.ys_succ z
    have b0 := Cv.ys_mono h1
    rw [Cv.ys_2001] at b0
    have l01 := Cv.lp_01 z
    have go : a < Cv.ys (z + 1) → ∃ y m k, Cv.IsDate y m k ∧ Cv.dayOf y m k = a ∧ Ev (fun n => letterbagref01_Date.j1 n (a - Cv.ys z) z 1) (y, m, k, 0) := by
      intro hlt
      obtain ⟨n, n1, n2, n3, hE⟩ := rdate_l1 (y := z) (u := a - Cv.ys z) (by omega) (by rw [Cv.fst_13]; omega) 11 1 (by decide) (by decide) (by decide) (by rw [Cv.fst_1]; omega)
      obtain ⟨i1, i2⟩ := Cv.month_of n1.1 n1.2 n2 n3 h1 (by omega)
      rw [Cv.fst_1, Int.sub_zero] at hE
      exact ⟨z, n, _, i1, by rw [i2]; omega, Ev.step (fun k => letterbagref01_Date.j1.eq_2 _ _ _ k) hE⟩
    have q0 : -10000000 ≤ z + 1 ∧ z + 1 ≤ 10000000 := by omega
    have q1 : -10000000 ≤ a - Cv.ys z - 366 ∧ a - Cv.ys z - 366 ≤ 10000000 := by omega
    have q2 : -10000000 ≤ a - Cv.ys z - 365 ∧ a - Cv.ys z - 365 ≤ 10000000 := by omega
    have lpe : Cv.lp z = if Cv.leap z then 1 else 0 := rfl
    by_cases c : a < Cv.ys (z + 1)
    · obtain ⟨y, m, k, k1, k2, k3⟩ := go c
      refine ⟨y, m, k, k1, k2, Ev.step (fun k => letterbagref01_Date.l0.eq_2 _ _ _ k) ?_⟩
      refine Ev.bind (ev_val (rleap_f (by omega))) ?_
      by_cases l : Cv.leap z
      · rw [if_pos l] at lpe
        exact ev_pos (decide_eq_true l) (ev_pos (by omega) k3)
      · rw [if_neg l] at lpe
        exact ev_neg (by rw [decide_eq_false l]; exact Bool.false_ne_true) (ev_pos (by omega) k3)
    · obtain ⟨y, m, k, k1, k2, k3⟩ := ih (z + 1) (by omega) (by omega) (by omega)
      refine ⟨y, m, k, k1, k2, Ev.step (fun k => letterbagref01_Date.l0.eq_2 _ _ _ k) ?_⟩
      refine Ev.bind (ev_val (rleap_f (by omega))) ?_
      rw [wb q0, wb q1, wb q2]
      by_cases l : Cv.leap z
      · rw [if_pos l] at lpe
        refine ev_pos (decide_eq_true l) (ev_neg (by omega) ?_)
        rw [show a - Cv.ys z - 366 = a - Cv.ys (z + 1) by omega]
        exact k3
      · rw [if_neg l] at lpe
        refine ev_neg (by rw [decide_eq_false l]; exact Bool.false_ne_true) (ev_neg (by omega) ?_)
        rw [show a - Cv.ys z - 365 = a - Cv.ys (z + 1) by omega]
        exact k3

theorem rdate_f {y m k : Int} (h : Cv.IsDate y m k) : Ev (fun n => letterbagref01_Date.f n (Cv.dayOf y m k)) (y, m, k, 0) := by
  have hd := (Cv.dayOf_bd h).2.2
  obtain ⟨y', m', k', i1, i2, i3⟩ := rdate_l0 hd 2000 2001 (by decide) (by decide) (by rw [Cv.ys_2001]; exact hd.1)
  obtain ⟨rfl, rfl, rfl⟩ := Cv.dayOf_inj i1 h i2
  rw [Cv.ys_2001, Int.sub_zero] at i3
  unfold letterbagref01_Date.f
  exact Ev.bind (ev_val (r := 0) (by unfold letterbagref01_within.f; rw [if_neg (by omega), if_neg (by omega)])) (ev_pos rfl i3)

theorem rwithin_f (n most : Int) : letterbagref01_within.f n most = some (errOf n most) := by unfold letterbagref01_within.f errOf; split <;> (try split) <;> rfl

theorem rdate_no {a : Int} (h : ¬ (0 ≤ a ∧ a ≤ 730484)) : Ev (fun n => letterbagref01_Date.f n a) (0, 0, 0, errOf a 730484) := by
  unfold letterbagref01_Date.f
  exact Ev.bind (ev_val (rwithin_f a _)) (ev_neg (errOf_ne h) (Ev.now _))

theorem rdigits_l0 (many : Int) (d : Nat) : ∀ (i x : Int) (l : List Int), 0 ≤ i → many ≤ 100 → many - i = d → (0 ≤ x ∧ x ≤ 1000000) → l.length ≤ i.toNat →
    Ev (fun k => letterbagref01_digits.l0 k x many (strOfNums l) i) (strOfNums (Cv.dig d x ++ l)) := by
  induction d with
  | zero =>
    intro i x l h0 hm hd hx hl
    exact Ev.step (fun k => letterbagref01_digits.l0.eq_2 _ _ _ _ k) (ev_neg (by omega) (Ev.now _))
  | succ d ih =>
    intro i x l h0 hm hd hx hl
    have q0 : -10000000 ≤ i + 1 ∧ i + 1 ≤ 10000000 := by omega
    have q1 : -10000000 ≤ x / 10 ∧ x / 10 ≤ 10000000 := by omega
    have q2 : -10000000 ≤ 48 + x % 10 ∧ 48 + x % 10 ≤ 10000000 := by omega
    have e1 : (48 + x % 10) % 256 = 48 + x % 10 := by omega
    have ih1 := ih (i + 1) (x / 10) ((48 + x % 10) :: l) (by omega) hm (by omega) (by omega) (by simp only [List.length_cons]; omega)
    refine Ev.step (fun k => letterbagref01_digits.l0.eq_2 _ _ _ _ k) (ev_pos (by omega) ?_)
    rw [Int.tmod_eq_emod_of_nonneg hx.1, Int.tdiv_eq_ediv_of_nonneg hx.1, wb q0, wb q1, wb q2, e1]
    simp only [Option.bind_some]
    rw [strOfNums_size, strOfNums_size]
    refine ev_pos (by simp only [List.length_cons, List.length_nil]; omega) ?_
    rw [str_append]
    refine ev_eq ?_ ih1
    rw [Cv.dig, List.append_assoc]; rfl

theorem rdigits_f {n : Int} (hn : 0 ≤ n ∧ n ≤ 1000000) (many : Nat) (hm : many ≤ 100) : Ev (fun k => letterbagref01_digits.f k n many) (strOfNums (Cv.dig many n)) := by
  have := rdigits_l0 many many 0 n [] (by decide) (by omega) (by omega) hn (by simp)
  rw [List.append_nil] at this
  exact this

theorem dash_eq : (⟨#[45]⟩ : ByteArray) = strOfNums [45] := rfl

theorem rtext_f {y m d : Int} (h : Cv.IsDate y m d) : Ev (fun k => letterbagref01_Text.f k (Cv.dayOf y m d)) (strOfNums (Cv.dtext y m d), 0) := by
  obtain ⟨hy, hm, hd⟩ := date_nat h
  unfold letterbagref01_Text.f
  refine Ev.bind (rdate_f h) (ev_pos rfl (Ev.bind (rdigits_f hy 4 (by decide)) ?_))
  simp only [dash_eq, str_append, strOfNums_size, List.length_append, Cv.dig_len, List.length_cons, List.length_nil]
  refine ev_pos (by decide) (Ev.bind (rdigits_f hm 2 (by decide)) ?_)
  simp only [dash_eq, str_append, strOfNums_size, List.length_append, Cv.dig_len, List.length_cons, List.length_nil]
  refine ev_pos (by decide) (ev_pos (by decide) (Ev.bind (rdigits_f hd 2 (by decide)) ?_))
  simp only [dash_eq, str_append, strOfNums_size, List.length_append, Cv.dig_len, List.length_cons, List.length_nil]
  refine ev_pos (by decide) (ev_eq ?_ (Ev.now _))
  unfold Cv.dtext
  simp

theorem rtext_no {a : Int} (h : ¬ (0 ≤ a ∧ a ≤ 730484)) : Ev (fun k => letterbagref01_Text.f k a) (strOfNums [], errOf a 730484) := by
  unfold letterbagref01_Text.f
  exact Ev.bind (rdate_no h) (ev_neg (errOf_ne h) (ev_eq rfl (Ev.now _)))

end Go.Proofs.YtehnhedifhpalaaDoor.Cp
