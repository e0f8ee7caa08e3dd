/- Texts of times are read as what they are texts of, and are in their order; CivilWrites returns true at any two numbers. -/
import Derived.Test.YtehnhedifhpalaaDoorRc
import Derived.Test.YtehnhedifhpalaaDoorRz
import Derived.Test.YtehnhedifhpalaaDoorPk
import Derived.Test.YtehnhedifhpalaaDoorCi
import Derived.Test.YtehnhedifhpalaaDoorCp18
set_option linter.unusedVariables false
set_option linter.unusedSimpArgs false
namespace Go.Proofs.YtehnhedifhpalaaDoor.Cp
open Go.RowKit Go.Proofs.YtehnhedifhpalaaDoorW.PrintWords Go.Proofs.YtehnhedifhpalaaDoorW.PrintLast Go.Proofs.YtehnhedifhpalaaDoorW.PrintMore

/-! ### the order of days is that of dates -/
theorem lt_of_lex {y m d z n e : Int} (h : Cv.IsDate y m d) (h' : Cv.IsDate z n e) (k : y < z ∨ y = z ∧ (m < n ∨ m = n ∧ d < e)) : Cv.dayOf y m d < Cv.dayOf z n e := by
  have b1 := Cv.dayOf_bd h
  have b2 := Cv.dayOf_bd h'
  rcases k with k | ⟨rfl, k | ⟨rfl, k⟩⟩
  · have := Cv.ys_mono (show y + 1 ≤ z by omega)
    omega
  · have := Cv.fst_mono y (a := m + 1) (b := n) (by have := h.m1; omega) (by omega) (by have := h'.m2; omega)
    have s1 := Cv.fst_succ y m
    have := h.d2; have := h'.d1
    unfold Cv.dayOf
    omega
  · unfold Cv.dayOf
    omega

theorem dayOf_lt {y m d z n e : Int} (h : Cv.IsDate y m d) (h' : Cv.IsDate z n e) : Cv.dayOf y m d < Cv.dayOf z n e ↔ (y < z ∨ y = z ∧ (m < n ∨ m = n ∧ d < e)) := by
  refine ⟨fun hl => Classical.byContradiction fun hc => ?_, lt_of_lex h h'⟩
  rcases (show (z < y ∨ z = y ∧ (n < m ∨ n = m ∧ e < d)) ∨ (y = z ∧ m = n ∧ d = e) by omega) with k | ⟨rfl, rfl, rfl⟩
  · have := lt_of_lex h' h k
    omega
  · omega

theorem dayOf_eq {y m d z n e : Int} (h : Cv.IsDate y m d) (h' : Cv.IsDate z n e) : Cv.dayOf y m d = Cv.dayOf z n e ↔ (y = z ∧ m = n ∧ d = e) :=
  ⟨fun k => Cv.dayOf_inj h h' k, by rintro ⟨rfl, rfl, rfl⟩; rfl⟩

/-! ### the order of texts -/
theorem lt_dig_app (k : Nat) {a b : Int} (ha : 0 ≤ a ∧ a < Cv.ten k) (hb : 0 ≤ b ∧ b < Cv.ten k) (s t : List Int) :
    Cv.lt (Cv.dig k a ++ s) (Cv.dig k b ++ t) = (decide (a < b) || (decide (a = b) && Cv.lt s t)) := by
  rw [Cv.lt_append (by rw [Cv.dig_len, Cv.dig_len]), Cv.lt_dig k a b ha.1 ha.2 hb.1 hb.2]
  have e : decide (Cv.dig k a = Cv.dig k b) = decide (a = b) := by
    rw [decide_eq_decide]
    exact ⟨fun h => Cv.dig_inj ha.1 ha.2 hb.1 hb.2 h, fun h => by rw [h]⟩
  rw [e]

theorem lt_cons (c : Int) (s t : List Int) : Cv.lt (c :: s) (c :: t) = Cv.lt s t := by simp [Cv.lt]

theorem ten2 : Cv.ten 2 = 100 := by decide
theorem ten4 : Cv.ten 4 = 10000 := by decide

theorem date_ten {y m d : Int} (h : Cv.IsDate y m d) : (0 ≤ y ∧ y < Cv.ten 4) ∧ (0 ≤ m ∧ m < Cv.ten 2) ∧ 0 ≤ d ∧ d < Cv.ten 2 := by
  rw [ten2, ten4]
  have := Cv.mlen_bd y h.m1 h.m2
  have := h.y1; have := h.y2; have := h.m1; have := h.m2; have := h.d1; have := h.d2
  omega

theorem ttext_lt {y m d z n e a b : Int} (h : Cv.IsDate y m d) (h' : Cv.IsDate z n e) (ha : 0 ≤ a) (hb : 0 ≤ b) (ea : a / 1440 = Cv.dayOf y m d) (eb : b / 1440 = Cv.dayOf z n e) :
    Cv.lt (Cv.ttext y m d (a % 1440 / 60) (a % 1440 % 60)) (Cv.ttext z n e (b % 1440 / 60) (b % 1440 % 60)) = decide (a < b) := by
  obtain ⟨y1, m1, d1⟩ := date_ten h
  obtain ⟨z1, n1, e1⟩ := date_ten h'
  have h1 : 0 ≤ a % 1440 / 60 ∧ a % 1440 / 60 < Cv.ten 2 := by rw [ten2]; omega
  have h2 : 0 ≤ b % 1440 / 60 ∧ b % 1440 / 60 < Cv.ten 2 := by rw [ten2]; omega
  have i1 : 0 ≤ a % 1440 % 60 ∧ a % 1440 % 60 < Cv.ten 2 := by rw [ten2]; omega
  have i2 : 0 ≤ b % 1440 % 60 ∧ b % 1440 % 60 < Cv.ten 2 := by rw [ten2]; omega
  have l1 := dayOf_lt h h'
  have l2 := dayOf_eq h h'
  rw [← ea, ← eb] at l1 l2
  have last := Cv.lt_dig 2 _ _ i1.1 i1.2 i2.1 i2.2
  unfold Cv.ttext Cv.dtext
  simp only [List.append_assoc, List.cons_append]
  rw [lt_dig_app 4 y1 z1, lt_cons, lt_dig_app 2 m1 n1, lt_cons, lt_dig_app 2 d1 e1, lt_cons, lt_dig_app 2 h1 h2, lt_cons, last, Bool.eq_iff_iff]
  simp only [Bool.or_eq_true, Bool.and_eq_true, decide_eq_true_eq]
  clear last ea eb h h' y1 m1 d1 z1 n1 e1
  by_cases c1 : a / 1440 < b / 1440
  · have k := l1.1 c1
    refine ⟨fun _ => by omega, fun _ => ?_⟩
    rcases k with k | ⟨k1, k | ⟨k2, k⟩⟩
    · exact .inl k
    · exact .inr ⟨k1, .inl k⟩
    · exact .inr ⟨k1, .inr ⟨k2, .inl k⟩⟩
  · by_cases c2 : a / 1440 = b / 1440
    · obtain ⟨k1, k2, k3⟩ := l2.1 c2
      constructor
      · rintro (k | ⟨_, k | ⟨_, k | ⟨_, k | ⟨k4, k⟩⟩⟩⟩) <;> omega
      · intro hl
        exact .inr ⟨k1, .inr ⟨k2, .inr ⟨k3, by omega⟩⟩⟩
    · constructor
      · intro hk
        exfalso
        rcases hk with k | ⟨k1, k | ⟨k2, k | ⟨k3, k⟩⟩⟩
        · exact c1 (l1.2 (.inl k))
        · exact c1 (l1.2 (.inr ⟨k1, .inl k⟩))
        · exact c1 (l1.2 (.inr ⟨k1, .inr ⟨k2, k⟩⟩))
        · exact c2 (l2.2 ⟨k1, k2, k3⟩)
      · intro hl; omega

theorem less_lt : ∀ l m : List UInt8, Op.bytesLess l m = Cv.lt (l.map fun b => (b.toNat : Int)) (m.map fun b => (b.toNat : Int)) := by
  intro l
  induction l with
  | nil => intro m; cases m <;> simp [Op.bytesLess, Cv.lt]
  | cons a l ih =>
    intro m
    cases m with
    | nil => simp [Op.bytesLess, Cv.lt]
    | cons b m =>
      simp only [Op.bytesLess, Cv.lt, List.map_cons, ih]
      have e1 : decide (a < b) = decide ((a.toNat : Int) < (b.toNat : Int)) := by
        rw [decide_eq_decide, UInt8.lt_iff_toNat_lt]; omega
      have e2 : (a == b) = decide ((a.toNat : Int) = (b.toNat : Int)) := by
        rw [Bool.eq_iff_iff, beq_iff_eq, decide_eq_true_eq, ← UInt8.toNat_inj]; omega
      rw [e1, e2]

/-! ### texts are read back -/
theorem text_bd {y m d : Int} : ∀ b ∈ Cv.dtext y m d, 0 ≤ b ∧ b ≤ 255 := by
  intro b hb
  unfold Cv.dtext at hb
  simp only [List.mem_append, List.mem_cons] at hb
  rcases hb with hb | rfl | hb | rfl | hb
  · have := Cv.dig_is _ _ _ hb; unfold Cv.isDig at this; omega
  · omega
  · have := Cv.dig_is _ _ _ hb; unfold Cv.isDig at this; omega
  · omega
  · have := Cv.dig_is _ _ _ hb; unfold Cv.isDig at this; omega

theorem ttext_bd {y m d h i : Int} : ∀ b ∈ Cv.ttext y m d h i, 0 ≤ b ∧ b ≤ 255 := by
  intro b hb
  unfold Cv.ttext at hb
  simp only [List.mem_append, List.mem_cons] at hb
  rcases hb with hb | rfl | hb | rfl | hb
  · exact text_bd b hb
  · omega
  · have := Cv.dig_is _ _ _ hb; unfold Cv.isDig at this; omega
  · omega
  · have := Cv.dig_is _ _ _ hb; unfold Cv.isDig at this; omega

theorem allDig_dig (k : Nat) (n : Int) : allDig (Cv.dig k n) = true := allDig_iff.2 (Cv.dig_is k n)

theorem text_parts (y m d : Int) : (Cv.dtext y m d).take 4 = Cv.dig 4 y ∧ ((Cv.dtext y m d).take 7).drop 5 = Cv.dig 2 m ∧ (Cv.dtext y m d).drop 8 = Cv.dig 2 d ∧ (Cv.dtext y m d).getD 4 0 = 45 ∧ (Cv.dtext y m d).getD 7 0 = 45 := ⟨rfl, rfl, rfl, rfl, rfl⟩

theorem ttext_parts (y m d h i : Int) : (Cv.ttext y m d h i).take 10 = Cv.dtext y m d ∧ ((Cv.ttext y m d h i).take 13).drop 11 = Cv.dig 2 h ∧ (Cv.ttext y m d h i).drop 14 = Cv.dig 2 i ∧ (Cv.ttext y m d h i).getD 10 0 = 32 ∧ (Cv.ttext y m d h i).getD 13 0 = 58 := ⟨rfl, rfl, rfl, rfl, rfl⟩

theorem text_num {y m d : Int} (h : Cv.IsDate y m d) : Cv.num (Cv.dig 4 y) = y ∧ Cv.num (Cv.dig 2 m) = m ∧ Cv.num (Cv.dig 2 d) = d := by
  obtain ⟨h1, h2, h3⟩ := date_ten h
  exact ⟨Cv.num_dig 4 y h1.1 h1.2, Cv.num_dig 2 m h2.1 h2.2, Cv.num_dig 2 d h3.1 h3.2⟩

theorem isText_of {y m d : Int} (h : Cv.IsDate y m d) : IsText (Cv.dtext y m d) := by
  obtain ⟨p1, p2, p3, p4, p5⟩ := text_parts y m d
  obtain ⟨n1, n2, n3⟩ := text_num h
  refine ⟨Cv.dtext_len y m d, p4, p5, ?_, ?_, ?_, ?_⟩
  · rw [p1]; exact allDig_dig _ _
  · rw [p2]; exact allDig_dig _ _
  · rw [p3]; exact allDig_dig _ _
  · rw [p1, p2, p3, n1, n2, n3]; exact h

theorem readB_text {y m d : Int} (h : Cv.IsDate y m d) : readB (Cv.dtext y m d) = (Cv.dayOf y m d, 0) := by
  obtain ⟨p1, p2, p3, p4, p5⟩ := text_parts y m d
  obtain ⟨n1, n2, n3⟩ := text_num h
  rw [readB_pos (isText_of h), p1, p2, p3, n1, n2, n3]

theorem readTB_text {y m d t : Int} (h : Cv.IsDate y m d) (ht : 0 ≤ t) (hd : t / 1440 = Cv.dayOf y m d) : readTB (Cv.ttext y m d (t % 1440 / 60) (t % 1440 % 60)) = (t, 0) := by
  obtain ⟨p1, p2, p3, p4, p5⟩ := ttext_parts y m d (t % 1440 / 60) (t % 1440 % 60)
  have n1 : Cv.num (Cv.dig 2 (t % 1440 / 60)) = t % 1440 / 60 := Cv.num_dig 2 _ (by omega) (by rw [ten2]; omega)
  have n2 : Cv.num (Cv.dig 2 (t % 1440 % 60)) = t % 1440 % 60 := Cv.num_dig 2 _ (by omega) (by rw [ten2]; omega)
  have hI : IsTimeText (Cv.ttext y m d (t % 1440 / 60) (t % 1440 % 60)) := by
    refine ⟨Cv.ttext_len _ _ _ _ _, p4, p5, ?_, ?_, ?_, ?_, ?_⟩
    · rw [p1]; exact isText_of h
    · rw [p2]; exact allDig_dig _ _
    · rw [p3]; exact allDig_dig _ _
    · rw [p2, n1]; omega
    · rw [p3, n2]; omega
  rw [readTB_pos hI, p1, p2, p3, n1, n2, readB_text h, ← hd]
  congr 1
  show t / 1440 * 1440 + t % 1440 / 60 * 60 + t % 1440 % 60 = t
  omega

theorem writes_all (a0 a1 : Int) : Ev (fun k => letterbaglaw01_CivilWrites.f k a0 a1) true := by
  obtain ⟨a, ha, a1b, a2⟩ := pick_f (n := a0) (m := 1051898400) (by decide)
  obtain ⟨b, hb, b1, b2⟩ := pick_f (n := a1) (m := 1051898400) (by decide)
  obtain ⟨y, m, d, i1, i2⟩ := has_date (a := a / 1440) (by omega)
  obtain ⟨z, n, e, j1, j2⟩ := has_date (a := b / 1440) (by omega)
  have s1 := ctt_f (t := a) i1 (by omega) i2.symm
  have s2 := ctt_f (t := b) j1 (by omega) j2.symm
  have rt := creadtime_f (strOfNums (Cv.ttext y m d (a % 1440 / 60) (a % 1440 % 60)))
  rw [nb_str ttext_bd, readTB_text i1 a1b i2.symm] at rt
  have sp := splitB_ok (a := a) (by omega)
  have w0 : wrap64 (wrap64 (wrap64 ((0 : Int) + 0) + 0) + 0) = 0 := by
    have z : wrap64 ((0 : Int) + 0) = 0 := wb (by decide)
    rw [z, z, z]
  have hless : Op.bytesLess (strOfNums (Cv.ttext y m d (a % 1440 / 60) (a % 1440 % 60))).toList (strOfNums (Cv.ttext z n e (b % 1440 / 60) (b % 1440 % 60))).toList = decide (a < b) := by
    have k1 := nb_str (l := Cv.ttext y m d (a % 1440 / 60) (a % 1440 % 60)) ttext_bd
    have k2 := nb_str (l := Cv.ttext z n e (b % 1440 / 60) (b % 1440 % 60)) ttext_bd
    unfold nb at k1 k2
    rw [toList_data, toList_data, less_lt, k1, k2]
    exact ttext_lt i1 j1 a1b b1 i2.symm j2.symm
  unfold letterbaglaw01_CivilWrites.f
  refine Ev.bind awake_f (ev_pos rfl (Ev.bind (ev_val ha) (Ev.bind (ev_val hb) (Ev.bind s1 (Ev.bind s2 (Ev.bind rt (Ev.bind (ev_val (csplit_f a)) ?_)))))))
  rw [sp]
  refine ev_pos w0 (ev_pos rfl ?_)
  simp only [hless, bne_self_eq_false]
  refine Ev.step (fun k => letterbaglaw01_CivilWrites.j0.eq_2 _ _ _ k) (ev_neg Bool.false_ne_true ?_)
  rw [← i2]
  have rd1 := cread_f (strOfNums (Cv.dtext y m d))
  rw [nb_str text_bd, readB_text i1] at rd1
  have z0 : wrap64 ((0 : Int) + 0) = 0 := wb (by decide)
  refine Ev.bind (ctext_f i1) (Ev.bind rd1 (ev_pos z0 (ev_pos rfl ?_)))
  rw [strOfNums_size, Cv.ttext_len]
  refine ev_pos (by decide) (ev_pos (by decide) (ev_pos (by decide) (ev_eq ?_ (Ev.now _))))
  rw [beq_iff_eq, toList_nb, nb_extract, nb_str text_bd, nb_str ttext_bd]
  rfl

end Go.Proofs.YtehnhedifhpalaaDoor.Cp
