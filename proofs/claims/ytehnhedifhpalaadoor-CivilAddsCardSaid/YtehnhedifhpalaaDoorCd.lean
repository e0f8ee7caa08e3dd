/- slices.BinarySearch over a rising list: how many numbers are less, and whether it is there. The closure that counts makes, and counts itself: the walks. counts of civil: the walk. -/
import Derived.Test.YtehnhedifhpalaaDoorCq
import Derived.Test.YtehnhedifhpalaaDoorCf
import Derived.Test.YtehnhedifhpalaaDoorCv
set_option linter.unusedVariables false
set_option linter.unusedSimpArgs false
namespace Go.Proofs.YtehnhedifhpalaaDoor.Cq
open Go.Proofs.YtehnhedifhpalaaDoor.Cp
open Go.RowKit Go.Proofs.YtehnhedifhpalaaDoorW.PrintWords Go.Proofs.YtehnhedifhpalaaDoorW.PrintLast Go.Proofs.YtehnhedifhpalaaDoorW.PrintMore

theorem less_split {F : List Int} {x : Int} {n : Nat} (hn : n ≤ F.length) (h1 : ∀ i (h : i < F.length), i < n → F[i] < x) (h2 : ∀ i (h : i < F.length), n ≤ i → x ≤ F[i]) : Cv.less F x = n := by
  unfold Cv.less
  have e1 : (F.take n).filter (fun h => decide (h < x)) = F.take n := by
    rw [List.filter_eq_self]
    intro a ha
    obtain ⟨i, hi, rfl⟩ := List.getElem_of_mem ha
    rw [List.length_take] at hi
    rw [List.getElem_take]
    exact decide_eq_true (h1 i (by omega) (by omega))
  have e2 : (F.drop n).filter (fun h => decide (h < x)) = [] := by
    rw [List.filter_eq_nil_iff]
    intro a ha
    obtain ⟨i, hi, rfl⟩ := List.getElem_of_mem ha
    rw [List.length_drop] at hi
    rw [List.getElem_drop]
    have := h2 (n + i) (by omega) (by omega)
    simp; omega
  have e3 : F.filter (fun h => decide (h < x)) = F.take n := by
    conv => lhs; rw [← List.take_append_drop n F]
    rw [List.filter_append, e1, e2, List.append_nil]
  rw [e3, List.length_take]
  omega

theorem less_f (a b : Int) : cmp_Less_int.f a b = some (decide (a < b)) := by
  unfold cmp_Less_int.f cmp_isNaN_int.f
  simp

theorem bs_l0 {F : List Int} (hF : F.Pairwise (· < ·)) (hl : F.length ≤ 100000) (x : Int) (d : Nat) : ∀ lo hi : Nat, lo ≤ hi → hi ≤ F.length → hi - lo ≤ d → (∀ i (h : i < F.length), i < lo → F[i] < x) → (∀ i (h : i < F.length), hi ≤ i → x ≤ F[i]) →
    Ev (fun k => slices_BinarySearch_int_int.l0 k F x (F.length : Int) (lo : Int) (hi : Int)) ((Cv.less F x : Int), F.contains x) := by
  induction d with
  | zero =>
    intro lo hi h1 h2 h3 h4 h5
    obtain rfl : lo = hi := by omega
    have hless := less_split h2 h4 h5
    have hq := List.pairwise_iff_getElem.1 hF
    refine Ev.step (fun k => slices_BinarySearch_int_int.l0.eq_2 _ _ _ _ _ k) ?_
    refine ev_neg (by omega) ?_
    by_cases c : (lo : Int) < (F.length : Int)
    · have cn : lo < F.length := by omega
      refine ev_pos c (ev_pos (by omega) (ev_pos c ?_))
      rw [rd_get cn]
      by_cases e : F[lo] = x
      · refine ev_pos e (ev_eq ?_ (Ev.now _))
        rw [hless]
        have : F.contains x = true := by simpa using (e ▸ List.getElem_mem cn : x ∈ F)
        rw [this]
      · refine ev_neg e (Ev.bind (ev_val (r := false) (by unfold slices_isNaN_int.f; simp)) (ev_neg Bool.false_ne_true (ev_eq ?_ (Ev.now _))))
        rw [hless]
        have : F.contains x = false := by
          rw [Bool.eq_false_iff]
          intro hc
          obtain ⟨i, hi, hx⟩ := List.getElem_of_mem (show x ∈ F by simpa using hc)
          rcases Nat.lt_trichotomy i lo with h | h | h
          · have := h4 i hi h; omega
          · subst h; exact e hx
          · have := hq lo i cn hi h
            have := h5 lo cn (Nat.le_refl _)
            omega
        rw [this]
    · refine ev_neg c (ev_eq ?_ (Ev.now _))
      rw [hless]
      have : F.contains x = false := by
        rw [Bool.eq_false_iff]
        intro hc
        obtain ⟨i, hi, hx⟩ := List.getElem_of_mem (show x ∈ F by simpa using hc)
        have := h4 i hi (by omega)
        omega
      rw [this]
  | succ d ih =>
    intro lo hi h1 h2 h3 h4 h5
    by_cases e : lo = hi
    · exact ih lo hi h1 h2 (by omega) h4 h5
    · have hq := List.pairwise_iff_getElem.1 hF
      have cm : (lo + hi) / 2 < F.length := by omega
      have b1 : -9223372036854775808 ≤ (lo : Int) + (hi : Int) ∧ (lo : Int) + (hi : Int) ≤ 9223372036854775807 ∧ 0 ≤ (lo : Int) + (hi : Int) := by omega
      have e1 : ((lo : Int) + (hi : Int)) / 2 = (((lo + hi) / 2 : Nat) : Int) := by omega
      have b2 : -9223372036854775808 ≤ (((lo + hi) / 2 : Nat) : Int) ∧ (((lo + hi) / 2 : Nat) : Int) ≤ 9223372036854775807 := by omega
      have c1 : (0 : Int) ≤ (((lo + hi) / 2 : Nat) : Int) := by omega
      have c2 : (((lo + hi) / 2 : Nat) : Int) < (F.length : Int) := by omega
      refine Ev.step (fun k => slices_BinarySearch_int_int.l0.eq_2 _ _ _ _ _ k) ?_
      refine ev_pos (by omega) ?_
      rw [w64 b1.1 b1.2.1, wu64 b1.2.2 b1.2.1, e1, w64 b2.1 b2.2, rd_get cm, wsucc cm (by omega)]
      refine ev_pos c1 (ev_pos c2 (Ev.bind (ev_val (less_f _ _)) ?_))
      by_cases c : F[(lo + hi) / 2] < x
      · refine ev_pos (decide_eq_true c) (ih _ _ (by omega) h2 (by omega) (fun i hi' hl' => ?_) h5)
        by_cases e2 : i = (lo + hi) / 2
        · subst e2; exact c
        · have := hq i ((lo + hi) / 2) hi' cm (by omega)
          omega
      · refine ev_neg (by simpa using c) (ih _ _ (by omega) (by omega) (by omega) h4 (fun i hi' hl' => ?_))
        by_cases e2 : i = (lo + hi) / 2
        · subst e2; omega
        · have := hq ((lo + hi) / 2) i cm hi' (by omega)
          omega

theorem bs_f {F : List Int} (hF : F.Pairwise (· < ·)) (hl : F.length ≤ 100000) (x : Int) : Ev (fun k => slices_BinarySearch_int_int.f k F x) ((Cv.less F x : Int), F.contains x) := by
  unfold slices_BinarySearch_int_int.f
  exact bs_l0 hF hl x F.length 0 F.length (by omega) (by omega) (by omega) (fun i h h' => absurd h' (by omega)) (fun i h h' => absurd h' (by omega))

end Go.Proofs.YtehnhedifhpalaaDoor.Cq

namespace Go.Proofs.YtehnhedifhpalaaDoor.Cq
open Go.Proofs.YtehnhedifhpalaaDoor.Cp
open Go.RowKit Go.Proofs.YtehnhedifhpalaaDoorW.PrintWords Go.Proofs.YtehnhedifhpalaaDoorW.PrintLast Go.Proofs.YtehnhedifhpalaaDoorW.PrintMore
attribute [local go_sem] max2_int min2_int max_two min_two max_three min_three max_four min_four

set_option maxHeartbeats 2000000 in
theorem weekdays_any (d : Int) (w : World) (hd : 0 ≤ d ∧ d ≤ 730485) : Calls Tryd.prog 73 #[.int .i64 d] w fun e w' => e = .returned (.int .i64 (Cv.wdays d)) ∧ Drawn0 w w' := by
  have e1 : Int.tdiv d 7 = d / 7 := Int.tdiv_eq_ediv_of_nonneg hd.1
  have e2 : Int.tmod d 7 = d % 7 := Int.tmod_eq_emod_of_nonneg hd.1
  have b1 : (-9223372036854775808 ≤ d / 7 ∧ d / 7 ≤ 9223372036854775807) ∧ (-9223372036854775808 ≤ d / 7 * 5 ∧ d / 7 * 5 ≤ 9223372036854775807) ∧ (-9223372036854775808 ≤ d / 7 * 5 + d % 7 ∧ d / 7 * 5 + d % 7 ≤ 9223372036854775807) ∧ -9223372036854775808 ≤ d / 7 * 5 + 5 ∧ d / 7 * 5 + 5 ≤ 9223372036854775807 := by omega
  have w1 := w64 b1.1.1 b1.1.2
  have w2 := w64 b1.2.1.1 b1.2.1.2
  have w3 := w64 b1.2.2.1.1 b1.2.2.1.2
  have w4 := w64 b1.2.2.2.1 b1.2.2.2.2
  clear b1
  clear hd
  by_cases c : d % 7 ≤ 5
  · have e : Cv.wdays d = d / 7 * 5 + d % 7 := by clear w1 w2 w3 w4 e1 e2; unfold Cv.wdays; omega
    rw [e]
    clear e
    have c1 : (5 < d % 7) = False := eq_false (by clear w1 w2 w3 w4 e1 e2; omega)
    have c2 : (d % 7 ≤ 5) = True := eq_true c
    clear c
    go_enter Tryd.func73, Tryd.ntmps73
    go_wp2
    go_ret
    exact ⟨by first | rfl | simp [w3], Drawn0.refl _⟩
  · have e : Cv.wdays d = d / 7 * 5 + 5 := by clear w1 w2 w3 w4 e1 e2; unfold Cv.wdays; omega
    rw [e]
    clear e
    have c1 : (5 < d % 7) = True := eq_true (by clear w1 w2 w3 w4 e1 e2; omega)
    have c2 : (d % 7 ≤ 5) = False := eq_false c
    clear c
    go_enter Tryd.func73, Tryd.ntmps73
    go_wp2
    go_ret
    exact ⟨by first | rfl | simp [w4], Drawn0.refl _⟩

set_option maxHeartbeats 4000000 in
set_option maxRecDepth 100000 in
theorem clos_any (g : Nat) (A : Option Addr) (c : Nat) (F : List Int) (d : Int) (w : World) (hcell : w.cell? ⟨g, 0, none⟩ = some (.slice A F.length c)) (hF : Kd.C (Kd.int .i64) w A F.length F) (hc : F.length ≤ c)
    (hs : F.Pairwise (· < ·)) (hl : F.length ≤ 1000) (hd : 0 ≤ d ∧ d ≤ 730485) :
    Calls Tryd.prog 72 #[.int .i64 d, .pointer (some ⟨g, 0, none⟩)] w fun e w' => e = .returned (.int .i64 (Cv.wdays d - Cv.less F d)) ∧ Drawn0 w w' := by
  obtain ⟨k, hk⟩ := (bs_f hs (by omega) d).rounds
  have hwd : ∀ w, Calls Tryd.prog 73 #[.int .i64 d] w fun e w' => e = .returned (.int .i64 (Cv.wdays d)) ∧ Drawn0 w w' := fun w => weekdays_any d w hd
  have hb : 0 ≤ Cv.wdays d ∧ Cv.wdays d ≤ 1000000 := by unfold Cv.wdays; omega
  have hless : Cv.less F d ≤ 1000 := by unfold Cv.less; exact Nat.le_trans (List.length_filter_le _ _) hl
  have b1 : -9223372036854775808 ≤ Cv.wdays d - (Cv.less F d : Int) ∧ Cv.wdays d - (Cv.less F d : Int) ≤ 9223372036854775807 := by omega
  have w1 := w64 b1.1 b1.2
  clear b1
  generalize Cv.wdays d = x at *
  generalize Cv.less F d = y at *
  generalize F.contains d = z at *
  have HK := Aside0.mk hk
  have HF := Aside0.mk hF
  have HC := Aside0.mk hc
  clear hk hF hc hs hl hd hb hless
  go_enter Tryd.func72, Tryd.ntmps72
  go_wp2_with (first | (go_at_call 57; (with_reducible refine (slices_BinarySearch_int_int.calls k _ _ F d _ _ _ ?side1 ?side2 HK.out).mono ?_); (case side1 => exact HF.out); (case side2 => exact HC.out); rintro e w' ⟨rfl, ⟨nd, rfl⟩⟩) | (go_at_call 73; (with_reducible refine (hwd _).mono ?_); rintro e w' ⟨rfl, ⟨nd, rfl⟩⟩))
  go_ret
  exact ⟨by first | rfl | simp [w1], by first | exact Drawn0.refl _ | exact (Drawn0.refl _).step _ | exact ((Drawn0.refl _).step _).step _⟩

end Go.Proofs.YtehnhedifhpalaaDoor.Cq

namespace Go.Proofs.YtehnhedifhpalaaDoor.Cq
open Go.Proofs.YtehnhedifhpalaaDoor.Cp
open Go.RowKit Go.Proofs.YtehnhedifhpalaaDoorW.PrintWords Go.Proofs.YtehnhedifhpalaaDoorW.PrintLast Go.Proofs.YtehnhedifhpalaaDoorW.PrintMore
attribute [local go_sem] max2_int min2_int max_two min_two max_three min_three max_four min_four

def CountsPost (l : List Int) (w : World) (e : Ending) (w' : World) : Prop :=
  ∃ (g : Nat) (A : Option Addr) (c : Nat), e = .returned (.func (.func 72) #[] #[.pointer (some ⟨g, 0, none⟩)]) ∧ w'.cell? ⟨g, 0, none⟩ = some (.slice A (Cv.freeOf l).length c) ∧
    Kd.C (Kd.int .i64) w' A (Cv.freeOf l).length (Cv.freeOf l) ∧ (Cv.freeOf l).length ≤ c ∧ Below w.heap.size w w'

theorem free_take {l : List Int} {x : Int} (h0 : 0 ≤ x) (h : x < (l.length : Int)) (hd : 0 ≤ rd l x) :
    Cv.freeOf (l.take (x + 1).toNat) = Cv.freeOf (l.take x.toNat) ++ (if Int.tmod (rd l x) 7 < 5 then [rd l x] else []) := by
  have hn : x.toNat < l.length := by omega
  have e : (x + 1).toNat = x.toNat + 1 := by omega
  have er : rd l x = l[x.toNat] := by simp [rd, hn]
  rw [e, List.take_succ_eq_append_getElem hn, er]
  rw [er] at hd
  unfold Cv.freeOf
  rw [List.filter_append, Int.tmod_eq_emod_of_nonneg hd]
  congr 1
  by_cases c : l[x.toNat] % 7 < 5
  · rw [if_pos c, List.filter_cons_of_pos (by simpa using c)]; rfl
  · rw [if_neg c, List.filter_cons_of_neg (by simpa using c)]; rfl

theorem free_len (l : List Int) : (Cv.freeOf l).length ≤ l.length := List.length_filter_le _ _

set_option maxHeartbeats 8000000 in
set_option maxRecDepth 100000 in
theorem counts_any (A0 : Option Addr) (c0 : Nat) (l0 : List Int) (w : World) (hr0 : Kd.C (Kd.int .i64) w A0 l0.length l0) (hl : l0.length ≤ 1000) (hpos : ∀ d ∈ l0, 0 ≤ d) :
    Calls Tryd.prog 58 #[.slice A0 l0.length c0] w (CountsPost l0 w) := by
  have hmf : ∀ (fn : Fn) (first cap : Array Value) (w : World), (Instr.makeFunc fn first cap).run Tryd.prog w = .ok (.func fn first cap) w := fun _ _ _ _ => rfl
  have HR0 := Aside0.mk hr0
  have HL := Aside0.mk hl
  have HP := Aside0.mk hpos
  clear hr0 hl hpos
  have HB := Aside0.mk (Below.refl w.heap.size w)
  go_enter Tryd.func58, Tryd.ntmps58
  go_wp2_with (first | ((with_reducible refine gate_dst (N := 3) rfl ?_); refine box_event ?hg (N := 3) ?hd (cs := #[.slice none 0 0]) (t := 22) ?hr ?_; (case hd => rfl); (case hg => rfl); (case hr => first | (go_simp; done) | (go_simp; rfl)); intro g hg w1 hbox hb; have n0_ := Aside0.mk hbox; have n1_ := Aside0.mk ((by rw [hg]; exact (below_size HB.out)) : w.heap.size ≤ g); have n2_ := Aside0.mk (below_step (by repeat (first | (with_reducible first | exact HB.out | apply below_alloc | apply pw_below_drewN | apply below_drew1) | exact HB.out)) hb); clear HB; have BK := n0_; have GE := n1_; have HB := n2_; clear n0_ n1_ n2_ hbox hg hb))
  go_loopg [8] l0.length (fun kq v8 wr => ∃ (x : Int) (v : Value), v8 = .int .i64 x ∧ Aside0 ((kq : Int) + x = l0.length ∧ 0 ≤ x) ∧ Aside0 (wr.heap[g]? = some (.cells #[v] 22 (0, 0))) ∧ Aside0 (Kd.R (Kd.int .i64) 3 wr w.heap.size (fun k_ => k_ ≠ g) v (Cv.freeOf (l0.take x.toNat))) ∧ Aside0 (Below w.heap.size w wr))
  case atStart => exact ⟨0, .slice none 0 0, rfl, ⟨by simp⟩, BK, ⟨Kd.R_nil _ _ _ _ _⟩, HB⟩
  case round =>
    obtain ⟨x, v, rfl, HK, BK, HO, HB⟩ := hrel
    obtain ⟨Ao, co, eo⟩ := Kd.R_slice HO.out
    subst eo
    by_cases hlt : x < (l0.length : Int)
    · have c0b : decide (x < (l0.length : Int)) = true := decide_eq_true hlt
      have h0 : 0 ≤ x := HK.out.2
      have HLT := Aside0.mk hlt
      have H0 := Aside0.mk h0
      have hdn : 0 ≤ rd l0 x := HP.out _ (by have hn : x.toNat < l0.length := by omega
                                             have : rd l0 x = l0[x.toNat] := by simp [rd, hn]
                                             rw [this]; exact List.getElem_mem hn)
      have HFT := Aside0.mk (free_take h0 hlt hdn)
      obtain ⟨ad, ea, hx0⟩ := Kd.at_int HR0.out x h0 hlt
      have q0 := eq_true hlt
      have p0 := eq_true h0
      subst ea
      replace hx0 := (HB.out.cell (World.block_lt_of_cell? w _ hx0)).trans hx0
      have EW : Aside0 (wrap64 (x + 1) = x + 1) := ⟨by have := HL.out; unfold wrap64; omega⟩
      have hcz := (blk_cell BK.out 0)
      have hfz := blk_frozen BK.out 0
      replace hcz : _ = some (Value.slice Ao (Cv.freeOf (l0.take x.toNat)).length co) := hcz.trans rfl
      clear hlt h0 hdn
      generalize rd l0 x = y at *
      by_cases c : Int.tmod y 7 < 5
      · have d1 : decide (Int.tmod y 7 < 5) = true := decide_eq_true c
        rw [if_pos c] at HFT
        clear c
        have LEN : Aside0 ((Cv.freeOf (l0.take x.toNat)).length ≤ 1000) := ⟨Nat.le_trans (free_len _) (Nat.le_trans (by rw [List.length_take]; exact Nat.min_le_right _ _) HL.out)⟩
        generalize Cv.freeOf (l0.take x.toNat) = F at *
        go_wp2_with (first | ((with_reducible refine gate_builtin (b := .append) (xs := #[.tmp 15, .tmp 17]) rfl ?_); at_builtin; refine Kd.R_append (Kd.int .i64) (w0 := w) w.heap.size rfl (.tmp 15) (.tmp 17) 22 3 (.int .i64 0) 8 rfl Tryd.underlying22 info3 rfl (by decide) (by omega) (.slice Ao F.length co) F y [.int .i64 y] (fun k_ => k_ ≠ g) (fun _ => False) rfl rfl ?aP (fun _ hk => hk.elim) ?aF ?aO ?aB ?aS ?aL ?_; (case aP => exact rfl); (case aB => exact (by repeat (first | (with_reducible first | exact HB.out | apply below_alloc | apply pw_below_drewN | apply below_drew1) | exact HB.out))); (case aF => exact (fun k_ hk_ e_ => Nat.not_lt.2 hk_ (e_ ▸ blk_lt BK.out))); (case aO => exact (by (with_reducible repeat (first | apply Kd.R_alloc | apply Kd.R_drewN | apply Kd.R_drew)); exact HO.out)); (case aS => exact (below_size (by repeat (first | (with_reducible first | exact HB.out | apply below_alloc | apply pw_below_drewN | apply below_drew1) | exact HB.out)))); (case aL => have := LEN.out; omega); intro v1 w9 ho hb hg hat; obtain ⟨A1, c1, e1⟩ := Kd.R_slice ho; subst e1; have BK1 := Aside0.mk (blk_grown BK.out hg (Kd.R_ne HO.out BK.out (by decide))); have HO1 := Aside0.mk (show Kd.R (Kd.int .i64) 3 w9 w.heap.size (fun k_ => k_ ≠ g) (.slice A1 (F.length + 1) c1) (F ++ [y]) from by simpa only [List.length_append, List.length_singleton] using ho); have HB1 := Aside0.mk hb; have hcz1 := (blk_cell BK1.out 0); have hfz1 := blk_frozen BK1.out 0; replace hcz1 : _ = some (Value.slice Ao F.length co) := hcz1.trans rfl; clear ho hb hg hat))
        go_roundg (l0.length - (x + 1).toNat)
        case measure => have := HK.out; have := HLT.out; omega
        case rel => exact ⟨wrap64 (x + 1), _, rfl, by rw [EW.out]; exact ⟨by have := HK.out; have := HLT.out; omega⟩, ⟨blk_put BK1.out 0 _ rfl⟩, by rw [EW.out, HFT.out]; exact ⟨Kd.R_far HO1.out (fun _ hk => hk) _⟩, ⟨below_set HB1.out GE.out⟩⟩
      · have d1 : decide (Int.tmod y 7 < 5) = false := decide_eq_false c
        rw [if_neg c, List.append_nil] at HFT
        clear c
        go_wp2
        go_roundg (l0.length - (x + 1).toNat)
        case measure => have := HK.out; have := HLT.out; omega
        case rel => exact ⟨wrap64 (x + 1), _, rfl, by rw [EW.out]; exact ⟨by have := HK.out; have := HLT.out; omega⟩, BK, by rw [EW.out, HFT.out]; exact HO, HB⟩
    · have c0b : decide (x < (l0.length : Int)) = false := decide_eq_false hlt
      have ex : x.toNat = l0.length := by have := HK.out; omega
      have HE := Aside0.mk ex
      clear hlt ex
      go_wp2
      go_ret
      have e : Cv.freeOf (l0.take x.toNat) = Cv.freeOf l0 := by rw [HE.out, List.take_length]
      have BK2 := BK.out
      have HO2 := HO.out
      rw [e] at BK2 HO2
      exact ⟨g, Ao, co, by first | rfl | simp, (blk_cell BK2 0).trans rfl, (Kd.R_reads' HO2).2.2, (Kd.R_reads' HO2).2.1, HB.out⟩

end Go.Proofs.YtehnhedifhpalaaDoor.Cq
