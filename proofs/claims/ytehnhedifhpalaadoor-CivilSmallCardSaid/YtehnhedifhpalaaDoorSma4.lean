/- CivilSmall: for every input (it has none) the law returns true; the package variable civil.ahead is as the program's text lays it: the given tie, no condition of this session's. (Joined by a program of this session, civpack.py: the kit's printed words, printed walks, the plain law, the row and its card.) -/
import Derived.Test.YtehnhedifhpalaaDoorSma3
set_option linter.unusedVariables false
set_option linter.unusedSimpArgs false
namespace Go.Proofs.YtehnhedifhpalaaDoor.Cp
open Go.RowKit Go.Proofs.YtehnhedifhpalaaDoorW.PrintWords Go.Proofs.YtehnhedifhpalaaDoorW.PrintLast Go.Proofs.YtehnhedifhpalaaDoorW.PrintMore
attribute [local go_sem] max2_int min2_int max_two min_two max_three min_three max_four min_four   -- for this text's walks alone
set_option linter.unusedVariables false
set_option linter.unusedSimpArgs false
mutual
def letterbaglaw01_lists.l0 : Nat → List Int → Int → Int → Option (Bool)
 | 0, _, _, _ => none
 | k + 1, x12, x13, x14 => if x14 < x13 then (if 0 ≤ x14 then (if x14 < (x12.length : Int) then (if 0 ≤ (rd x12 x14) then (if (rd x12 x14 : Int).toNat ≤ 35184372088832 then ((some (List.replicate (rd x12 x14 : Int).toNat 0 : List Int)).bind fun y449 => (letterbaglaw01_lists.l1 k (rd x12 x14) y449 x12 x13 x14 (y449.length : Int) 0)) else (none)) else (none)) else (none)) else (none)) else ((some (([(([0, 0] : List Int)), (([5, 4] : List Int)), (([(-1)] : List Int)), (([730485] : List Int)), (([730484] : List Int)), (([0, 730484] : List Int))] : List (List Int)) : List (List Int))).bind fun y476 => (letterbaglaw01_lists.l2 k y476 (y476.length : Int) 0))
def letterbaglaw01_lists.l1 : Nat → Int → List Int → List Int → Int → Int → Int → Int → Option (Bool)
 | 0, _, _, _, _, _, _, _ => none
 | k + 1, x2, x3, x12, x13, x14, x21, x22 => if x22 < x21 then (if 0 ≤ x22 then (if x22 < (x3.length : Int) then (letterbaglaw01_lists.l1 k x2 (x3.set (x22 : Int).toNat (wrap64 (3 * x22))) x12 x13 x14 x21 (wrap64 (x22 + 1))) else (none)) else (none)) else ((civil_Between.f 0 7000 x3).bind fun bt453 => ((civil_Ahead.f k 0 0 x3).bind fun bt455 => ((civil_Right.f k x3).bind fun t457 => (if (t457 != (decide (x2 ≤ 1000))) = true then (none) else (if ((decide (x2 ≤ 1000)) != (bt453.2 == 0)) = true then (none) else (if ((decide (x2 ≤ 1000)) != (bt455.2 == 0)) = true then (none) else (if x2 ≤ 1000 then (letterbaglaw01_lists.l0 k x12 x13 (wrap64 (x14 + 1))) else (if bt453.2 = 2 then (if bt455.2 = 2 then (if (wrap64 (bt453.1 + bt455.1)) = 0 then (letterbaglaw01_lists.l0 k x12 x13 (wrap64 (x14 + 1))) else (none)) else (none)) else (none)))))))))
def letterbaglaw01_lists.l2 : Nat → List (List Int) → Int → Int → Option (Bool)
 | 0, _, _, _ => none
 | k + 1, x84, x85, x86 => if x86 < x85 then (if 0 ≤ x86 then (if x86 < (x84.length : Int) then ((letterbaglaw01_civilWorks.f k (rd_L2 x84 x86) 0 9 3 101 101).bind fun t480 => (if t480 = true then (letterbaglaw01_lists.l2 k x84 x85 (wrap64 (x86 + 1))) else (none))) else (none)) else (none)) else ((letterbaglaw01_awake.f k).bind fun t481 => (some t481))
end
def letterbaglaw01_lists.f (k : Nat)  : Option (Bool) := (some (([0, 1, 1000, 1001] : List Int) : List Int)).bind fun y445 => (letterbaglaw01_lists.l0 k y445 (y445.length : Int) 0)
set_option maxHeartbeats 8000000 in
set_option maxRecDepth 100000 in
theorem letterbaglaw01_lists.calls (k : Nat)  (r : Bool) (w : World) (hg : Aside0 (Tab w)) (h : letterbaglaw01_lists.f k  = some r) :
  Calls Tryd.prog 16 #[] w fun e w' => e = .returned (.bool r) ∧ Below w.heap.size w w' := by
 have HB := Aside0.mk (Below.refl w.heap.size w)
 have H : ((some (([0, 1, 1000, 1001] : List Int) : List Int)).bind fun y445 => (letterbaglaw01_lists.l0 k y445 (y445.length : Int) 0)) = some r := h
 clear h
 obtain ⟨y445, hy445⟩ : ∃ y_ : List Int, y_ = (([0, 1, 1000, 1001] : List Int)) := ⟨_, rfl⟩
 replace H : (letterbaglaw01_lists.l0 k y445 (y445.length : Int) 0) = some r := by first | (rw [hy445]; with_reducible exact H) | (have H2_ := (Option.bind_some _ _).symm.trans H; rw [hy445]; with_reducible exact H2_) | (have H2_ := (Option.bind_some _ _).symm.trans H; with_reducible exact H2_) | with_reducible exact H | (rw [hy445]; exact H) | exact H
 have Ny445 := Aside0.mk hy445
 clear hy445
 have H' := Aside0.mk H
 clear H
 go_enter Tryd.func16, Tryd.ntmps16
 go_wp2_with (first | ((with_reducible refine gate_dst (N := 12) rfl ?_); refine Kd.R_lit (Kd.int .i64) _ 3 ?hg (N := 12) ?hd (xs := ([0, 1, 1000, 1001] : List Int)) (inner := [.int .i64 0, .int .i64 1, .int .i64 1000, .int .i64 1001]) (ok := fun _ => True) (okp := fun _ => True) ?hr ?hp (fun _ hk => hk) trivial (Below.refl _ _) (Nat.le_refl _) (by simp) ?_; (case hd => rfl); (case hg => rfl); (case hr => first | (go_simp; done) | (go_simp; rfl)); (case hp => exact (Reps.one (show Kd.M (Kd.int .i64) _ _ _ 0 [.int .i64 0] from rfl) (Reps.one (show Kd.M (Kd.int .i64) _ _ _ 1 [.int .i64 1] from rfl) (Reps.one (show Kd.M (Kd.int .i64) _ _ _ 1000 [.int .i64 1000] from rfl) (Reps.one (show Kd.M (Kd.int .i64) _ _ _ 1001 [.int .i64 1001] from rfl) (Reps.none _ _)))))); intro v446 w1 ho2 hb hg_ hnew_; clear hg_ hnew_; (first | rw [← Ny445.out] at ho2 | (simp only [Int.reduceToNat] at ho2; rw [← Ny445.out] at ho2)); have n0_ := Aside0.mk (Kd.R_lower ho2 (below_size (by repeat (first | (with_reducible first | exact HB.out | apply below_alloc | apply pw_below_drewN | apply below_drew1) | exact HB.out)))); have n1_ := Aside0.mk (below_step (by repeat (first | (with_reducible first | exact HB.out | apply below_alloc | apply pw_below_drewN | apply below_drew1) | exact HB.out)) hb); clear HB; have HO447 := n0_; have HB := n1_; clear n0_ n1_; clear hb ho2; obtain ⟨Ao3, co3, eo3⟩ := Kd.R_slice HO447.out; subst eo3))
 go_loopg [14] k (fun kq v14 w' => ∃ (x12_1 : List Int) (x14_1 : Int), v14 = .int .i64 x14_1 ∧ Aside0 (letterbaglaw01_lists.l0 kq x12_1 (y445.length : Int) x14_1 = some r) ∧ Aside0 (kq ≤ k) ∧ Aside0 (Kd.R (Kd.int .i64) 3 w' w.heap.size (fun _ => True) (.slice Ao3 y445.length co3) x12_1) ∧ Aside0 (Below w.heap.size w w'))
 case atStart => exact ⟨(y445), (0), (by first | rfl | (simp; done) | (simp [*]; done) | (simp; exact (show ∀ a_ b_ : Bool, (a_ == b_) = (!(a_ != b_)) from by decide) _ _) | (rw [Bool.eq_iff_iff]; simp; done) | (simp; rw [Bool.eq_iff_iff]; simp; done)), H', ⟨Nat.le_refl _⟩, ⟨by (with_reducible repeat (first | apply Kd.R_alloc | apply Kd.R_drewN | apply Kd.R_drew)); exact HO447.out⟩, ⟨by repeat (first | (with_reducible first | exact HB.out | apply below_alloc | apply pw_below_drewN | apply below_drew1) | exact HB.out)⟩⟩
 case round =>
  clear H'
  try clear c1
  try clear p2
  obtain ⟨x12_1, x14_1, rfl, HA, HK1, HO_12, HB⟩ := hrel
  have hl12_1 := (Kd.R_reads' HO_12.out).1
  rw [hl12_1] at HO_12
  (try simp only [hl12_1])
  cases gk with
  | zero => exact absurd HA.out (by simp [letterbaglaw01_lists.l0])
  | succ k1 =>
   have H := HA.out
   clear HA
   simp only [letterbaglaw01_lists.l0] at H
   by_cases c4 : x14_1 < (y445.length : Int)
   ·rw [if_pos c4] at H
    have c4b0 : decide (x14_1 < (y445.length : Int)) = true := decide_eq_true c4
    clear c4
    by_cases c5 : 0 ≤ x14_1
    ·rw [if_pos c5] at H
     have c5b0 : decide (0 ≤ x14_1) = true := decide_eq_true c5
     clear c5
     by_cases c6 : x14_1 < (x12_1.length : Int)
     ·rw [if_pos c6] at H
      have c6b0 : decide (x14_1 < (x12_1.length : Int)) = true := decide_eq_true c6
      clear c6
      by_cases c7 : 0 ≤ (rd x12_1 x14_1)
      ·rw [if_pos c7] at H
       have c7b0 := eq_true c7
       have c7b1 : decide (0 ≤ (rd x12_1 x14_1)) = true := decide_eq_true c7
       clear c7
       by_cases c8 : (rd x12_1 x14_1 : Int).toNat ≤ 35184372088832
       ·rw [if_pos c8] at H
        have c8b0 := eq_true c8
        have c8b1 : decide ((rd x12_1 x14_1 : Int).toNat ≤ 35184372088832) = true := decide_eq_true c8
        clear c8
        obtain ⟨y449, hy449⟩ : ∃ y_ : List Int, y_ = (List.replicate (rd x12_1 x14_1 : Int).toNat 0) := ⟨_, rfl⟩
        replace H : (letterbaglaw01_lists.l1 k1 (rd x12_1 x14_1) y449 x12_1 (y445.length : Int) x14_1 (y449.length : Int) 0) = some r := by first | (rw [hy449]; with_reducible exact H) | (have H2_ := (Option.bind_some _ _).symm.trans H; rw [hy449]; with_reducible exact H2_) | (have H2_ := (Option.bind_some _ _).symm.trans H; with_reducible exact H2_) | with_reducible exact H | (rw [hy449]; exact H) | exact H
        have Ny449 := Aside0.mk hy449
        clear hy449
        have H' := Aside0.mk H
        clear H
        have p448 : 0 ≤ (x14_1 : Int) := of_decide_eq_true (by first | (with_reducible assumption) | assumption)
        have q448 : x14_1 < (x12_1.length : Int) := of_decide_eq_true (by first | (with_reducible assumption) | assumption)
        obtain ⟨ad448, e448, hx448_0⟩ := Kd.at_int (Kd.R_reads' HO_12.out).2.2 x14_1 p448 q448
        cases e448
        replace p448 := eq_true p448
        replace q448 := eq_true q448
        go_wp2_with (first | ((with_reducible refine gate_dst (N := 19) rfl ?_); refine Kd.R_make (Kd.int .i64) _ 3 rfl (N := 19) rfl 22 _ _ rfl (rd x12_1 x14_1) rfl rfl Tryd.underlying22 (.int .i64 0) 8 info3 rfl (by decide) (by omega) 0 (ok := fun _ => True) (okp := fun _ => True) rfl (fun _ hk => hk) trivial (of_decide_eq_true (by first | (with_reducible assumption) | assumption)) (Nat.le_trans (Nat.mul_le_mul_right _ (of_decide_eq_true (by first | (with_reducible assumption) | assumption) : (rd x12_1 x14_1).toNat ≤ 35184372088832)) (by omega)) (Below.refl _ _) (Nat.le_refl _) ?_; intro v450 w9 ho10 hb hg_ hnew_; clear hg_ hnew_; (first | rw [← Ny449.out] at ho10 | (simp only [Int.reduceToNat] at ho10; rw [← Ny449.out] at ho10)); have n0_ := Aside0.mk (Kd.R_elder' (by (with_reducible repeat (first | apply Kd.R_alloc | apply Kd.R_drewN | apply Kd.R_drew)); exact HO_12.out) (Kd.R_base ho10) hb); have n1_ := Aside0.mk (Kd.R_lower (Kd.R_new' ho10 (Kd.R_lt (by (with_reducible repeat (first | apply Kd.R_alloc | apply Kd.R_drewN | apply Kd.R_drew)); exact HO_12.out))) (below_size (by repeat (first | (with_reducible first | exact HB.out | apply below_alloc | apply pw_below_drewN | apply below_drew1) | exact HB.out)))); have n2_ := Aside0.mk (below_step (by repeat (first | (with_reducible first | exact HB.out | apply below_alloc | apply pw_below_drewN | apply below_drew1) | exact HB.out)) hb); clear HO_12; clear HB; have HO_12 := n0_; have HO451 := n1_; have HB := n2_; clear n0_ n1_ n2_; clear hb ho10; obtain ⟨Ao11, co11, eo11⟩ := Kd.R_slice HO451.out; subst eo11))
        go_loopg [22] k1 (fun kq v22 w' => ∃ (x3_2 : List Int) (x22_2 : Int), v22 = .int .i64 x22_2 ∧ Aside0 (letterbaglaw01_lists.l1 kq (rd x12_1 x14_1) x3_2 x12_1 (y445.length : Int) x14_1 (y449.length : Int) x22_2 = some r) ∧ Aside0 (kq ≤ k1) ∧ Aside0 (Kd.R (Kd.int .i64) 3 w' w.heap.size (fun k_ => some k_ ≠ ((.slice (some ad448) x12_1.length co3) : Value).ownBlock) (.slice Ao11 y449.length co11) x3_2) ∧ Aside0 (Kd.R (Kd.int .i64) 3 w' w.heap.size (fun k_ => some k_ ≠ ((.slice Ao11 y449.length co11) : Value).ownBlock) (.slice (some ad448) x12_1.length co3) x12_1) ∧ Aside0 (Below w.heap.size w w'))
        case atStart => exact ⟨(y449), (0), (by first | rfl | (simp; done) | (simp [*]; done) | (simp; exact (show ∀ a_ b_ : Bool, (a_ == b_) = (!(a_ != b_)) from by decide) _ _) | (rw [Bool.eq_iff_iff]; simp; done) | (simp; rw [Bool.eq_iff_iff]; simp; done)), H', ⟨Nat.le_refl _⟩, ⟨by (try simp only [hl12_1]); (with_reducible repeat (first | apply Kd.R_alloc | apply Kd.R_drewN | apply Kd.R_drew)); exact Kd.R_mono HO451.out (fun _ hk => hk.2)⟩, ⟨by (try simp only [hl12_1]); (with_reducible repeat (first | apply Kd.R_alloc | apply Kd.R_drewN | apply Kd.R_drew)); exact Kd.R_mono HO_12.out (fun _ hk => hk.2)⟩, ⟨by repeat (first | (with_reducible first | exact HB.out | apply below_alloc | apply pw_below_drewN | apply below_drew1) | exact HB.out)⟩⟩
        case round =>
         clear H'
         try clear c1
         try clear p2
         try clear c4
         try clear c4b0
         try clear p4
         try clear q4
         try clear hx4
         try clear c5
         try clear c5b0
         try clear c6
         try clear c6b0
         try clear c7
         try clear c7b0
         try clear c7b1
         try clear c8
         try clear c8b0
         try clear c8b1
         try clear hx448_0
         try clear p2
         try clear p448
         try clear q448
         obtain ⟨x3_2, x22_2, rfl, HA, HK2, HO_3, HO_12, HB⟩ := hrel
         have hl3_2 := (Kd.R_reads' HO_3.out).1
         rw [hl3_2] at HO_3
         (try simp only [hl3_2])
         (try simp only [hl3_2] at HO_12)
         cases gk with
         | zero => exact absurd HA.out (by simp [letterbaglaw01_lists.l1])
         | succ k2 =>
          have H := HA.out
          clear HA
          simp only [letterbaglaw01_lists.l1] at H
          by_cases c12 : x22_2 < (y449.length : Int)
          ·rw [if_pos c12] at H
           have c12b0 : decide (x22_2 < (y449.length : Int)) = true := decide_eq_true c12
           (try simp only [hl3_2] at c12b0)
           clear c12
           by_cases c13 : 0 ≤ x22_2
           ·rw [if_pos c13] at H
            have c13b0 : decide (0 ≤ x22_2) = true := decide_eq_true c13
            clear c13
            by_cases c14 : x22_2 < (x3_2.length : Int)
            ·rw [if_pos c14] at H
             have c14b0 : decide (x22_2 < (x3_2.length : Int)) = true := decide_eq_true c14
             clear c14
             obtain ⟨y452, hy452⟩ : ∃ y_ : List Int, y_ = (x3_2.set (x22_2 : Int).toNat (wrap64 (3 * x22_2))) := ⟨_, rfl⟩
             replace H : (letterbaglaw01_lists.l1 k2 (rd x12_1 x14_1) y452 x12_1 (y445.length : Int) x14_1 (y449.length : Int) (wrap64 (x22_2 + 1))) = some r := by first | (rw [hy452]; with_reducible exact H) | (have H2_ := (Option.bind_some _ _).symm.trans H; rw [hy452]; with_reducible exact H2_) | (have H2_ := (Option.bind_some _ _).symm.trans H; with_reducible exact H2_) | with_reducible exact H | (rw [hy452]; exact H) | exact H
             have Ny452 := Aside0.mk hy452
             clear hy452
             have H' := Aside0.mk H
             clear H
             have p15 : 0 ≤ (x22_2 : Int) := of_decide_eq_true (by first | (with_reducible assumption) | assumption)
             have q15 : (x22_2 : Int) < ((x3_2.length : Int) : Int) := of_decide_eq_true (by first | (with_reducible assumption) | assumption)
             obtain ⟨go15, co15, eo15, gb15, gl15, cl15, HG15⟩ := Kd.R_form HO_3.out (by omega)
             (first | cases eo15 | (injection eo15 with ea_ en_ ec_; (first | subst ea_ | (injection ea_ with ea_; subst ea_)); subst ec_; clear en_))
             have GB15 := Aside0.mk gb15
             have GG15 := Aside0.mk HG15
             clear gb15 gl15 HG15
             obtain ⟨hx15_0, hf15_0⟩ := Kd.R_celln 0 HO_3.out (x22_2 : Int) p15 q15
             replace p15 := eq_true p15
             replace q15 := eq_true q15
             have HP16 := Kd.R_putg HO_3.out (x22_2 : Int) (wrap64 (3 * x22_2))
             go_wp2_with (first | ((with_reducible refine gate_store (t := 3) (p := 29) rfl ?_); refine store_event (t := 3) (p := 29) (v := ?vo_w17) (w1 := (wr.setCell ⟨go15, (x22_2 : Int).toNat, none⟩ (.int .i64 (wrap64 (3 * x22_2))))) ?hg ?ho ?hn ?hr ?_; (case ho => rfl); (case hg => rfl); (case hn => rfl); (case hr => first | (go_simp; done) | (go_simp; rfl)); intro w17 hw; have hg : wr.grownBy w17 (some go15) := (by rw [hw]; exact HP16.2); have hp_ : Kd.R (Kd.int .i64) 3 w17 w.heap.size (fun k_ => some k_ ≠ (.slice (some ad448) x12_1.length co3 : Value).ownBlock) (.slice (some ⟨go15, 0, none⟩) x3_2.length co11) y452 := (by rw [hw, Ny452.out]; exact HP16.1); clear HP16; have n0_ := Aside0.mk (hp_); have n1_ := Aside0.mk (Kd.R_after (v := (.slice (some ⟨go15, 0, none⟩) x3_2.length co11)) (v1 := (.slice (some ⟨go15, 0, none⟩) x3_2.length co11)) (ok := (fun _ => True)) (by (with_reducible repeat (first | apply Kd.R_alloc | apply Kd.R_drewN | apply Kd.R_drew)); exact Kd.R_mono HO_12.out (fun _ hk => ⟨trivial, hk⟩)) hg (.inl rfl)); have n2_ := Aside0.mk ((by rw [hw]; exact below_set (HB.out) GB15.out : Below w.heap.size w w17)); clear HO_3; clear HO_12; clear HB; have HO_3 := n0_; have HO_12 := n1_; have HB := n2_; clear n0_ n1_ n2_; clear hg hw hp_))
             (try simp only [← hl3_2])
             go_roundg k2
             case measure => have := HK1.out; have := HK2.out; omega
             case rel => exact ⟨(y452), (wrap64 (x22_2 + 1)), (by first | rfl | (simp; done) | (simp [*]; done) | (simp; exact (show ∀ a_ b_ : Bool, (a_ == b_) = (!(a_ != b_)) from by decide) _ _) | (rw [Bool.eq_iff_iff]; simp; done) | (simp; rw [Bool.eq_iff_iff]; simp; done)), H', ⟨by have := HK1.out; have := HK2.out; omega⟩, ⟨by (try simp only [hl12_1]); (try simp only [hl3_2]); (with_reducible repeat (first | apply Kd.R_alloc | apply Kd.R_drewN | apply Kd.R_drew)); exact HO_3.out⟩, ⟨by (try simp only [hl12_1]); (try simp only [hl3_2]); (with_reducible repeat (first | apply Kd.R_alloc | apply Kd.R_drewN | apply Kd.R_drew)); exact Kd.R_mono HO_12.out (fun _ hk => hk.2)⟩, ⟨by repeat (first | (with_reducible first | exact HB.out | apply below_alloc | apply pw_below_drewN | apply below_drew1) | exact HB.out)⟩⟩
            ·rw [if_neg c14] at H
             exact absurd H (by simp)
           ·rw [if_neg c13] at H
            exact absurd H (by simp)
          ·rw [if_neg c12] at H
           have c12b0 : decide (x22_2 < (y449.length : Int)) = false := decide_eq_false c12
           (try simp only [hl3_2] at c12b0)
           clear c12
           replace H := Option.bind_eq_some_iff.mp H
           obtain ⟨⟨t453, t454⟩, A180, H⟩ := H
           replace H : ((civil_Ahead.f k2 0 0 x3_2).bind fun bt455 => ((civil_Right.f k2 x3_2).bind fun t457 => (if (t457 != (decide ((rd x12_1 x14_1) ≤ 1000))) = true then (none) else (if ((decide ((rd x12_1 x14_1) ≤ 1000)) != (t454 == 0)) = true then (none) else (if ((decide ((rd x12_1 x14_1) ≤ 1000)) != (bt455.2 == 0)) = true then (none) else (if (rd x12_1 x14_1) ≤ 1000 then (letterbaglaw01_lists.l0 k2 x12_1 (y445.length : Int) (wrap64 (x14_1 + 1))) else (if t454 = 2 then (if bt455.2 = 2 then (if (wrap64 (t453 + bt455.1)) = 0 then (letterbaglaw01_lists.l0 k2 x12_1 (y445.length : Int) (wrap64 (x14_1 + 1))) else (none)) else (none)) else (none)))))))) = some r := H
           have A18 := Aside0.mk A180
           clear A180
           replace H := Option.bind_eq_some_iff.mp H
           obtain ⟨⟨t455, t456⟩, A190, H⟩ := H
           replace H : ((civil_Right.f k2 x3_2).bind fun t457 => (if (t457 != (decide ((rd x12_1 x14_1) ≤ 1000))) = true then (none) else (if ((decide ((rd x12_1 x14_1) ≤ 1000)) != (t454 == 0)) = true then (none) else (if ((decide ((rd x12_1 x14_1) ≤ 1000)) != (t456 == 0)) = true then (none) else (if (rd x12_1 x14_1) ≤ 1000 then (letterbaglaw01_lists.l0 k2 x12_1 (y445.length : Int) (wrap64 (x14_1 + 1))) else (if t454 = 2 then (if t456 = 2 then (if (wrap64 (t453 + t455)) = 0 then (letterbaglaw01_lists.l0 k2 x12_1 (y445.length : Int) (wrap64 (x14_1 + 1))) else (none)) else (none)) else (none))))))) = some r := H
           have A19 := Aside0.mk A190
           clear A190
           replace H := Option.bind_eq_some_iff.mp H
           obtain ⟨t457, A200, H⟩ := H
           replace H : (if (t457 != (decide ((rd x12_1 x14_1) ≤ 1000))) = true then (none) else (if ((decide ((rd x12_1 x14_1) ≤ 1000)) != (t454 == 0)) = true then (none) else (if ((decide ((rd x12_1 x14_1) ≤ 1000)) != (t456 == 0)) = true then (none) else (if (rd x12_1 x14_1) ≤ 1000 then (letterbaglaw01_lists.l0 k2 x12_1 (y445.length : Int) (wrap64 (x14_1 + 1))) else (if t454 = 2 then (if t456 = 2 then (if (wrap64 (t453 + t455)) = 0 then (letterbaglaw01_lists.l0 k2 x12_1 (y445.length : Int) (wrap64 (x14_1 + 1))) else (none)) else (none)) else (none)))))) = some r := H
           have A20 := Aside0.mk A200
           clear A200
           by_cases c21 : (t457 != (decide ((rd x12_1 x14_1) ≤ 1000))) = true
           ·rw [if_pos c21] at H
            exact absurd H (by simp)
           ·rw [if_neg c21] at H
            have c21b0 : (t457 != (decide ((rd x12_1 x14_1) ≤ 1000))) = false := by simpa using c21
            (try (have c21b1 : decide (t457 = (decide ((rd x12_1 x14_1) ≤ 1000))) = true := by simpa using c21))
            (try (have c21b2 : (t457 == (decide ((rd x12_1 x14_1) ≤ 1000))) = true := by simpa using c21))
            clear c21
            by_cases c24 : ((decide ((rd x12_1 x14_1) ≤ 1000)) != (t454 == 0)) = true
            ·rw [if_pos c24] at H
             exact absurd H (by simp)
            ·rw [if_neg c24] at H
             have c24b0 : ((decide ((rd x12_1 x14_1) ≤ 1000)) != (t454 == 0)) = false := by simpa using c24
             (try (have c24b1 : decide ((decide ((rd x12_1 x14_1) ≤ 1000)) = (t454 == 0)) = true := by simpa using c24))
             (try (have c24b2 : ((decide ((rd x12_1 x14_1) ≤ 1000)) == (t454 == 0)) = true := by simpa using c24))
             clear c24
             by_cases c27 : ((decide ((rd x12_1 x14_1) ≤ 1000)) != (t456 == 0)) = true
             ·rw [if_pos c27] at H
              exact absurd H (by simp)
             ·rw [if_neg c27] at H
              have c27b0 : ((decide ((rd x12_1 x14_1) ≤ 1000)) != (t456 == 0)) = false := by simpa using c27
              (try (have c27b1 : decide ((decide ((rd x12_1 x14_1) ≤ 1000)) = (t456 == 0)) = true := by simpa using c27))
              (try (have c27b2 : ((decide ((rd x12_1 x14_1) ≤ 1000)) == (t456 == 0)) = true := by simpa using c27))
              clear c27
              by_cases c30 : (rd x12_1 x14_1) ≤ 1000
              ·rw [if_pos c30] at H
               have c30b0 : decide ((rd x12_1 x14_1) ≤ 1000) = true := decide_eq_true c30
               clear c30
               have e0_ : t457 = true := by rw [c30b0] at c21b0; simpa using c21b0
               have e1_ : t454 = 0 := by rw [c30b0] at c24b0; simpa using c24b0
               have e2_ : t456 = 0 := by rw [c30b0] at c27b0; simpa using c27b0
               clear c21b0 c24b0 c27b0
               (try clear c21b1); (try clear c21b2); (try clear c24b1); (try clear c24b2); (try clear c27b1); (try clear c27b2)
               have H' := Aside0.mk H
               clear H
               go_wp2_with (first | ((with_reducible refine gate_callee (f := 28) rfl ?_); refine goesL_ (some 33) rfl rfl Tryd.func28 (by kernel_rfl) rfl #[.int .i64 0, .int .i64 7000, .slice Ao11 x3_2.length co11] rfl (by (try simp only [List.map_toArray, List.map_cons, List.map_nil]); first | done | rfl | (simp only [List.length_drop, List.length_take]; rfl)) ?_; (with_reducible refine (civil_Between.calls 0 7000 _ _ x3_2 t453 t454 _ ?side1 ?side2 A18.out).mono ?_); (case side1 => repeat (first | exact (Kd.R_reads' HO_3.out).2.2 | (with_reducible refine Kd.C_alloc ?_ _) | (with_reducible refine Kd.C_drewN ?_ _) | (with_reducible refine Kd.C_drew ?_))); (case side2 => exact (Kd.R_reads' HO_3.out).2.1); rintro e w31 ⟨rfl, hb⟩; refine ⟨_, rfl, ?_⟩; have n0_ := Aside0.mk (Kd.R_below (by (with_reducible repeat (first | apply Kd.R_alloc | apply Kd.R_drewN | apply Kd.R_drew)); exact HO_3.out) hb); have n1_ := Aside0.mk (Kd.R_below (by (with_reducible repeat (first | apply Kd.R_alloc | apply Kd.R_drewN | apply Kd.R_drew)); exact HO_12.out) hb); have n2_ := Aside0.mk (below_step (by repeat (first | (with_reducible first | exact HB.out | apply below_alloc | apply pw_below_drewN | apply below_drew1) | exact HB.out)) hb); clear HO_3; clear HO_12; clear HB; have HO_3 := n0_; have HO_12 := n1_; have HB := n2_; clear n0_ n1_ n2_; (try clear hb); (try clear hb2); (try clear hk); (try clear hi)) | ((with_reducible refine gate_callee (f := 26) rfl ?_); refine goesL_ (some 38) rfl rfl Tryd.func26 (by kernel_rfl) rfl #[.int .i64 0, .int .i64 0, .slice Ao11 x3_2.length co11] rfl (by (try simp only [List.map_toArray, List.map_cons, List.map_nil]); first | done | rfl | (simp only [List.length_drop, List.length_take]; rfl)) ?_; (with_reducible refine (civil_Ahead.calls k2 0 0 _ _ x3_2 t455 t456 _ ?side1 ?side2 A19.out).mono ?_); (case side1 => repeat (first | exact (Kd.R_reads' HO_3.out).2.2 | (with_reducible refine Kd.C_alloc ?_ _) | (with_reducible refine Kd.C_drewN ?_ _) | (with_reducible refine Kd.C_drew ?_))); (case side2 => exact (Kd.R_reads' HO_3.out).2.1); rintro e w32 ⟨rfl, hb⟩; refine ⟨_, rfl, ?_⟩; have n0_ := Aside0.mk (Kd.R_below (by (with_reducible repeat (first | apply Kd.R_alloc | apply Kd.R_drewN | apply Kd.R_drew)); exact HO_3.out) hb); have n1_ := Aside0.mk (Kd.R_below (by (with_reducible repeat (first | apply Kd.R_alloc | apply Kd.R_drewN | apply Kd.R_drew)); exact HO_12.out) hb); have n2_ := Aside0.mk (below_step (by repeat (first | (with_reducible first | exact HB.out | apply below_alloc | apply pw_below_drewN | apply below_drew1) | exact HB.out)) hb); clear HO_3; clear HO_12; clear HB; have HO_3 := n0_; have HO_12 := n1_; have HB := n2_; clear n0_ n1_ n2_; (try clear hb); (try clear hb2); (try clear hk); (try clear hi)) | ((with_reducible refine gate_callee (f := 29) rfl ?_); refine goesL_ (some 44) rfl rfl Tryd.func29 (by kernel_rfl) rfl #[.slice Ao11 x3_2.length co11] rfl (by (try simp only [List.map_toArray, List.map_cons, List.map_nil]); first | done | rfl | (simp only [List.length_drop, List.length_take]; rfl)) ?_; (with_reducible refine (civil_Right.calls k2 _ _ x3_2 t457 _ ?side1 ?side2 A20.out).mono ?_); (case side1 => repeat (first | exact (Kd.R_reads' HO_3.out).2.2 | (with_reducible refine Kd.C_alloc ?_ _) | (with_reducible refine Kd.C_drewN ?_ _) | (with_reducible refine Kd.C_drew ?_))); (case side2 => exact (Kd.R_reads' HO_3.out).2.1); rintro e w' ⟨rfl, ⟨nd, rfl⟩⟩; refine ⟨_, rfl, ?_⟩))
               (try simp only [← hl12_1, ← hl3_2])
               go_roundg k2
               case measure => have := HK1.out; have := HK2.out; omega
               case rel => exact ⟨(x12_1), (wrap64 (x14_1 + 1)), (by first | rfl | (simp; done) | (simp [*]; done) | (simp; exact (show ∀ a_ b_ : Bool, (a_ == b_) = (!(a_ != b_)) from by decide) _ _) | (rw [Bool.eq_iff_iff]; simp; done) | (simp; rw [Bool.eq_iff_iff]; simp; done)), H', ⟨by have := HK1.out; have := HK2.out; omega⟩, ⟨by (try simp only [hl12_1]); (try simp only [hl3_2]); (with_reducible repeat (first | apply Kd.R_alloc | apply Kd.R_drewN | apply Kd.R_drew)); exact Kd.R_mono HO_12.out (fun _ hk => trivial)⟩, ⟨by repeat (first | (with_reducible first | exact HB.out | apply below_alloc | apply pw_below_drewN | apply below_drew1) | exact HB.out)⟩⟩
              ·rw [if_neg c30] at H
               have c30b0 : decide ((rd x12_1 x14_1) ≤ 1000) = false := decide_eq_false c30
               clear c30
               by_cases c33 : t454 = 2
               ·rw [if_pos c33] at H
                have c33b0 : (t454 == 2) = true := beq_iff_eq.mpr c33
                have c33b1 : (t454 != 2) = false := bne_eq_false_iff_eq.mpr c33
                clear c33
                by_cases c34 : t456 = 2
                ·rw [if_pos c34] at H
                 have c34b0 : (t456 == 2) = true := beq_iff_eq.mpr c34
                 have c34b1 : (t456 != 2) = false := bne_eq_false_iff_eq.mpr c34
                 clear c34
                 by_cases c35 : (wrap64 (t453 + t455)) = 0
                 ·rw [if_pos c35] at H
                  have c35b0 : ((wrap64 (t453 + t455)) == 0) = true := beq_iff_eq.mpr c35
                  have c35b1 : ((wrap64 (t453 + t455)) != 0) = false := bne_eq_false_iff_eq.mpr c35
                  clear c35
                  have e0_ : t457 = false := by rw [c30b0] at c21b0; simpa using c21b0
                  have e1_ : t454 = 2 := beq_iff_eq.mp c33b0
                  have e2_ : t456 = 2 := beq_iff_eq.mp c34b0
                  clear c21b0 c24b0 c27b0 c33b0 c33b1 c34b0 c34b1
                  (try clear c21b1); (try clear c21b2); (try clear c24b1); (try clear c24b2); (try clear c27b1); (try clear c27b2)
                  have H' := Aside0.mk H
                  clear H
                  go_wp2_with (first | ((with_reducible refine gate_callee (f := 28) rfl ?_); refine goesL_ (some 33) rfl rfl Tryd.func28 (by kernel_rfl) rfl #[.int .i64 0, .int .i64 7000, .slice Ao11 x3_2.length co11] rfl (by (try simp only [List.map_toArray, List.map_cons, List.map_nil]); first | done | rfl | (simp only [List.length_drop, List.length_take]; rfl)) ?_; (with_reducible refine (civil_Between.calls 0 7000 _ _ x3_2 t453 t454 _ ?side1 ?side2 A18.out).mono ?_); (case side1 => repeat (first | exact (Kd.R_reads' HO_3.out).2.2 | (with_reducible refine Kd.C_alloc ?_ _) | (with_reducible refine Kd.C_drewN ?_ _) | (with_reducible refine Kd.C_drew ?_))); (case side2 => exact (Kd.R_reads' HO_3.out).2.1); rintro e w36 ⟨rfl, hb⟩; refine ⟨_, rfl, ?_⟩; have n0_ := Aside0.mk (Kd.R_below (by (with_reducible repeat (first | apply Kd.R_alloc | apply Kd.R_drewN | apply Kd.R_drew)); exact HO_3.out) hb); have n1_ := Aside0.mk (Kd.R_below (by (with_reducible repeat (first | apply Kd.R_alloc | apply Kd.R_drewN | apply Kd.R_drew)); exact HO_12.out) hb); have n2_ := Aside0.mk (below_step (by repeat (first | (with_reducible first | exact HB.out | apply below_alloc | apply pw_below_drewN | apply below_drew1) | exact HB.out)) hb); clear HO_3; clear HO_12; clear HB; have HO_3 := n0_; have HO_12 := n1_; have HB := n2_; clear n0_ n1_ n2_; (try clear hb); (try clear hb2); (try clear hk); (try clear hi)) | ((with_reducible refine gate_callee (f := 26) rfl ?_); refine goesL_ (some 38) rfl rfl Tryd.func26 (by kernel_rfl) rfl #[.int .i64 0, .int .i64 0, .slice Ao11 x3_2.length co11] rfl (by (try simp only [List.map_toArray, List.map_cons, List.map_nil]); first | done | rfl | (simp only [List.length_drop, List.length_take]; rfl)) ?_; (with_reducible refine (civil_Ahead.calls k2 0 0 _ _ x3_2 t455 t456 _ ?side1 ?side2 A19.out).mono ?_); (case side1 => repeat (first | exact (Kd.R_reads' HO_3.out).2.2 | (with_reducible refine Kd.C_alloc ?_ _) | (with_reducible refine Kd.C_drewN ?_ _) | (with_reducible refine Kd.C_drew ?_))); (case side2 => exact (Kd.R_reads' HO_3.out).2.1); rintro e w37 ⟨rfl, hb⟩; refine ⟨_, rfl, ?_⟩; have n0_ := Aside0.mk (Kd.R_below (by (with_reducible repeat (first | apply Kd.R_alloc | apply Kd.R_drewN | apply Kd.R_drew)); exact HO_3.out) hb); have n1_ := Aside0.mk (Kd.R_below (by (with_reducible repeat (first | apply Kd.R_alloc | apply Kd.R_drewN | apply Kd.R_drew)); exact HO_12.out) hb); have n2_ := Aside0.mk (below_step (by repeat (first | (with_reducible first | exact HB.out | apply below_alloc | apply pw_below_drewN | apply below_drew1) | exact HB.out)) hb); clear HO_3; clear HO_12; clear HB; have HO_3 := n0_; have HO_12 := n1_; have HB := n2_; clear n0_ n1_ n2_; (try clear hb); (try clear hb2); (try clear hk); (try clear hi)) | ((with_reducible refine gate_callee (f := 29) rfl ?_); refine goesL_ (some 44) rfl rfl Tryd.func29 (by kernel_rfl) rfl #[.slice Ao11 x3_2.length co11] rfl (by (try simp only [List.map_toArray, List.map_cons, List.map_nil]); first | done | rfl | (simp only [List.length_drop, List.length_take]; rfl)) ?_; (with_reducible refine (civil_Right.calls k2 _ _ x3_2 t457 _ ?side1 ?side2 A20.out).mono ?_); (case side1 => repeat (first | exact (Kd.R_reads' HO_3.out).2.2 | (with_reducible refine Kd.C_alloc ?_ _) | (with_reducible refine Kd.C_drewN ?_ _) | (with_reducible refine Kd.C_drew ?_))); (case side2 => exact (Kd.R_reads' HO_3.out).2.1); rintro e w' ⟨rfl, ⟨nd, rfl⟩⟩; refine ⟨_, rfl, ?_⟩))
                  (try simp only [← hl12_1, ← hl3_2])
                  go_roundg k2
                  case measure => have := HK1.out; have := HK2.out; omega
                  case rel => exact ⟨(x12_1), (wrap64 (x14_1 + 1)), (by first | rfl | (simp; done) | (simp [*]; done) | (simp; exact (show ∀ a_ b_ : Bool, (a_ == b_) = (!(a_ != b_)) from by decide) _ _) | (rw [Bool.eq_iff_iff]; simp; done) | (simp; rw [Bool.eq_iff_iff]; simp; done)), H', ⟨by have := HK1.out; have := HK2.out; omega⟩, ⟨by (try simp only [hl12_1]); (try simp only [hl3_2]); (with_reducible repeat (first | apply Kd.R_alloc | apply Kd.R_drewN | apply Kd.R_drew)); exact Kd.R_mono HO_12.out (fun _ hk => trivial)⟩, ⟨by repeat (first | (with_reducible first | exact HB.out | apply below_alloc | apply pw_below_drewN | apply below_drew1) | exact HB.out)⟩⟩
                 ·rw [if_neg c35] at H
                  exact absurd H (by simp)
                ·rw [if_neg c34] at H
                 exact absurd H (by simp)
               ·rw [if_neg c33] at H
                exact absurd H (by simp)
       ·rw [if_neg c8] at H
        exact absurd H (by simp)
      ·rw [if_neg c7] at H
       exact absurd H (by simp)
     ·rw [if_neg c6] at H
      exact absurd H (by simp)
    ·rw [if_neg c5] at H
     exact absurd H (by simp)
   ·rw [if_neg c4] at H
    have c4b0 : decide (x14_1 < (y445.length : Int)) = false := decide_eq_false c4
    (try simp only [hl12_1] at c4b0)
    clear c4
    obtain ⟨y458, hy458⟩ : ∃ y_ : List Int, y_ = (([0, 0] : List Int)) := ⟨_, rfl⟩
    replace H : ((some (([y458, (([5, 4] : List Int)), (([(-1)] : List Int)), (([730485] : List Int)), (([730484] : List Int)), (([0, 730484] : List Int))] : List (List Int)) : List (List Int))).bind fun y476 => (letterbaglaw01_lists.l2 k1 y476 (y476.length : Int) 0)) = some r := by first | (rw [hy458]; with_reducible exact H) | (have H2_ := (Option.bind_some _ _).symm.trans H; rw [hy458]; with_reducible exact H2_) | (have H2_ := (Option.bind_some _ _).symm.trans H; with_reducible exact H2_) | with_reducible exact H | (rw [hy458]; exact H) | exact H
    have Ny458 := Aside0.mk hy458
    clear hy458
    obtain ⟨y461, hy461⟩ : ∃ y_ : List Int, y_ = (([5, 4] : List Int)) := ⟨_, rfl⟩
    replace H : ((some (([y458, y461, (([(-1)] : List Int)), (([730485] : List Int)), (([730484] : List Int)), (([0, 730484] : List Int))] : List (List Int)) : List (List Int))).bind fun y476 => (letterbaglaw01_lists.l2 k1 y476 (y476.length : Int) 0)) = some r := by first | (rw [hy461]; with_reducible exact H) | (have H2_ := (Option.bind_some _ _).symm.trans H; rw [hy461]; with_reducible exact H2_) | (have H2_ := (Option.bind_some _ _).symm.trans H; with_reducible exact H2_) | with_reducible exact H | (rw [hy461]; exact H) | exact H
    have Ny461 := Aside0.mk hy461
    clear hy461
    obtain ⟨y464, hy464⟩ : ∃ y_ : List Int, y_ = (([(-1)] : List Int)) := ⟨_, rfl⟩
    replace H : ((some (([y458, y461, y464, (([730485] : List Int)), (([730484] : List Int)), (([0, 730484] : List Int))] : List (List Int)) : List (List Int))).bind fun y476 => (letterbaglaw01_lists.l2 k1 y476 (y476.length : Int) 0)) = some r := by first | (rw [hy464]; with_reducible exact H) | (have H2_ := (Option.bind_some _ _).symm.trans H; rw [hy464]; with_reducible exact H2_) | (have H2_ := (Option.bind_some _ _).symm.trans H; with_reducible exact H2_) | with_reducible exact H | (rw [hy464]; exact H) | exact H
    have Ny464 := Aside0.mk hy464
    clear hy464
    obtain ⟨y467, hy467⟩ : ∃ y_ : List Int, y_ = (([730485] : List Int)) := ⟨_, rfl⟩
    replace H : ((some (([y458, y461, y464, y467, (([730484] : List Int)), (([0, 730484] : List Int))] : List (List Int)) : List (List Int))).bind fun y476 => (letterbaglaw01_lists.l2 k1 y476 (y476.length : Int) 0)) = some r := by first | (rw [hy467]; with_reducible exact H) | (have H2_ := (Option.bind_some _ _).symm.trans H; rw [hy467]; with_reducible exact H2_) | (have H2_ := (Option.bind_some _ _).symm.trans H; with_reducible exact H2_) | with_reducible exact H | (rw [hy467]; exact H) | exact H
    have Ny467 := Aside0.mk hy467
    clear hy467
    obtain ⟨y470, hy470⟩ : ∃ y_ : List Int, y_ = (([730484] : List Int)) := ⟨_, rfl⟩
    replace H : ((some (([y458, y461, y464, y467, y470, (([0, 730484] : List Int))] : List (List Int)) : List (List Int))).bind fun y476 => (letterbaglaw01_lists.l2 k1 y476 (y476.length : Int) 0)) = some r := by first | (rw [hy470]; with_reducible exact H) | (have H2_ := (Option.bind_some _ _).symm.trans H; rw [hy470]; with_reducible exact H2_) | (have H2_ := (Option.bind_some _ _).symm.trans H; with_reducible exact H2_) | with_reducible exact H | (rw [hy470]; exact H) | exact H
    have Ny470 := Aside0.mk hy470
    clear hy470
    obtain ⟨y473, hy473⟩ : ∃ y_ : List Int, y_ = (([0, 730484] : List Int)) := ⟨_, rfl⟩
    replace H : ((some (([y458, y461, y464, y467, y470, y473] : List (List Int)) : List (List Int))).bind fun y476 => (letterbaglaw01_lists.l2 k1 y476 (y476.length : Int) 0)) = some r := by first | (rw [hy473]; with_reducible exact H) | (have H2_ := (Option.bind_some _ _).symm.trans H; rw [hy473]; with_reducible exact H2_) | (have H2_ := (Option.bind_some _ _).symm.trans H; with_reducible exact H2_) | with_reducible exact H | (rw [hy473]; exact H) | exact H
    have Ny473 := Aside0.mk hy473
    clear hy473
    obtain ⟨y476, hy476⟩ : ∃ y_ : List (List Int), y_ = (([y458, y461, y464, y467, y470, y473] : List (List Int))) := ⟨_, rfl⟩
    replace H : (letterbaglaw01_lists.l2 k1 y476 (y476.length : Int) 0) = some r := by first | (rw [hy476]; with_reducible exact H) | (have H2_ := (Option.bind_some _ _).symm.trans H; rw [hy476]; with_reducible exact H2_) | (have H2_ := (Option.bind_some _ _).symm.trans H; with_reducible exact H2_) | with_reducible exact H | (rw [hy476]; exact H) | exact H
    have Ny476 := Aside0.mk hy476
    clear hy476
    have H' := Aside0.mk H
    clear H
    go_wp2_with (first | ((with_reducible refine gate_dst (N := 78) rfl ?_); refine Kd.R_lit (Kd.int .i64) _ 3 ?hg (N := 78) ?hd (xs := ([0, 0] : List Int)) (inner := [.int .i64 0, .int .i64 0]) (ok := fun _ => True) (okp := fun _ => True) ?hr ?hp (fun _ hk => hk) trivial (Below.refl _ _) (Nat.le_refl _) (by simp) ?_; (case hd => rfl); (case hg => rfl); (case hr => first | (go_simp; done) | (go_simp; rfl)); (case hp => exact (Reps.one (show Kd.M (Kd.int .i64) _ _ _ 0 [.int .i64 0] from rfl) (Reps.one (show Kd.M (Kd.int .i64) _ _ _ 0 [.int .i64 0] from rfl) (Reps.none _ _)))); intro v459 w44 ho45 hb hg_ hnew_; clear hg_ hnew_; (first | rw [← Ny458.out] at ho45 | (simp only [Int.reduceToNat] at ho45; rw [← Ny458.out] at ho45)); have n0_ := Aside0.mk (Kd.R_elder' (by (with_reducible repeat (first | apply Kd.R_alloc | apply Kd.R_drewN | apply Kd.R_drew)); exact HO_12.out) (Kd.R_base ho45) hb); have n1_ := Aside0.mk (Kd.R_lower (Kd.R_new' ho45 (Kd.R_lt (by (with_reducible repeat (first | apply Kd.R_alloc | apply Kd.R_drewN | apply Kd.R_drew)); exact HO_12.out))) (below_size (by repeat (first | (with_reducible first | exact HB.out | apply below_alloc | apply pw_below_drewN | apply below_drew1) | exact HB.out)))); have n2_ := Aside0.mk (below_step (by repeat (first | (with_reducible first | exact HB.out | apply below_alloc | apply pw_below_drewN | apply below_drew1) | exact HB.out)) hb); clear HO_12; clear HB; have HO_12 := n0_; have HO460 := n1_; have HB := n2_; clear n0_ n1_ n2_; clear hb ho45) | ((with_reducible refine gate_dst (N := 79) rfl ?_); refine Kd.R_lit (Kd.int .i64) _ 3 ?hg (N := 79) ?hd (xs := ([5, 4] : List Int)) (inner := [.int .i64 5, .int .i64 4]) (ok := fun _ => True) (okp := fun _ => True) ?hr ?hp (fun _ hk => hk) trivial (Below.refl _ _) (Nat.le_refl _) (by simp) ?_; (case hd => rfl); (case hg => rfl); (case hr => first | (go_simp; done) | (go_simp; rfl)); (case hp => exact (Reps.one (show Kd.M (Kd.int .i64) _ _ _ 5 [.int .i64 5] from rfl) (Reps.one (show Kd.M (Kd.int .i64) _ _ _ 4 [.int .i64 4] from rfl) (Reps.none _ _)))); intro v462 w46 ho47 hb hg_ hnew_; clear hg_ hnew_; (first | rw [← Ny461.out] at ho47 | (simp only [Int.reduceToNat] at ho47; rw [← Ny461.out] at ho47)); have n0_ := Aside0.mk (Kd.R_elder' (by (with_reducible repeat (first | apply Kd.R_alloc | apply Kd.R_drewN | apply Kd.R_drew)); exact HO_12.out) (Kd.R_base ho47) hb); have n1_ := Aside0.mk (Kd.R_elder' (by (with_reducible repeat (first | apply Kd.R_alloc | apply Kd.R_drewN | apply Kd.R_drew)); exact HO460.out) (Kd.R_base ho47) hb); have n2_ := Aside0.mk (Kd.R_lower (Kd.R_new' (Kd.R_new' ho47 (Kd.R_lt (by (with_reducible repeat (first | apply Kd.R_alloc | apply Kd.R_drewN | apply Kd.R_drew)); exact HO_12.out))) (Kd.R_lt (by (with_reducible repeat (first | apply Kd.R_alloc | apply Kd.R_drewN | apply Kd.R_drew)); exact HO460.out))) (below_size (by repeat (first | (with_reducible first | exact HB.out | apply below_alloc | apply pw_below_drewN | apply below_drew1) | exact HB.out)))); have n3_ := Aside0.mk (below_step (by repeat (first | (with_reducible first | exact HB.out | apply below_alloc | apply pw_below_drewN | apply below_drew1) | exact HB.out)) hb); clear HO_12; clear HO460; clear HB; have HO_12 := n0_; have HO460 := n1_; have HO463 := n2_; have HB := n3_; clear n0_ n1_ n2_ n3_; clear hb ho47) | ((with_reducible refine gate_dst (N := 80) rfl ?_); refine Kd.R_lit (Kd.int .i64) _ 3 ?hg (N := 80) ?hd (xs := ([(-1)] : List Int)) (inner := [.int .i64 (-1)]) (ok := fun _ => True) (okp := fun _ => True) ?hr ?hp (fun _ hk => hk) trivial (Below.refl _ _) (Nat.le_refl _) (by simp) ?_; (case hd => rfl); (case hg => rfl); (case hr => first | (go_simp; done) | (go_simp; rfl)); (case hp => exact (Reps.one (show Kd.M (Kd.int .i64) _ _ _ (-1) [.int .i64 (-1)] from rfl) (Reps.none _ _))); intro v465 w48 ho49 hb hg_ hnew_; clear hg_ hnew_; (first | rw [← Ny464.out] at ho49 | (simp only [Int.reduceToNat] at ho49; rw [← Ny464.out] at ho49)); have n0_ := Aside0.mk (Kd.R_elder' (by (with_reducible repeat (first | apply Kd.R_alloc | apply Kd.R_drewN | apply Kd.R_drew)); exact HO_12.out) (Kd.R_base ho49) hb); have n1_ := Aside0.mk (Kd.R_elder' (by (with_reducible repeat (first | apply Kd.R_alloc | apply Kd.R_drewN | apply Kd.R_drew)); exact HO460.out) (Kd.R_base ho49) hb); have n2_ := Aside0.mk (Kd.R_elder' (by (with_reducible repeat (first | apply Kd.R_alloc | apply Kd.R_drewN | apply Kd.R_drew)); exact HO463.out) (Kd.R_base ho49) hb); have n3_ := Aside0.mk (Kd.R_lower (Kd.R_new' (Kd.R_new' (Kd.R_new' ho49 (Kd.R_lt (by (with_reducible repeat (first | apply Kd.R_alloc | apply Kd.R_drewN | apply Kd.R_drew)); exact HO_12.out))) (Kd.R_lt (by (with_reducible repeat (first | apply Kd.R_alloc | apply Kd.R_drewN | apply Kd.R_drew)); exact HO460.out))) (Kd.R_lt (by (with_reducible repeat (first | apply Kd.R_alloc | apply Kd.R_drewN | apply Kd.R_drew)); exact HO463.out))) (below_size (by repeat (first | (with_reducible first | exact HB.out | apply below_alloc | apply pw_below_drewN | apply below_drew1) | exact HB.out)))); have n4_ := Aside0.mk (below_step (by repeat (first | (with_reducible first | exact HB.out | apply below_alloc | apply pw_below_drewN | apply below_drew1) | exact HB.out)) hb); clear HO_12; clear HO460; clear HO463; clear HB; have HO_12 := n0_; have HO460 := n1_; have HO463 := n2_; have HO466 := n3_; have HB := n4_; clear n0_ n1_ n2_ n3_ n4_; clear hb ho49) | ((with_reducible refine gate_dst (N := 81) rfl ?_); refine Kd.R_lit (Kd.int .i64) _ 3 ?hg (N := 81) ?hd (xs := ([730485] : List Int)) (inner := [.int .i64 730485]) (ok := fun _ => True) (okp := fun _ => True) ?hr ?hp (fun _ hk => hk) trivial (Below.refl _ _) (Nat.le_refl _) (by simp) ?_; (case hd => rfl); (case hg => rfl); (case hr => first | (go_simp; done) | (go_simp; rfl)); (case hp => exact (Reps.one (show Kd.M (Kd.int .i64) _ _ _ 730485 [.int .i64 730485] from rfl) (Reps.none _ _))); intro v468 w50 ho51 hb hg_ hnew_; clear hg_ hnew_; (first | rw [← Ny467.out] at ho51 | (simp only [Int.reduceToNat] at ho51; rw [← Ny467.out] at ho51)); have n0_ := Aside0.mk (Kd.R_elder' (by (with_reducible repeat (first | apply Kd.R_alloc | apply Kd.R_drewN | apply Kd.R_drew)); exact HO_12.out) (Kd.R_base ho51) hb); have n1_ := Aside0.mk (Kd.R_elder' (by (with_reducible repeat (first | apply Kd.R_alloc | apply Kd.R_drewN | apply Kd.R_drew)); exact HO460.out) (Kd.R_base ho51) hb); have n2_ := Aside0.mk (Kd.R_elder' (by (with_reducible repeat (first | apply Kd.R_alloc | apply Kd.R_drewN | apply Kd.R_drew)); exact HO463.out) (Kd.R_base ho51) hb); have n3_ := Aside0.mk (Kd.R_elder' (by (with_reducible repeat (first | apply Kd.R_alloc | apply Kd.R_drewN | apply Kd.R_drew)); exact HO466.out) (Kd.R_base ho51) hb); have n4_ := Aside0.mk (Kd.R_lower (Kd.R_new' (Kd.R_new' (Kd.R_new' (Kd.R_new' ho51 (Kd.R_lt (by (with_reducible repeat (first | apply Kd.R_alloc | apply Kd.R_drewN | apply Kd.R_drew)); exact HO_12.out))) (Kd.R_lt (by (with_reducible repeat (first | apply Kd.R_alloc | apply Kd.R_drewN | apply Kd.R_drew)); exact HO460.out))) (Kd.R_lt (by (with_reducible repeat (first | apply Kd.R_alloc | apply Kd.R_drewN | apply Kd.R_drew)); exact HO463.out))) (Kd.R_lt (by (with_reducible repeat (first | apply Kd.R_alloc | apply Kd.R_drewN | apply Kd.R_drew)); exact HO466.out))) (below_size (by repeat (first | (with_reducible first | exact HB.out | apply below_alloc | apply pw_below_drewN | apply below_drew1) | exact HB.out)))); have n5_ := Aside0.mk (below_step (by repeat (first | (with_reducible first | exact HB.out | apply below_alloc | apply pw_below_drewN | apply below_drew1) | exact HB.out)) hb); clear HO_12; clear HO460; clear HO463; clear HO466; clear HB; have HO_12 := n0_; have HO460 := n1_; have HO463 := n2_; have HO466 := n3_; have HO469 := n4_; have HB := n5_; clear n0_ n1_ n2_ n3_ n4_ n5_; clear hb ho51) | ((with_reducible refine gate_dst (N := 82) rfl ?_); refine Kd.R_lit (Kd.int .i64) _ 3 ?hg (N := 82) ?hd (xs := ([730484] : List Int)) (inner := [.int .i64 730484]) (ok := fun _ => True) (okp := fun _ => True) ?hr ?hp (fun _ hk => hk) trivial (Below.refl _ _) (Nat.le_refl _) (by simp) ?_; (case hd => rfl); (case hg => rfl); (case hr => first | (go_simp; done) | (go_simp; rfl)); (case hp => exact (Reps.one (show Kd.M (Kd.int .i64) _ _ _ 730484 [.int .i64 730484] from rfl) (Reps.none _ _))); intro v471 w52 ho53 hb hg_ hnew_; clear hg_ hnew_; (first | rw [← Ny470.out] at ho53 | (simp only [Int.reduceToNat] at ho53; rw [← Ny470.out] at ho53)); have n0_ := Aside0.mk (Kd.R_elder' (by (with_reducible repeat (first | apply Kd.R_alloc | apply Kd.R_drewN | apply Kd.R_drew)); exact HO_12.out) (Kd.R_base ho53) hb); have n1_ := Aside0.mk (Kd.R_elder' (by (with_reducible repeat (first | apply Kd.R_alloc | apply Kd.R_drewN | apply Kd.R_drew)); exact HO460.out) (Kd.R_base ho53) hb); have n2_ := Aside0.mk (Kd.R_elder' (by (with_reducible repeat (first | apply Kd.R_alloc | apply Kd.R_drewN | apply Kd.R_drew)); exact HO463.out) (Kd.R_base ho53) hb); have n3_ := Aside0.mk (Kd.R_elder' (by (with_reducible repeat (first | apply Kd.R_alloc | apply Kd.R_drewN | apply Kd.R_drew)); exact HO466.out) (Kd.R_base ho53) hb); have n4_ := Aside0.mk (Kd.R_elder' (by (with_reducible repeat (first | apply Kd.R_alloc | apply Kd.R_drewN | apply Kd.R_drew)); exact HO469.out) (Kd.R_base ho53) hb); have n5_ := Aside0.mk (Kd.R_lower (Kd.R_new' (Kd.R_new' (Kd.R_new' (Kd.R_new' (Kd.R_new' ho53 (Kd.R_lt (by (with_reducible repeat (first | apply Kd.R_alloc | apply Kd.R_drewN | apply Kd.R_drew)); exact HO_12.out))) (Kd.R_lt (by (with_reducible repeat (first | apply Kd.R_alloc | apply Kd.R_drewN | apply Kd.R_drew)); exact HO460.out))) (Kd.R_lt (by (with_reducible repeat (first | apply Kd.R_alloc | apply Kd.R_drewN | apply Kd.R_drew)); exact HO463.out))) (Kd.R_lt (by (with_reducible repeat (first | apply Kd.R_alloc | apply Kd.R_drewN | apply Kd.R_drew)); exact HO466.out))) (Kd.R_lt (by (with_reducible repeat (first | apply Kd.R_alloc | apply Kd.R_drewN | apply Kd.R_drew)); exact HO469.out))) (below_size (by repeat (first | (with_reducible first | exact HB.out | apply below_alloc | apply pw_below_drewN | apply below_drew1) | exact HB.out)))); have n6_ := Aside0.mk (below_step (by repeat (first | (with_reducible first | exact HB.out | apply below_alloc | apply pw_below_drewN | apply below_drew1) | exact HB.out)) hb); clear HO_12; clear HO460; clear HO463; clear HO466; clear HO469; clear HB; have HO_12 := n0_; have HO460 := n1_; have HO463 := n2_; have HO466 := n3_; have HO469 := n4_; have HO472 := n5_; have HB := n6_; clear n0_ n1_ n2_ n3_ n4_ n5_ n6_; clear hb ho53) | ((with_reducible refine gate_dst (N := 83) rfl ?_); refine Kd.R_lit (Kd.int .i64) _ 3 ?hg (N := 83) ?hd (xs := ([0, 730484] : List Int)) (inner := [.int .i64 0, .int .i64 730484]) (ok := fun _ => True) (okp := fun _ => True) ?hr ?hp (fun _ hk => hk) trivial (Below.refl _ _) (Nat.le_refl _) (by simp) ?_; (case hd => rfl); (case hg => rfl); (case hr => first | (go_simp; done) | (go_simp; rfl)); (case hp => exact (Reps.one (show Kd.M (Kd.int .i64) _ _ _ 0 [.int .i64 0] from rfl) (Reps.one (show Kd.M (Kd.int .i64) _ _ _ 730484 [.int .i64 730484] from rfl) (Reps.none _ _)))); intro v474 w54 ho55 hb hg_ hnew_; clear hg_ hnew_; (first | rw [← Ny473.out] at ho55 | (simp only [Int.reduceToNat] at ho55; rw [← Ny473.out] at ho55)); have n0_ := Aside0.mk (Kd.R_elder' (by (with_reducible repeat (first | apply Kd.R_alloc | apply Kd.R_drewN | apply Kd.R_drew)); exact HO_12.out) (Kd.R_base ho55) hb); have n1_ := Aside0.mk (Kd.R_elder' (by (with_reducible repeat (first | apply Kd.R_alloc | apply Kd.R_drewN | apply Kd.R_drew)); exact HO460.out) (Kd.R_base ho55) hb); have n2_ := Aside0.mk (Kd.R_elder' (by (with_reducible repeat (first | apply Kd.R_alloc | apply Kd.R_drewN | apply Kd.R_drew)); exact HO463.out) (Kd.R_base ho55) hb); have n3_ := Aside0.mk (Kd.R_elder' (by (with_reducible repeat (first | apply Kd.R_alloc | apply Kd.R_drewN | apply Kd.R_drew)); exact HO466.out) (Kd.R_base ho55) hb); have n4_ := Aside0.mk (Kd.R_elder' (by (with_reducible repeat (first | apply Kd.R_alloc | apply Kd.R_drewN | apply Kd.R_drew)); exact HO469.out) (Kd.R_base ho55) hb); have n5_ := Aside0.mk (Kd.R_elder' (by (with_reducible repeat (first | apply Kd.R_alloc | apply Kd.R_drewN | apply Kd.R_drew)); exact HO472.out) (Kd.R_base ho55) hb); have n6_ := Aside0.mk (Kd.R_lower (Kd.R_new' (Kd.R_new' (Kd.R_new' (Kd.R_new' (Kd.R_new' (Kd.R_new' ho55 (Kd.R_lt (by (with_reducible repeat (first | apply Kd.R_alloc | apply Kd.R_drewN | apply Kd.R_drew)); exact HO_12.out))) (Kd.R_lt (by (with_reducible repeat (first | apply Kd.R_alloc | apply Kd.R_drewN | apply Kd.R_drew)); exact HO460.out))) (Kd.R_lt (by (with_reducible repeat (first | apply Kd.R_alloc | apply Kd.R_drewN | apply Kd.R_drew)); exact HO463.out))) (Kd.R_lt (by (with_reducible repeat (first | apply Kd.R_alloc | apply Kd.R_drewN | apply Kd.R_drew)); exact HO466.out))) (Kd.R_lt (by (with_reducible repeat (first | apply Kd.R_alloc | apply Kd.R_drewN | apply Kd.R_drew)); exact HO469.out))) (Kd.R_lt (by (with_reducible repeat (first | apply Kd.R_alloc | apply Kd.R_drewN | apply Kd.R_drew)); exact HO472.out))) (below_size (by repeat (first | (with_reducible first | exact HB.out | apply below_alloc | apply pw_below_drewN | apply below_drew1) | exact HB.out)))); have n7_ := Aside0.mk (below_step (by repeat (first | (with_reducible first | exact HB.out | apply below_alloc | apply pw_below_drewN | apply below_drew1) | exact HB.out)) hb); clear HO_12; clear HO460; clear HO463; clear HO466; clear HO469; clear HO472; clear HB; have HO_12 := n0_; have HO460 := n1_; have HO463 := n2_; have HO466 := n3_; have HO469 := n4_; have HO472 := n5_; have HO475 := n6_; have HB := n7_; clear n0_ n1_ n2_ n3_ n4_ n5_ n6_ n7_; clear hb ho55; obtain ⟨Ao56, co56, eo56⟩ := Kd.R_slice HO460.out; subst eo56; obtain ⟨Ao57, co57, eo57⟩ := Kd.R_slice HO463.out; subst eo57; obtain ⟨Ao58, co58, eo58⟩ := Kd.R_slice HO466.out; subst eo58; obtain ⟨Ao59, co59, eo59⟩ := Kd.R_slice HO469.out; subst eo59; obtain ⟨Ao60, co60, eo60⟩ := Kd.R_slice HO472.out; subst eo60; obtain ⟨Ao61, co61, eo61⟩ := Kd.R_slice HO475.out; subst eo61) | ((with_reducible refine gate_dst (N := 84) rfl ?_); refine Kd.N_lit (Kd.slice 3 (Kd.int .i64)) _ 22 ?hg (N' := 84) ?hd (xs := ([y458, y461, y464, y467, y470, y473] : List (List Int))) (inner := [.slice Ao56 y458.length co56, .slice Ao57 y461.length co57, .slice Ao58 y464.length co58, .slice Ao59 y467.length co59, .slice Ao60 y470.length co60, .slice Ao61 y473.length co61]) (ok := (fun k_ => some k_ ≠ (.slice Ao3 x12_1.length co3 : Value).ownBlock)) (okp := (fun k_ => some k_ ≠ (.slice Ao3 x12_1.length co3 : Value).ownBlock)) ?hr ?hp (fun _ hk => hk) ((show ∀ k_, w54.heap.size ≤ k_ → (fun k_ => some k_ ≠ (.slice Ao3 x12_1.length co3 : Value).ownBlock) k_ from fun k_ hk => Kd.fresh' (Kd.R_lt (by (with_reducible repeat (first | apply Kd.R_alloc | apply Kd.R_drewN | apply Kd.R_drew)); exact HO_12.out)) k_ hk) _ (Nat.le_refl _)) (Below.refl _ _) (Nat.le_refl _) (by simp) ?_; (case hd => rfl); (case hg => rfl); (case hr => first | (go_simp; done) | (go_simp; rfl)); (case hp => exact (Reps.one (show Kd.FK (Kd.slice 3 (Kd.int .i64)) _ _ y458 [.slice Ao56 y458.length co56] from (Kd.FK_slice_mk (Kd.R_reads' (Kd.R_mono (ok' := (fun k_ => some k_ ≠ (.slice Ao3 x12_1.length co3 : Value).ownBlock)) (HO460.out) (fun k_ hk => hk.1.1.1.1.1.2))).2.1 (Kd.R_F (Kd.R_mono (ok' := (fun k_ => some k_ ≠ (.slice Ao3 x12_1.length co3 : Value).ownBlock)) (HO460.out) (fun k_ hk => hk.1.1.1.1.1.2))))) (Reps.one (show Kd.FK (Kd.slice 3 (Kd.int .i64)) _ _ y461 [.slice Ao57 y461.length co57] from (Kd.FK_slice_mk (Kd.R_reads' (Kd.R_mono (ok' := (fun k_ => some k_ ≠ (.slice Ao3 x12_1.length co3 : Value).ownBlock)) (HO463.out) (fun k_ hk => hk.1.1.1.1.1.2))).2.1 (Kd.R_F (Kd.R_mono (ok' := (fun k_ => some k_ ≠ (.slice Ao3 x12_1.length co3 : Value).ownBlock)) (HO463.out) (fun k_ hk => hk.1.1.1.1.1.2))))) (Reps.one (show Kd.FK (Kd.slice 3 (Kd.int .i64)) _ _ y464 [.slice Ao58 y464.length co58] from (Kd.FK_slice_mk (Kd.R_reads' (Kd.R_mono (ok' := (fun k_ => some k_ ≠ (.slice Ao3 x12_1.length co3 : Value).ownBlock)) (HO466.out) (fun k_ hk => hk.1.1.1.1.1.2))).2.1 (Kd.R_F (Kd.R_mono (ok' := (fun k_ => some k_ ≠ (.slice Ao3 x12_1.length co3 : Value).ownBlock)) (HO466.out) (fun k_ hk => hk.1.1.1.1.1.2))))) (Reps.one (show Kd.FK (Kd.slice 3 (Kd.int .i64)) _ _ y467 [.slice Ao59 y467.length co59] from (Kd.FK_slice_mk (Kd.R_reads' (Kd.R_mono (ok' := (fun k_ => some k_ ≠ (.slice Ao3 x12_1.length co3 : Value).ownBlock)) (HO469.out) (fun k_ hk => hk.1.1.1.1.1.2))).2.1 (Kd.R_F (Kd.R_mono (ok' := (fun k_ => some k_ ≠ (.slice Ao3 x12_1.length co3 : Value).ownBlock)) (HO469.out) (fun k_ hk => hk.1.1.1.1.1.2))))) (Reps.one (show Kd.FK (Kd.slice 3 (Kd.int .i64)) _ _ y470 [.slice Ao60 y470.length co60] from (Kd.FK_slice_mk (Kd.R_reads' (Kd.R_mono (ok' := (fun k_ => some k_ ≠ (.slice Ao3 x12_1.length co3 : Value).ownBlock)) (HO472.out) (fun k_ hk => hk.1.1.1.1.1.2))).2.1 (Kd.R_F (Kd.R_mono (ok' := (fun k_ => some k_ ≠ (.slice Ao3 x12_1.length co3 : Value).ownBlock)) (HO472.out) (fun k_ hk => hk.1.1.1.1.1.2))))) (Reps.one (show Kd.FK (Kd.slice 3 (Kd.int .i64)) _ _ y473 [.slice Ao61 y473.length co61] from (Kd.FK_slice_mk (Kd.R_reads' (Kd.R_mono (ok' := (fun k_ => some k_ ≠ (.slice Ao3 x12_1.length co3 : Value).ownBlock)) (HO475.out) (fun k_ hk => hk.1.1.1.1.1.2))).2.1 (Kd.R_F (Kd.R_mono (ok' := (fun k_ => some k_ ≠ (.slice Ao3 x12_1.length co3 : Value).ownBlock)) (HO475.out) (fun k_ hk => hk.1.1.1.1.1.2))))) (Reps.none _ _)))))))); intro v477 w62 ho63 hb hg_ hnew_; clear hg_ hnew_; (first | rw [← Ny476.out] at ho63 | (simp only [Int.reduceToNat] at ho63; rw [← Ny476.out] at ho63)); have n0_ := Aside0.mk (Kd.R_below (by (with_reducible repeat (first | apply Kd.R_alloc | apply Kd.R_drewN | apply Kd.R_drew)); exact HO_12.out) hb); have n1_ := Aside0.mk (Kd.N_lower ho63 (below_size (by repeat (first | (with_reducible first | exact HB.out | apply below_alloc | apply pw_below_drewN | apply below_drew1) | exact HB.out)))); have n2_ := Aside0.mk (below_step (by repeat (first | (with_reducible first | exact HB.out | apply below_alloc | apply pw_below_drewN | apply below_drew1) | exact HB.out)) hb); clear HO_12; clear HB; clear HO460; clear HO463; clear HO466; clear HO469; clear HO472; clear HO475; have HO_12 := n0_; have HO478 := n1_; have HB := n2_; clear n0_ n1_ n2_; clear hb ho63; obtain ⟨Ao64, co64, eo64⟩ := Kd.N_slice HO478.out; subst eo64))
    go_loopg [86] k1 (fun kq v86 w' => ∃ (x86_2 : Int), v86 = .int .i64 x86_2 ∧ Aside0 (letterbaglaw01_lists.l2 kq y476 (y476.length : Int) x86_2 = some r) ∧ Aside0 (kq ≤ k1) ∧ Aside0 (Kd.N (Kd.slice 3 (Kd.int .i64)) 22 w' w.heap.size (fun _ => True) (.slice Ao64 y476.length co64) y476) ∧ Aside0 (Below w.heap.size w w'))
    case atStart => exact ⟨(0), (by first | rfl | (simp; done) | (simp [*]; done) | (simp; exact (show ∀ a_ b_ : Bool, (a_ == b_) = (!(a_ != b_)) from by decide) _ _) | (rw [Bool.eq_iff_iff]; simp; done) | (simp; rw [Bool.eq_iff_iff]; simp; done)), H', ⟨Nat.le_refl _⟩, ⟨by (try simp only [hl12_1]); (with_reducible repeat (first | apply Kd.N_alloc | apply Kd.N_drewN | apply Kd.N_drew)); exact Kd.N_mono HO478.out (fun _ hk => trivial)⟩, ⟨by repeat (first | (with_reducible first | exact HB.out | apply below_alloc | apply pw_below_drewN | apply below_drew1) | exact HB.out)⟩⟩
    case round =>
     clear H'
     try clear c1
     try clear p1
     try clear q1
     try clear hx1
     try clear hf1
     try clear c2
     try clear p2
     try clear c3
     try clear c4
     try clear c4b0
     try clear p4
     try clear q4
     try clear hx4
     try clear c5
     try clear c5b0
     try clear c6
     try clear c6b0
     try clear p6
     try clear c7
     try clear c7b0
     try clear c7b1
     try clear c8
     try clear c8b0
     try clear c8b1
     try clear c12
     try clear c12b0
     try clear c13
     try clear c13b0
     try clear c14
     try clear c14b0
     try clear p15
     try clear q15
     try clear hx15
     try clear hf15
     try clear c16
     try clear c21
     try clear c21b0
     try clear c21b1
     try clear c21b2
     try clear c24
     try clear c24b0
     try clear c24b1
     try clear c24b2
     try clear c26
     try clear c27
     try clear c27b0
     try clear c27b1
     try clear c27b2
     try clear c28
     try clear c29
     try clear c30
     try clear c30b0
     try clear c33
     try clear c33b0
     try clear c33b1
     try clear c34
     try clear c34b0
     try clear c34b1
     try clear c35
     try clear c35b0
     try clear c35b1
     try clear p44
     try clear q44
     try clear hx44
     try clear p64
     try clear hx15_0
     try clear hx448_0
     try clear p15
     try clear p2
     try clear p4
     try clear p448
     try clear q15
     try clear q4
     try clear q448
     obtain ⟨x86_2, rfl, HA, HK2, HO_84, HB⟩ := hrel
     cases gk with
     | zero => exact absurd HA.out (by simp [letterbaglaw01_lists.l2])
     | succ k2 =>
      have H := HA.out
      clear HA
      simp only [letterbaglaw01_lists.l2] at H
      by_cases c65 : x86_2 < (y476.length : Int)
      ·rw [if_pos c65] at H
       have c65b0 : decide (x86_2 < (y476.length : Int)) = true := decide_eq_true c65
       clear c65
       by_cases c66 : 0 ≤ x86_2
       ·rw [if_pos c66] at H
        have c66b0 : decide (0 ≤ x86_2) = true := decide_eq_true c66
        clear c66
        by_cases c67 : x86_2 < (y476.length : Int)
        ·rw [if_pos c67] at H
         have c67b0 : decide (x86_2 < (y476.length : Int)) = true := decide_eq_true c67
         clear c67
         replace H := Option.bind_eq_some_iff.mp H
         obtain ⟨t480, A680, H⟩ := H
         replace H : (if t480 = true then (letterbaglaw01_lists.l2 k2 y476 (y476.length : Int) (wrap64 (x86_2 + 1))) else (none)) = some r := H
         have A68 := Aside0.mk A680
         clear A680
         by_cases c69 : t480 = true
         ·subst c69
          have H1 : (letterbaglaw01_lists.l2 k2 y476 (y476.length : Int) (wrap64 (x86_2 + 1))) = some r := by rw [if_pos rfl] at H; exact H
          clear H
          have H := H1
          clear H1
          have H' := Aside0.mk H
          clear H
          have p479 : 0 ≤ (x86_2 : Int) := of_decide_eq_true (by first | (with_reducible assumption) | assumption)
          have q479 : x86_2 < (y476.length : Int) := of_decide_eq_true (by first | (with_reducible assumption) | assumption)
          obtain ⟨ad479, A479_0, c479_0, e479, hx479_0, hl479_0, hi479_0⟩ := at_L2 (Kd.N_reads' HO_84.out).2.2 x86_2 p479 q479
          cases e479
          obtain ⟨ce479, hce479, hMe479, hcc479⟩ := Kd.N_get HO_84.out [] x86_2 p479 (by first | exact q479 | exact of_decide_eq_true (by first | (with_reducible assumption) | assumption) | (have e_ := (Kd.N_reads' HO_84.out).1; omega))
          obtain ⟨ua479_0, uc479_0, rfl, ul479_0, ge479_0⟩ := Kd.FK_slice_open hMe479
          have hv479_0 := hcc479 0 _ rfl
          rw [Nat.add_zero, show ((Kd.slice 3 (Kd.int .i64))).sz = 1 from rfl, Nat.mul_one] at hv479_0
          replace hv479_0 := Option.some.inj (hv479_0.symm.trans hx479_0)
          injection hv479_0 with hva_ hvn_ hvc_
          rw [hva_] at ge479_0
          rw [hvc_] at ul479_0
          have HL479_0 := Aside0.mk (show Kd.V (Kd.int .i64) 3 _ w.heap.size _ _ (rd_L2 y476 x86_2) from Kd.V_mk ul479_0 ge479_0)
          clear hva_ hvn_ hvc_ ge479_0 ul479_0
          clear hcc479 hce479
          have HR479_0 := Aside0.mk hi479_0
          have HC479_0 := Aside0.mk hl479_0
          clear hi479_0 hl479_0
          replace p479 := eq_true p479
          replace q479 := eq_true q479
          go_wp2_with (first | ((with_reducible refine gate_callee (f := 15) rfl ?_); refine goesL_ (some 91) rfl rfl Tryd.func15 (by kernel_rfl) rfl #[.slice A479_0 (rd_L2 y476 x86_2).length c479_0, .int .i64 0, .int .i64 9, .int .i64 3, .int .i64 101, .int .i64 101] rfl (by (try simp only [List.map_toArray, List.map_cons, List.map_nil]); first | done | rfl | (simp only [List.length_drop, List.length_take]; rfl)) ?_; (with_reducible refine (letterbaglaw01_civilWorks.calls k2 _ _ (rd_L2 y476 x86_2) 0 9 3 101 101 true _ ?tabG ?side1 ?side2 A68.out).mono ?_); (case tabG => (first | exact hg | exact ⟨hg.out.below (by repeat (first | (with_reducible first | exact HB.out | apply below_alloc | apply pw_below_drewN | apply below_drew1) | exact HB.out))⟩)); (case side1 => repeat (first | exact (by repeat (first | (with_reducible exact HR479_0.out) | (with_reducible refine Kd.C_alloc ?_ _) | (with_reducible refine Kd.C_drewN ?_ _) | (with_reducible refine Kd.C_drew ?_) | exact HR479_0.out)) | (with_reducible refine Kd.C_alloc ?_ _) | (with_reducible refine Kd.C_drewN ?_ _) | (with_reducible refine Kd.C_drew ?_))); (case side2 => exact HC479_0.out); rintro e w70 ⟨rfl, hb⟩; refine ⟨_, rfl, ?_⟩; have n0_ := Aside0.mk (Kd.N_below (by (with_reducible repeat (first | apply Kd.N_alloc | apply Kd.N_drewN | apply Kd.N_drew)); exact HO_84.out) hb); have n1_ := Aside0.mk (Kd.V_below (by (with_reducible repeat (first | apply Kd.V_alloc | apply Kd.V_drewN | apply Kd.V_drew)); exact HL479_0.out) hb); have n2_ := Aside0.mk (Kd.C_below (by repeat (first | (with_reducible exact HR479_0.out) | (with_reducible refine Kd.C_alloc ?_ _) | (with_reducible refine Kd.C_drewN ?_ _) | (with_reducible refine Kd.C_drew ?_) | exact HR479_0.out)) hb); have n3_ := Aside0.mk (below_step (by repeat (first | (with_reducible first | exact HB.out | apply below_alloc | apply pw_below_drewN | apply below_drew1) | exact HB.out)) hb); clear HO_84; clear HL479_0; clear HR479_0; clear HB; have HO_84 := n0_; have HL479_0 := n1_; have HR479_0 := n2_; have HB := n3_; clear n0_ n1_ n2_ n3_; (try clear hb); (try clear hb2); (try clear hk); (try clear hi)))
          go_roundg k2
          case measure => have := HK1.out; have := HK2.out; omega
          case rel => exact ⟨(wrap64 (x86_2 + 1)), (by first | rfl | (simp; done) | (simp [*]; done) | (simp; exact (show ∀ a_ b_ : Bool, (a_ == b_) = (!(a_ != b_)) from by decide) _ _) | (rw [Bool.eq_iff_iff]; simp; done) | (simp; rw [Bool.eq_iff_iff]; simp; done)), H', ⟨by have := HK1.out; have := HK2.out; omega⟩, ⟨by (try simp only [hl12_1]); (with_reducible repeat (first | apply Kd.N_alloc | apply Kd.N_drewN | apply Kd.N_drew)); exact HO_84.out⟩, ⟨by repeat (first | (with_reducible first | exact HB.out | apply below_alloc | apply pw_below_drewN | apply below_drew1) | exact HB.out)⟩⟩
         ·rw [if_neg c69] at H
          exact absurd H (by simp)
        ·rw [if_neg c67] at H
         exact absurd H (by simp)
       ·rw [if_neg c66] at H
        exact absurd H (by simp)
      ·rw [if_neg c65] at H
       have c65b0 : decide (x86_2 < (y476.length : Int)) = false := decide_eq_false c65
       clear c65
       replace H := Option.bind_eq_some_iff.mp H
       obtain ⟨t481, A720, H⟩ := H
       replace H : (some t481) = some r := H
       have A72 := Aside0.mk A720
       clear A720
       obtain rfl := Option.some.inj H
       go_wp2_with (first | ((with_reducible refine gate_callee (f := 17) rfl ?_); refine goesL_ (some 94) rfl rfl Tryd.func17 (by kernel_rfl) rfl #[] rfl (by (try simp only [List.map_toArray, List.map_cons, List.map_nil]); first | done | rfl | (simp only [List.length_drop, List.length_take]; rfl)) ?_; (with_reducible refine (letterbaglaw01_awake.calls k2  t481 _ ?tabG A72.out).mono ?_); (case tabG => (first | exact hg | exact ⟨hg.out.below (by repeat (first | (with_reducible first | exact HB.out | apply below_alloc | apply pw_below_drewN | apply below_drew1) | exact HB.out))⟩)); rintro e w73 ⟨rfl, hb⟩; refine ⟨_, rfl, ?_⟩; have n0_ := Aside0.mk (Kd.N_below (by (with_reducible repeat (first | apply Kd.N_alloc | apply Kd.N_drewN | apply Kd.N_drew)); exact HO_84.out) hb); have n1_ := Aside0.mk (below_step (by repeat (first | (with_reducible first | exact HB.out | apply below_alloc | apply pw_below_drewN | apply below_drew1) | exact HB.out)) hb); clear HO_84; clear HB; have HO_84 := n0_; have HB := n1_; clear n0_ n1_; (try clear hb); (try clear hb2); (try clear hk); (try clear hi)))
       go_ret
       exact ⟨by first | rfl | (simp [errW_none, errW_some] <;> rfl) | (simp [*, errW_none, errW_some] <;> rfl), by repeat (first | (with_reducible first | exact HB.out | apply below_alloc | apply pw_below_drewN | apply below_drew1) | exact HB.out)⟩
end Go.Proofs.YtehnhedifhpalaaDoor.Cp
set_option linter.unusedVariables false
set_option linter.unusedSimpArgs false
namespace Go.Proofs.YtehnhedifhpalaaDoor.Cp
open Go.RowKit Go.Proofs.YtehnhedifhpalaaDoorW.PrintWords Go.Proofs.YtehnhedifhpalaaDoorW.PrintLast Go.Proofs.YtehnhedifhpalaaDoorW.PrintMore
/-- Each third day. -/
def thirds (n : Nat) : List Int := (List.range n).map fun i : Nat => 3 * (i : Int)
theorem thirds_len (n : Nat) : (thirds n).length = n := by simp [thirds]
theorem thirds_succ (n : Nat) : thirds (n + 1) = thirds n ++ [3 * (n : Int)] := by simp [thirds, List.range_succ]
theorem thirds_right {n : Nat} (hn : n ≤ 1000) : rightB (thirds n) = true := by
  refine rightB_mk ?_ ?_ (by rw [thirds_len]; exact hn)
  · unfold thirds
    rw [List.pairwise_map]
    exact List.Pairwise.imp (fun {a b} (h : a < b) => by omega) List.pairwise_lt_range
  · intro d hd
    unfold thirds at hd
    obtain ⟨i, hi, rfl⟩ := List.mem_map.1 hd
    have := List.mem_range.1 hi
    omega
theorem thirds_wrong {n : Nat} (hn : ¬ n ≤ 1000) : rightB (thirds n) = false := by
  unfold rightB
  rw [thirds_len, decide_eq_false hn, Bool.and_false]
theorem thirds_work {n : Nat} (hn : n ≤ 1000) : Cv.wk (thirds n) 7000 = true := by
  unfold Cv.wk
  have : (thirds n).contains 7000 = false := by
    rw [Bool.eq_false_iff]
    intro hc
    have hm : (7000 : Int) ∈ thirds n := by simpa using hc
    unfold thirds at hm
    obtain ⟨i, hi, he⟩ := List.mem_map.1 hm
    have := List.mem_range.1 hi
    omega
  rw [this]
  rfl
theorem lists_l1 (n : Nat) (hn : n ≤ 100000) (x12 : List Int) (x13 x14 : Int) (next : Ev (fun k => letterbaglaw01_lists.l0 k x12 x13 (wrap64 (x14 + 1))) true) (d : Nat) : ∀ i : Nat, i ≤ n → n - i = d →
    Ev (fun k => letterbaglaw01_lists.l1 k (n : Int) (thirds i ++ List.replicate (n - i) 0) x12 x13 x14 (n : Int) (i : Int)) true := by
  induction d with
  | zero =>
    intro i hi hd
    obtain rfl : i = n := by omega
    rw [Nat.sub_self, List.replicate_zero, List.append_nil]
    refine Ev.step (fun k => letterbaglaw01_lists.l1.eq_2 _ _ _ _ _ _ _ k) (ev_neg (by omega) ?_)
    by_cases c : i ≤ 1000
    · have hr := thirds_right c
      have hf := right_f (thirds i) (by rw [thirds_len]; omega)
      rw [hr] at hf
      have hpos := Cv.cnt_pos_of (p := Cv.wk (thirds i)) (a := 0) (b := 730485) (t := 7000) (by decide) (by decide) (thirds_work c)
      obtain ⟨e, _, he⟩ := cahead_ok hr (a := 0) (n := 0) ⟨by decide, by decide⟩ (by decide) hpos
      refine Ev.bind (ev_val (cbetween_ok hr (by decide) (by decide) (by decide))) (Ev.bind he (Ev.bind hf ?_))
      have hd1 : decide ((i : Int) ≤ 1000) = true := decide_eq_true (by omega)
      refine ev_neg (by rw [hd1]; decide) (ev_neg (by rw [hd1]; simp) (ev_neg (by rw [hd1]; simp) (ev_pos (by omega) next)))
    · have hr := thirds_wrong c
      have hf := right_f (thirds i) (by rw [thirds_len]; omega)
      rw [hr] at hf
      have hb : civil_Between.f 0 7000 (thirds i) = some (0, 2) := by
        rw [cbetween_f]
        unfold betB
        rw [if_neg (fun h => by rw [hr] at h; exact absurd h.1 Bool.false_ne_true)]
      have z0 : wrap64 ((0 : Int) + 0) = 0 := wb (by decide)
      refine Ev.bind (ev_val hb) (Ev.bind (cahead_arg (fun h => by rw [hr] at h; exact absurd h.1 Bool.false_ne_true)) (Ev.bind hf ?_))
      have hd1 : decide ((i : Int) ≤ 1000) = false := decide_eq_false (by omega)
      refine ev_neg (by rw [hd1]; decide) (ev_neg (by rw [hd1]; decide) (ev_neg (by rw [hd1]; decide) (ev_neg (by omega) (ev_pos rfl (ev_pos rfl (ev_pos z0 next))))))
  | succ d ih =>
    intro i hi hd
    have b1 : -10000000 ≤ (i : Int) + 1 ∧ (i : Int) + 1 ≤ 10000000 := by omega
    have b2 : -10000000 ≤ 3 * (i : Int) ∧ 3 * (i : Int) ≤ 10000000 := by omega
    have e1 : (i : Int) + 1 = ((i + 1 : Nat) : Int) := by omega
    have hlen : (thirds i ++ List.replicate (n - i) (0 : Int)).length = n := by rw [List.length_append, thirds_len, List.length_replicate]; omega
    have hset : (thirds i ++ List.replicate (n - i) (0 : Int)).set (i : Int).toNat (3 * (i : Int)) = thirds (i + 1) ++ List.replicate (n - (i + 1)) 0 := by
      rw [show ((i : Int)).toNat = i by omega, List.set_append_right _ _ (by rw [thirds_len]; exact Nat.le_refl i), thirds_len, Nat.sub_self, show n - i = (n - (i + 1)) + 1 by omega, List.replicate_succ, List.set_cons_zero, thirds_succ, List.append_assoc]
      rfl
    refine Ev.step (fun k => letterbaglaw01_lists.l1.eq_2 _ _ _ _ _ _ _ k) ?_
    rw [hlen, wb b1, wb b2, hset, e1]
    exact ev_pos (by omega) (ev_pos (by omega) (ev_pos (by omega) (ih (i + 1) (by omega) (by omega))))
theorem lists_l2 (L : List (List Int)) (hL : L.length ≤ 1000) (d : Nat) : ∀ i : Nat, i ≤ L.length → L.length - i = d → Ev (fun k => letterbaglaw01_lists.l2 k L (L.length : Int) (i : Int)) true := by
  induction d with
  | zero =>
    intro i hi hd
    exact Ev.step (fun k => letterbaglaw01_lists.l2.eq_2 _ _ _ k) (ev_neg (by omega) (Ev.bind awake_f (Ev.now _)))
  | succ d ih =>
    intro i hi hd
    have b1 : -10000000 ≤ (i : Int) + 1 ∧ (i : Int) + 1 ≤ 10000000 := by omega
    have e1 : (i : Int) + 1 = ((i + 1 : Nat) : Int) := by omega
    refine Ev.step (fun k => letterbaglaw01_lists.l2.eq_2 _ _ _ k) ?_
    rw [wb b1, e1]
    exact ev_pos (by omega) (ev_pos (by omega) (ev_pos (by omega) (Ev.bind (civilWorks_all _ _ _ _ _ _) (ev_pos rfl (ih (i + 1) (by omega) (by omega))))))
theorem lists_l0 (L : List Int) (hL : L.length ≤ 1000) (hv : ∀ x ∈ L, 0 ≤ x ∧ x ≤ 100000) (d : Nat) : ∀ i : Nat, i ≤ L.length → L.length - i = d → Ev (fun k => letterbaglaw01_lists.l0 k L (L.length : Int) (i : Int)) true := by
  induction d with
  | zero =>
    intro i hi hd
    refine Ev.step (fun k => letterbaglaw01_lists.l0.eq_2 _ _ _ k) (ev_neg (by omega) (Ev.bind (Ev.now _) ?_))
    exact lists_l2 _ (by decide) _ 0 (by decide) rfl
  | succ d ih =>
    intro i hi hd
    have c : i < L.length := by omega
    have hx := hv L[i] (List.getElem_mem c)
    have b1 : -10000000 ≤ (i : Int) + 1 ∧ (i : Int) + 1 ≤ 10000000 := by omega
    have e1 : (i : Int) + 1 = ((i + 1 : Nat) : Int) := by omega
    have nx := ih (i + 1) (by omega) (by omega)
    rw [← e1, ← wb b1] at nx
    have h1 := lists_l1 L[i].toNat (by omega) L (L.length : Int) (i : Int) nx _ 0 (by omega) rfl
    rw [show ((L[i].toNat : Nat) : Int) = L[i] by omega] at h1
    refine Ev.step (fun k => letterbaglaw01_lists.l0.eq_2 _ _ _ k) ?_
    rw [rd_get c]
    refine ev_pos (by omega) (ev_pos (by omega) (ev_pos (by omega) (ev_pos hx.1 (ev_pos (by omega) (Ev.bind (Ev.now _) ?_)))))
    rw [List.length_replicate, show ((L[i].toNat : Nat) : Int) = L[i] by omega]
    exact h1
theorem lists_all : Ev (fun k => letterbaglaw01_lists.f k) true := by
  unfold letterbaglaw01_lists.f
  refine Ev.bind (Ev.now _) ?_
  exact lists_l0 [0, 1, 1000, 1001] (by decide) (by decide) _ 0 (by decide) rfl
end Go.Proofs.YtehnhedifhpalaaDoor.Cp
namespace Go.Proofs.YtehnhedifhpalaaDoor.Cp
open Go.RowKit Go.Proofs.YtehnhedifhpalaaDoorW.PrintWords Go.Proofs.YtehnhedifhpalaaDoorW.PrintLast Go.Proofs.YtehnhedifhpalaaDoorW.PrintMore
attribute [local go_sem] max2_int min2_int max_two min_two max_three min_three max_four min_four   -- for this text's walks alone
set_option linter.unusedVariables false
set_option linter.unusedSimpArgs false
theorem civilWorks_nil (k : Nat) (a1 a2 a3 a4 a5 : Int) (r : Bool) (w : World) (hg : Aside0 (Tab w)) (h : letterbaglaw01_civilWorks.f k ([] : List Int) a1 a2 a3 a4 a5 = some r) :
  Calls Tryd.prog 15 #[.slice none 0 0, .int .i64 a1, .int .i64 a2, .int .i64 a3, .int .i64 a4, .int .i64 a5] w fun e w' => e = .returned (.bool r) ∧ Below w.heap.size w w' :=
 letterbaglaw01_civilWorks.calls k none 0 [] a1 a2 a3 a4 a5 r w hg (Kd.C_nil _ _) (Nat.le_refl _) h
mutual
def letterbaglaw01_CivilSmall.l0 : Nat → Int → Option (Bool)
 | 0, _ => none
 | k + 1, x1 => if x1 ≤ 4001 then (letterbaglaw01_CivilSmall.l1 k x1 0) else ((some (([(-1), 0, 1, 1439, 1440, 730483, 730484, 730485, 1051898399, 1051898400, (-9223372036854775808), 9223372036854775807] : List Int) : List Int)).bind fun y487 => (letterbaglaw01_CivilSmall.l3 k y487 y487 (y487.length : Int) 0))
def letterbaglaw01_CivilSmall.l1 : Nat → Int → Int → Option (Bool)
 | 0, _, _ => none
 | k + 1, x1, x2 => if x2 ≤ 13 then ((some (([0, 1, 28, 29, 30, 31, 32] : List Int) : List Int)).bind fun y482 => (letterbaglaw01_CivilSmall.l2 k x1 x2 y482 (y482.length : Int) 0)) else (letterbaglaw01_CivilSmall.l0 k (wrap64 (x1 + 1)))
def letterbaglaw01_CivilSmall.l2 : Nat → Int → Int → List Int → Int → Int → Option (Bool)
 | 0, _, _, _, _, _ => none
 | k + 1, x1, x2, x24, x25, x26 => if x26 < x25 then (if 0 ≤ x26 then (if x26 < (x24.length : Int) then (if x1 > 2005 then (if x1 < 3996 then (letterbaglaw01_CivilSmall.j3 k x1 x2 (rd x24 x26) x24 x25 x26 (decide ((Int.tmod x1 20) > 1))) else (letterbaglaw01_CivilSmall.j3 k x1 x2 (rd x24 x26) x24 x25 x26 false)) else (letterbaglaw01_CivilSmall.j3 k x1 x2 (rd x24 x26) x24 x25 x26 false)) else (none)) else (none)) else (letterbaglaw01_CivilSmall.l1 k x1 (wrap64 (x2 + 1)))
def letterbaglaw01_CivilSmall.j3 : Nat → Int → Int → Int → List Int → Int → Int → Bool → Option (Bool)
 | 0, _, _, _, _, _, _, _ => none
 | k + 1, x1, x2, x4, x24, x25, x26, x40 => if x40 = true then (letterbaglaw01_CivilSmall.l2 k x1 x2 x24 x25 (wrap64 (x26 + 1))) else ((letterbaglaw01_CivilTells.f k x1 x2 x4 0 0).bind fun t486 => (if t486 = true then (letterbaglaw01_CivilSmall.l2 k x1 x2 x24 x25 (wrap64 (x26 + 1))) else (some false)))
def letterbaglaw01_CivilSmall.l3 : Nat → List Int → List Int → Int → Int → Option (Bool)
 | 0, _, _, _, _ => none
 | k + 1, x5, x48, x49, x50 => if x50 < x49 then (if 0 ≤ x50 then (if x50 < (x48.length : Int) then (letterbaglaw01_CivilSmall.l4 k x5 (rd x48 x50) x48 x49 x50 x5 (x5.length : Int) 0) else (none)) else (none)) else ((some (([(⟨#[50, 48, 48, 52, 45, 48, 50, 45, 50, 57]⟩ : ByteArray), (⟨#[52, 48, 48, 48, 45, 49, 50, 45, 51, 49, 32, 50, 51, 58, 53, 57]⟩ : ByteArray)] : List ByteArray) : List ByteArray)).bind fun y499 => (letterbaglaw01_CivilSmall.l5 k y499 (y499.length : Int) 0))
def letterbaglaw01_CivilSmall.l4 : Nat → List Int → Int → List Int → Int → Int → List Int → Int → Int → Option (Bool)
 | 0, _, _, _, _, _, _, _, _ => none
 | k + 1, x5, x7, x48, x49, x50, x54, x55, x56 => if x56 < x55 then (if 0 ≤ x56 then (if x56 < (x54.length : Int) then ((letterbaglaw01_date.f k x7 (rd x54 x56)).bind fun t492 => (if t492 = true then ((letterbaglaw01_CivilTells.f k x7 (rd x54 x56) x7 (rd x54 x56) x7).bind fun t493 => (if t493 = true then ((letterbaglaw01_civilWorks.f k ([] : List Int) x7 (rd x54 x56) 0 101 1231).bind fun t494 => (if t494 = true then ((letterbaglaw01_civilWorks.f k (([0, 1] : List Int)) x7 x7 (rd x54 x56) 228 301).bind fun t498 => (if t498 = true then (letterbaglaw01_CivilSmall.l4 k x5 x7 x48 x49 x50 x54 x55 (wrap64 (x56 + 1))) else (some false))) else (some false))) else (some false))) else (some false))) else (none)) else (none)) else (letterbaglaw01_CivilSmall.l3 k x5 x48 x49 (wrap64 (x50 + 1)))
def letterbaglaw01_CivilSmall.l5 : Nat → List ByteArray → Int → Int → Option (Bool)
 | 0, _, _, _ => none
 | k + 1, x89, x90, x91 => if x91 < x90 then (if 0 ≤ x91 then (if x91 < (x89.length : Int) then (letterbaglaw01_CivilSmall.l6 k (rdOf ByteArray.empty x89 x91) 0 x89 x90 x91) else (none)) else (none)) else (letterbaglaw01_CivilSmall.l8 k (-1))
def letterbaglaw01_CivilSmall.l6 : Nat → ByteArray → Int → List ByteArray → Int → Int → Option (Bool)
 | 0, _, _, _, _, _ => none
 | k + 1, x11, x12, x89, x90, x91 => if x12 < (x11.size : Int) then (letterbaglaw01_CivilSmall.l7 k x11 x12 0 x89 x90 x91) else (letterbaglaw01_CivilSmall.l5 k x89 x90 (wrap64 (x91 + 1)))
def letterbaglaw01_CivilSmall.l7 : Nat → ByteArray → Int → Int → List ByteArray → Int → Int → Option (Bool)
 | 0, _, _, _, _, _, _ => none
 | k + 1, x11, x12, x13, x89, x90, x91 => if x13 < 256 then (if 0 ≤ x12 then (if x12 ≤ (x11.size : Int) then ((some (([(x13) % 256] : List Int) : List Int)).bind fun y503 => (if (x11.extract 0 (x12 : Int).toNat).size + (strOfNums y503).size ≤ 9223372036854775807 then (if 0 ≤ (wrap64 (x12 + 1)) then (if (wrap64 (x12 + 1)) ≤ (x11.size : Int) then (if ((x11.extract 0 (x12 : Int).toNat) ++ (strOfNums y503)).size + (x11.extract ((wrap64 (x12 + 1)) : Int).toNat x11.size).size ≤ 9223372036854775807 then ((letterbaglaw01_CivilReads.f k (((x11.extract 0 (x12 : Int).toNat) ++ (strOfNums y503)) ++ (x11.extract ((wrap64 (x12 + 1)) : Int).toNat x11.size))).bind fun t506 => (if t506 = true then (letterbaglaw01_CivilSmall.l7 k x11 x12 (wrap64 (x13 + 1)) x89 x90 x91) else (some false))) else (none)) else (none)) else (none)) else (none))) else (none)) else (none)) else (if 0 ≤ x12 then (if x12 ≤ (x11.size : Int) then ((letterbaglaw01_CivilReads.f k (x11.extract 0 (x12 : Int).toNat)).bind fun t507 => (if t507 = true then (if 0 ≤ (wrap64 (x12 + 1)) then (if (wrap64 (x12 + 1)) ≤ (x11.size : Int) then (if (x11.extract 0 (x12 : Int).toNat).size + (x11.extract ((wrap64 (x12 + 1)) : Int).toNat x11.size).size ≤ 9223372036854775807 then ((letterbaglaw01_CivilReads.f k ((x11.extract 0 (x12 : Int).toNat) ++ (x11.extract ((wrap64 (x12 + 1)) : Int).toNat x11.size))).bind fun t508 => (if t508 = true then (if (x11.extract 0 (x12 : Int).toNat).size + 1 ≤ 9223372036854775807 then (if ((x11.extract 0 (x12 : Int).toNat) ++ (⟨#[32]⟩ : ByteArray)).size + (x11.extract (x12 : Int).toNat x11.size).size ≤ 9223372036854775807 then ((letterbaglaw01_CivilReads.f k (((x11.extract 0 (x12 : Int).toNat) ++ (⟨#[32]⟩ : ByteArray)) ++ (x11.extract (x12 : Int).toNat x11.size))).bind fun t509 => (if t509 = true then (letterbaglaw01_CivilSmall.l6 k x11 (wrap64 (x12 + 1)) x89 x90 x91) else (some false))) else (none)) else (none)) else (some false))) else (none)) else (none)) else (none)) else (some false))) else (none)) else (none))
def letterbaglaw01_CivilSmall.l8 : Nat → Int → Option (Bool)
 | 0, _ => none
 | k + 1, x15 => if x15 ≤ 1300 then ((letterbaglaw01_civilWorks.f k ([] : List Int) 1154 1154 0 x15 229).bind fun t511 => (if t511 = true then ((letterbaglaw01_civilWorks.f k ([] : List Int) 1153 1154 0 229 x15).bind fun t512 => (if t512 = true then (letterbaglaw01_CivilSmall.l8 k (wrap64 (x15 + 1))) else (some false))) else (some false))) else ((letterbaglaw01_lists.f k).bind fun t510 => (some t510))
end
def letterbaglaw01_CivilSmall.f (k : Nat)  : Option (Bool) := letterbaglaw01_CivilSmall.l0 k 2000
def letterbaglaw01_CivilSmall.T34 : Bool × List (List Nat × List Nat) := (true, [([], []), ([], []), ([0, 1], [0, 1]), ([], []), ([3], [3]), ([4], [4]), ([5], [5]), ([2, 6], [2, 6]), ([], []), ([], []), ([9], [9]), ([8, 10], [8, 10]), ([7, 11], [7, 11]), ([12, 0, 1, 2, 3, 4, 5, 6, 7, 8, 9, 10, 11, 12], [12])])
def letterbaglaw01_CivilSmall.B34 : List Nat := [0, 0, 3, 0, 8, 24, 56, 127, 0, 0, 512, 1792, 4095, 8191]
theorem letterbaglaw01_CivilSmall.tab34 : rtab .any (opsOf Tryd.f3 34) = letterbaglaw01_CivilSmall.T34 := by kernel_rfl
theorem letterbaglaw01_CivilSmall.bits34 : waitsOk letterbaglaw01_CivilSmall.T34.2 letterbaglaw01_CivilSmall.B34 = true := by kernel_rfl
def letterbaglaw01_CivilSmall.T37 : Bool × List (List Nat × List Nat) := (true, [([], []), ([], []), ([0, 1], [0, 1]), ([2], [2]), ([3], [3]), ([4, 3], [4]), ([5], [5]), ([5], [5]), ([6, 7, 5], [5, 6, 7]), ([5], [5]), ([5], [5]), ([10, 5], [5, 10]), ([9, 11, 5], [5, 9, 11]), ([8, 12, 5], [5, 8, 12]), ([13, 5, 5], [5, 13]), ([14, 5], [5, 14]), ([5, 15], [5, 15]), ([16, 14], [16]), ([17], [17]), ([17], [17]), ([18, 19, 17], [17, 18, 19]), ([20, 17], [17, 20]), ([17], [17]), ([17], [17]), ([22, 23, 17], [17, 22, 23]), ([21, 24, 17], [17, 21, 24]), ([25, 17, 17], [17, 25]), ([26, 17], [17, 26]), ([17, 27], [17, 27])])
def letterbaglaw01_CivilSmall.B37 : List Nat := [0, 0, 3, 7, 15, 31, 63, 63, 255, 63, 63, 1087, 3647, 8191, 16383, 32767, 65535, 131071, 262143, 262143, 1048575, 2097151, 262143, 262143, 12845055, 33554431, 67108863, 134217727, 268435455]
theorem letterbaglaw01_CivilSmall.tab37 : rtab .any (opsOf Tryd.f3 37) = letterbaglaw01_CivilSmall.T37 := by kernel_rfl
theorem letterbaglaw01_CivilSmall.bits37 : waitsOk letterbaglaw01_CivilSmall.T37.2 letterbaglaw01_CivilSmall.B37 = true := by kernel_rfl
set_option maxHeartbeats 8000000 in
set_option maxRecDepth 100000 in
theorem letterbaglaw01_CivilSmall.calls (k : Nat)  (w : World) (hg : Aside0 (Tab w)) (h : letterbaglaw01_CivilSmall.f k  = some true) :
  Calls Tryd.prog 3 #[] w fun e w' => e = .returned (.bool true) ∧ Below w.heap.size w w' := by
 have HB := Aside0.mk (Below.refl w.heap.size w)
 have H : (letterbaglaw01_CivilSmall.l0 k 2000) = some true := h
 clear h
 have H' := Aside0.mk H
 clear H
 go_enter Tryd.func3, Tryd.ntmps3
 go_wp2
 go_loopg [1] k (fun kq v1 w' => ∃ (x1_1 : Int), v1 = .int .i64 x1_1 ∧ Aside0 (letterbaglaw01_CivilSmall.l0 kq x1_1 = some true) ∧ Aside0 (kq ≤ k) ∧ Aside0 (Below w.heap.size w w'))
 case atStart => exact ⟨(2000), (by first | rfl | (simp; done) | (simp [*]; done) | (simp; exact (show ∀ a_ b_ : Bool, (a_ == b_) = (!(a_ != b_)) from by decide) _ _) | (rw [Bool.eq_iff_iff]; simp; done) | (simp; rw [Bool.eq_iff_iff]; simp; done)), H', ⟨Nat.le_refl _⟩, ⟨by repeat (first | (with_reducible first | exact HB.out | apply below_alloc | apply pw_below_drewN | apply below_drew1) | exact HB.out)⟩⟩
 case round =>
  clear H'
  obtain ⟨x1_1, rfl, HA, HK1, HB⟩ := hrel
  cases gk with
  | zero => exact absurd HA.out (by simp [letterbaglaw01_CivilSmall.l0])
  | succ k1 =>
   have H := HA.out
   clear HA
   simp only [letterbaglaw01_CivilSmall.l0] at H
   by_cases c1 : x1_1 ≤ 4001
   ·rw [if_pos c1] at H
    have c1b0 : decide (x1_1 ≤ 4001) = true := decide_eq_true c1
    clear c1
    have H' := Aside0.mk H
    clear H
    go_wp2
    go_loopg [2] k1 (fun kq v2 w' => ∃ (x2_2 : Int), v2 = .int .i64 x2_2 ∧ Aside0 (letterbaglaw01_CivilSmall.l1 kq x1_1 x2_2 = some true) ∧ Aside0 (kq ≤ k1) ∧ Aside0 (Below w.heap.size w w'))
    case atStart => exact ⟨(0), (by first | rfl | (simp; done) | (simp [*]; done) | (simp; exact (show ∀ a_ b_ : Bool, (a_ == b_) = (!(a_ != b_)) from by decide) _ _) | (rw [Bool.eq_iff_iff]; simp; done) | (simp; rw [Bool.eq_iff_iff]; simp; done)), H', ⟨Nat.le_refl _⟩, ⟨by repeat (first | (with_reducible first | exact HB.out | apply below_alloc | apply pw_below_drewN | apply below_drew1) | exact HB.out)⟩⟩
    case round =>
     clear H'
     try clear c1
     try clear c1b0
     obtain ⟨x2_2, rfl, HA, HK2, HB⟩ := hrel
     cases gk with
     | zero => exact absurd HA.out (by simp [letterbaglaw01_CivilSmall.l1])
     | succ k2 =>
      have H := HA.out
      clear HA
      simp only [letterbaglaw01_CivilSmall.l1] at H
      by_cases c2 : x2_2 ≤ 13
      ·rw [if_pos c2] at H
       have c2b0 : decide (x2_2 ≤ 13) = true := decide_eq_true c2
       clear c2
       obtain ⟨y482, hy482⟩ : ∃ y_ : List Int, y_ = (([0, 1, 28, 29, 30, 31, 32] : List Int)) := ⟨_, rfl⟩
       replace H : (letterbaglaw01_CivilSmall.l2 k2 x1_1 x2_2 y482 (y482.length : Int) 0) = some true := by first | (rw [hy482]; with_reducible exact H) | (have H2_ := (Option.bind_some _ _).symm.trans H; rw [hy482]; with_reducible exact H2_) | (have H2_ := (Option.bind_some _ _).symm.trans H; with_reducible exact H2_) | with_reducible exact H | (rw [hy482]; exact H) | exact H
       have Ny482 := Aside0.mk hy482
       clear hy482
       have H' := Aside0.mk H
       clear H
       go_wp2_with (first | ((with_reducible refine gate_dst (N := 24) rfl ?_); (try (refine gate_guard (by rfl) ?_; dsimp only)); refine Kd.R_lit (Kd.int .i64) _ 3 ?hg (N := 24) ?hd (xs := ([0, 1, 28, 29, 30, 31, 32] : List Int)) (inner := [.int .i64 0, .int .i64 1, .int .i64 28, .int .i64 29, .int .i64 30, .int .i64 31, .int .i64 32]) (ok := fun _ => True) (okp := fun _ => True) ?hr ?hp (fun _ hk => hk) trivial (Below.refl _ _) (Nat.le_refl _) (by simp) ?_; (case hd => rfl); (case hg => rfl); (case hr => first | (go_simp; done) | (go_simp; rfl)); (case hp => exact (Reps.one (show Kd.M (Kd.int .i64) _ _ _ 0 [.int .i64 0] from rfl) (Reps.one (show Kd.M (Kd.int .i64) _ _ _ 1 [.int .i64 1] from rfl) (Reps.one (show Kd.M (Kd.int .i64) _ _ _ 28 [.int .i64 28] from rfl) (Reps.one (show Kd.M (Kd.int .i64) _ _ _ 29 [.int .i64 29] from rfl) (Reps.one (show Kd.M (Kd.int .i64) _ _ _ 30 [.int .i64 30] from rfl) (Reps.one (show Kd.M (Kd.int .i64) _ _ _ 31 [.int .i64 31] from rfl) (Reps.one (show Kd.M (Kd.int .i64) _ _ _ 32 [.int .i64 32] from rfl) (Reps.none _ _))))))))); intro v483 w3 ho4 hb hg_ hnew_; clear hg_ hnew_; (first | rw [← Ny482.out] at ho4 | (simp only [Int.reduceToNat] at ho4; rw [← Ny482.out] at ho4)); have n0_ := Aside0.mk (Kd.R_lower ho4 (below_size (by repeat (first | (with_reducible first | exact HB.out | apply below_alloc | apply pw_below_drewN | apply below_drew1) | exact HB.out)))); have n1_ := Aside0.mk (below_step (by repeat (first | (with_reducible first | exact HB.out | apply below_alloc | apply pw_below_drewN | apply below_drew1) | exact HB.out)) hb); clear HB; have HO484 := n0_; have HB := n1_; clear n0_ n1_; clear hb ho4; obtain ⟨Ao5, co5, eo5⟩ := Kd.R_slice HO484.out; subst eo5))
       go_loopg [26] k2 (fun kq v26 w' => ∃ (x26_3 : Int), v26 = .int .i64 x26_3 ∧ Aside0 (letterbaglaw01_CivilSmall.l2 kq x1_1 x2_2 y482 (y482.length : Int) x26_3 = some true) ∧ Aside0 (kq ≤ k2) ∧ Aside0 (Kd.R (Kd.int .i64) 3 w' w.heap.size (fun _ => True) (.slice Ao5 y482.length co5) y482) ∧ Aside0 (Below w.heap.size w w'))
       case atStart => exact ⟨(0), (by first | rfl | (simp; done) | (simp [*]; done) | (simp; exact (show ∀ a_ b_ : Bool, (a_ == b_) = (!(a_ != b_)) from by decide) _ _) | (rw [Bool.eq_iff_iff]; simp; done) | (simp; rw [Bool.eq_iff_iff]; simp; done)), H', ⟨Nat.le_refl _⟩, ⟨by (with_reducible repeat (first | apply Kd.R_alloc | apply Kd.R_drewN | apply Kd.R_drew)); exact HO484.out⟩, ⟨by repeat (first | (with_reducible first | exact HB.out | apply below_alloc | apply pw_below_drewN | apply below_drew1) | exact HB.out)⟩⟩
       case round =>
        clear H'
        try clear c1
        try clear c1b0
        try clear c2
        try clear c2b0
        try clear p2
        try clear c3
        obtain ⟨x26_3, rfl, HA, HK3, HO_24, HB⟩ := hrel
        cases gk with
        | zero => exact absurd HA.out (by simp [letterbaglaw01_CivilSmall.l2])
        | succ k3 =>
         have H := HA.out
         clear HA
         simp only [letterbaglaw01_CivilSmall.l2] at H
         by_cases c6 : x26_3 < (y482.length : Int)
         ·rw [if_pos c6] at H
          have c6b0 : decide (x26_3 < (y482.length : Int)) = true := decide_eq_true c6
          clear c6
          by_cases c7 : 0 ≤ x26_3
          ·rw [if_pos c7] at H
           have c7b0 : decide (0 ≤ x26_3) = true := decide_eq_true c7
           clear c7
           by_cases c8 : x26_3 < (y482.length : Int)
           ·rw [if_pos c8] at H
            have c8b0 : decide (x26_3 < (y482.length : Int)) = true := decide_eq_true c8
            clear c8
            have HC9 := Aside0.mk H
            clear H
            have p485 : 0 ≤ (x26_3 : Int) := of_decide_eq_true (by first | (with_reducible assumption) | assumption)
            have q485 : x26_3 < (y482.length : Int) := of_decide_eq_true (by first | (with_reducible assumption) | assumption)
            obtain ⟨ad485, e485, hx485_0⟩ := Kd.at_int (Kd.R_reads' HO_24.out).2.2 x26_3 p485 q485
            cases e485
            replace p485 := eq_true p485
            replace q485 := eq_true q485
            go_upto_region 10 with (fail)
            go_cut [40] (fun v40 wc => ∃ (kq : Nat) (x40_8 : Bool), v40 = .bool x40_8 ∧ Aside0 (letterbaglaw01_CivilSmall.j3 kq x1_1 x2_2 (rd y482 x26_3) y482 (y482.length : Int) x26_3 x40_8 = some true) ∧ Aside0 (kq ≤ k3) ∧ Aside0 (Kd.R (Kd.int .i64) 3 wc w.heap.size (fun _ => True) (.slice (some ad485) y482.length co5) y482) ∧ Aside0 (Below w.heap.size w wc))
            case first =>
             have H := HC9.out
             clear HC9
             by_cases c10 : x1_1 > 2005
             ·rw [if_pos c10] at H
              have c10b0 : decide (2005 < x1_1) = true := decide_eq_true c10
              clear c10
              (first | rw [c10b0] | (simp only [i64_w, i32_w]; rw [c10b0]) | skip)
              by_cases c11 : x1_1 < 3996
              ·rw [if_pos c11] at H
               have c11b0 : decide (x1_1 < 3996) = true := decide_eq_true c11
               clear c11
               have H' := Aside0.mk H
               clear H
               go_wp2
               go_meet
               case rel => exact ⟨_, (decide ((Int.tmod x1_1 20) > 1)), (by first | rfl | (simp; done) | (simp [*]; done) | (simp; exact (show ∀ a_ b_ : Bool, (a_ == b_) = (!(a_ != b_)) from by decide) _ _) | (rw [Bool.eq_iff_iff]; simp; done) | (simp; rw [Bool.eq_iff_iff]; simp; done)), H', ⟨by have := HK1.out; have := HK2.out; have := HK3.out; first | omega | exact Nat.le_refl _⟩, ⟨by (with_reducible repeat (first | apply Kd.R_alloc | apply Kd.R_drewN | apply Kd.R_drew)); exact HO_24.out⟩, ⟨by repeat (first | (with_reducible first | exact HB.out | apply below_alloc | apply pw_below_drewN | apply below_drew1) | exact HB.out)⟩⟩
              ·rw [if_neg c11] at H
               have c11b0 : decide (x1_1 < 3996) = false := decide_eq_false c11
               clear c11
               have H' := Aside0.mk H
               clear H
               go_wp2
               go_meet
               case rel => exact ⟨_, (false), (by first | rfl | (simp; done) | (simp [*]; done) | (simp; exact (show ∀ a_ b_ : Bool, (a_ == b_) = (!(a_ != b_)) from by decide) _ _) | (rw [Bool.eq_iff_iff]; simp; done) | (simp; rw [Bool.eq_iff_iff]; simp; done)), H', ⟨by have := HK1.out; have := HK2.out; have := HK3.out; first | omega | exact Nat.le_refl _⟩, ⟨by (with_reducible repeat (first | apply Kd.R_alloc | apply Kd.R_drewN | apply Kd.R_drew)); exact HO_24.out⟩, ⟨by repeat (first | (with_reducible first | exact HB.out | apply below_alloc | apply pw_below_drewN | apply below_drew1) | exact HB.out)⟩⟩
             ·rw [if_neg c10] at H
              have c10b0 : decide (2005 < x1_1) = false := decide_eq_false c10
              clear c10
              (first | rw [c10b0] | (simp only [i64_w, i32_w]; rw [c10b0]) | skip)
              have H' := Aside0.mk H
              clear H
              go_wp2
              go_meet
              case rel => exact ⟨_, (false), (by first | rfl | (simp; done) | (simp [*]; done) | (simp; exact (show ∀ a_ b_ : Bool, (a_ == b_) = (!(a_ != b_)) from by decide) _ _) | (rw [Bool.eq_iff_iff]; simp; done) | (simp; rw [Bool.eq_iff_iff]; simp; done)), H', ⟨by have := HK1.out; have := HK2.out; have := HK3.out; first | omega | exact Nat.le_refl _⟩, ⟨by (with_reducible repeat (first | apply Kd.R_alloc | apply Kd.R_drewN | apply Kd.R_drew)); exact HO_24.out⟩, ⟨by repeat (first | (with_reducible first | exact HB.out | apply below_alloc | apply pw_below_drewN | apply below_drew1) | exact HB.out)⟩⟩
            case rest =>
             clear HC9
             try clear c1
             try clear c1b0
             try clear c2
             try clear c2b0
             try clear p2
             try clear c3
             try clear p4
             try clear q4
             try clear hx4
             try clear c6
             try clear c6b0
             try clear c7
             try clear c7b0
             try clear c8
             try clear c8b0
             try clear c10
             try clear c10b0
             try clear c11
             try clear c11b0
             try clear hx485_0
             try clear p2
             try clear p485
             try clear q485
             obtain ⟨kq, x40_8, rfl, HA, HJ8, HO_24, HB⟩ := hcut
             cases kq with
             | zero => exact absurd HA.out (by simp [letterbaglaw01_CivilSmall.j3])
             | succ kj8 =>
              have H := HA.out
              clear HA
              simp only [letterbaglaw01_CivilSmall.j3] at H
              by_cases c12 : x40_8 = true
              ·subst c12
               have H1 : (letterbaglaw01_CivilSmall.l2 kj8 x1_1 x2_2 y482 (y482.length : Int) (wrap64 (x26_3 + 1))) = some true := by rw [if_pos rfl] at H; exact H
               clear H
               have H := H1
               clear H1
               have H' := Aside0.mk H
               clear H
               go_wp2
               go_roundg kj8
               case measure => have := HK1.out; have := HK2.out; have := HK3.out; have := HJ8.out; omega
               case rel => exact ⟨(wrap64 (x26_3 + 1)), (by first | rfl | (simp; done) | (simp [*]; done) | (simp; exact (show ∀ a_ b_ : Bool, (a_ == b_) = (!(a_ != b_)) from by decide) _ _) | (rw [Bool.eq_iff_iff]; simp; done) | (simp; rw [Bool.eq_iff_iff]; simp; done)), H', ⟨by have := HK1.out; have := HK2.out; have := HK3.out; have := HJ8.out; omega⟩, ⟨by (with_reducible repeat (first | apply Kd.R_alloc | apply Kd.R_drewN | apply Kd.R_drew)); exact HO_24.out⟩, ⟨by repeat (first | (with_reducible first | exact HB.out | apply below_alloc | apply pw_below_drewN | apply below_drew1) | exact HB.out)⟩⟩
              ·replace c12 := Bool.eq_false_iff.mpr c12
               subst c12
               have H1 : ((letterbaglaw01_CivilTells.f kj8 x1_1 x2_2 (rd y482 x26_3) 0 0).bind fun t486 => (if t486 = true then (letterbaglaw01_CivilSmall.l2 kj8 x1_1 x2_2 y482 (y482.length : Int) (wrap64 (x26_3 + 1))) else (some false))) = some true := by rw [if_neg (show ¬ (false = true) by decide)] at H; exact H
               clear H
               have H := H1
               clear H1
               replace H := Option.bind_eq_some_iff.mp H
               obtain ⟨t486, A130, H⟩ := H
               replace H : (if t486 = true then (letterbaglaw01_CivilSmall.l2 kj8 x1_1 x2_2 y482 (y482.length : Int) (wrap64 (x26_3 + 1))) else (some false)) = some true := H
               have A13 := Aside0.mk A130
               clear A130
               by_cases c14 : t486 = true
               ·subst c14
                have H1 : (letterbaglaw01_CivilSmall.l2 kj8 x1_1 x2_2 y482 (y482.length : Int) (wrap64 (x26_3 + 1))) = some true := by rw [if_pos rfl] at H; exact H
                clear H
                have H := H1
                clear H1
                have H' := Aside0.mk H
                clear H
                go_wp2_with (first | ((with_reducible refine gate_callee (f := 13) rfl ?_); refine goesL_ (some 44) rfl rfl Tryd.func13 (by kernel_rfl) rfl #[.int .i64 x1_1, .int .i64 x2_2, .int .i64 (rd y482 x26_3), .int .i64 0, .int .i64 0] rfl (by (try simp only [List.map_toArray, List.map_cons, List.map_nil]); first | done | rfl | (simp only [List.length_drop, List.length_take]; rfl)) ?_; (with_reducible refine (letterbaglaw01_CivilTells.calls kj8 x1_1 x2_2 (rd y482 x26_3) 0 0 _ ?tabG A13.out).mono ?_); (case tabG => (first | exact hg | exact ⟨hg.out.below (by repeat (first | (with_reducible first | exact HB.out | apply below_alloc | apply pw_below_drewN | apply below_drew1) | exact HB.out))⟩)); rintro e w15 ⟨rfl, hb⟩; refine ⟨_, rfl, ?_⟩; have n0_ := Aside0.mk (Kd.R_below (by (with_reducible repeat (first | apply Kd.R_alloc | apply Kd.R_drewN | apply Kd.R_drew)); exact HO_24.out) hb); have n1_ := Aside0.mk (below_step (by repeat (first | (with_reducible first | exact HB.out | apply below_alloc | apply pw_below_drewN | apply below_drew1) | exact HB.out)) hb); clear HO_24; clear HB; have HO_24 := n0_; have HB := n1_; clear n0_ n1_; (try clear hb); (try clear hb2); (try clear hk); (try clear hi)))
                go_roundg kj8
                case measure => have := HK1.out; have := HK2.out; have := HK3.out; have := HJ8.out; omega
                case rel => exact ⟨(wrap64 (x26_3 + 1)), (by first | rfl | (simp; done) | (simp [*]; done) | (simp; exact (show ∀ a_ b_ : Bool, (a_ == b_) = (!(a_ != b_)) from by decide) _ _) | (rw [Bool.eq_iff_iff]; simp; done) | (simp; rw [Bool.eq_iff_iff]; simp; done)), H', ⟨by have := HK1.out; have := HK2.out; have := HK3.out; have := HJ8.out; omega⟩, ⟨by (with_reducible repeat (first | apply Kd.R_alloc | apply Kd.R_drewN | apply Kd.R_drew)); exact HO_24.out⟩, ⟨by repeat (first | (with_reducible first | exact HB.out | apply below_alloc | apply pw_below_drewN | apply below_drew1) | exact HB.out)⟩⟩
               ·replace c14 := Bool.eq_false_iff.mpr c14
                subst c14
                have H1 : (some false) = some true := by rw [if_neg (show ¬ (false = true) by decide)] at H; exact H
                clear H
                have H := H1
                clear H1
                exact absurd H (by simp)
           ·rw [if_neg c8] at H
            exact absurd H (by simp)
          ·rw [if_neg c7] at H
           exact absurd H (by simp)
         ·rw [if_neg c6] at H
          have c6b0 : decide (x26_3 < (y482.length : Int)) = false := decide_eq_false c6
          clear c6
          have H' := Aside0.mk H
          clear H
          go_wp2
          go_roundg k3
          case measure => have := HK1.out; have := HK2.out; have := HK3.out; omega
          case rel => exact ⟨(wrap64 (x2_2 + 1)), (by first | rfl | (simp; done) | (simp [*]; done) | (simp; exact (show ∀ a_ b_ : Bool, (a_ == b_) = (!(a_ != b_)) from by decide) _ _) | (rw [Bool.eq_iff_iff]; simp; done) | (simp; rw [Bool.eq_iff_iff]; simp; done)), H', ⟨by have := HK1.out; have := HK2.out; have := HK3.out; omega⟩, ⟨by repeat (first | (with_reducible first | exact HB.out | apply below_alloc | apply pw_below_drewN | apply below_drew1) | exact HB.out)⟩⟩
      ·rw [if_neg c2] at H
       have c2b0 : decide (x2_2 ≤ 13) = false := decide_eq_false c2
       clear c2
       have H' := Aside0.mk H
       clear H
       go_wp2
       go_roundg k2
       case measure => have := HK1.out; have := HK2.out; omega
       case rel => exact ⟨(wrap64 (x1_1 + 1)), (by first | rfl | (simp; done) | (simp [*]; done) | (simp; exact (show ∀ a_ b_ : Bool, (a_ == b_) = (!(a_ != b_)) from by decide) _ _) | (rw [Bool.eq_iff_iff]; simp; done) | (simp; rw [Bool.eq_iff_iff]; simp; done)), H', ⟨by have := HK1.out; have := HK2.out; omega⟩, ⟨by repeat (first | (with_reducible first | exact HB.out | apply below_alloc | apply pw_below_drewN | apply below_drew1) | exact HB.out)⟩⟩
   ·rw [if_neg c1] at H
    have c1b0 : decide (x1_1 ≤ 4001) = false := decide_eq_false c1
    clear c1
    obtain ⟨y487, hy487⟩ : ∃ y_ : List Int, y_ = (([(-1), 0, 1, 1439, 1440, 730483, 730484, 730485, 1051898399, 1051898400, (-9223372036854775808), 9223372036854775807] : List Int)) := ⟨_, rfl⟩
    replace H : (letterbaglaw01_CivilSmall.l3 k1 y487 y487 (y487.length : Int) 0) = some true := by first | (rw [hy487]; with_reducible exact H) | (have H2_ := (Option.bind_some _ _).symm.trans H; rw [hy487]; with_reducible exact H2_) | (have H2_ := (Option.bind_some _ _).symm.trans H; with_reducible exact H2_) | with_reducible exact H | (rw [hy487]; exact H) | exact H
    have Ny487 := Aside0.mk hy487
    clear hy487
    have H' := Aside0.mk H
    clear H
    go_wp2_with (first | ((with_reducible refine gate_dst (N := 47) rfl ?_); (try (refine gate_guard (by rfl) ?_; dsimp only)); refine Kd.R_lit (Kd.int .i64) _ 3 ?hg (N := 47) ?hd (xs := ([(-1), 0, 1, 1439, 1440, 730483, 730484, 730485, 1051898399, 1051898400, (-9223372036854775808), 9223372036854775807] : List Int)) (inner := [.int .i64 (-1), .int .i64 0, .int .i64 1, .int .i64 1439, .int .i64 1440, .int .i64 730483, .int .i64 730484, .int .i64 730485, .int .i64 1051898399, .int .i64 1051898400, .int .i64 (-9223372036854775808), .int .i64 9223372036854775807]) (ok := fun _ => True) (okp := fun _ => True) ?hr ?hp (fun _ hk => hk) trivial (Below.refl _ _) (Nat.le_refl _) (by simp) ?_; (case hd => rfl); (case hg => rfl); (case hr => first | (go_simp; done) | (go_simp; rfl)); (case hp => exact (Reps.one (show Kd.M (Kd.int .i64) _ _ _ (-1) [.int .i64 (-1)] from rfl) (Reps.one (show Kd.M (Kd.int .i64) _ _ _ 0 [.int .i64 0] from rfl) (Reps.one (show Kd.M (Kd.int .i64) _ _ _ 1 [.int .i64 1] from rfl) (Reps.one (show Kd.M (Kd.int .i64) _ _ _ 1439 [.int .i64 1439] from rfl) (Reps.one (show Kd.M (Kd.int .i64) _ _ _ 1440 [.int .i64 1440] from rfl) (Reps.one (show Kd.M (Kd.int .i64) _ _ _ 730483 [.int .i64 730483] from rfl) (Reps.one (show Kd.M (Kd.int .i64) _ _ _ 730484 [.int .i64 730484] from rfl) (Reps.one (show Kd.M (Kd.int .i64) _ _ _ 730485 [.int .i64 730485] from rfl) (Reps.one (show Kd.M (Kd.int .i64) _ _ _ 1051898399 [.int .i64 1051898399] from rfl) (Reps.one (show Kd.M (Kd.int .i64) _ _ _ 1051898400 [.int .i64 1051898400] from rfl) (Reps.one (show Kd.M (Kd.int .i64) _ _ _ (-9223372036854775808) [.int .i64 (-9223372036854775808)] from rfl) (Reps.one (show Kd.M (Kd.int .i64) _ _ _ 9223372036854775807 [.int .i64 9223372036854775807] from rfl) (Reps.none _ _)))))))))))))); intro v488 w16 ho17 hb hg_ hnew_; clear hg_ hnew_; (first | rw [← Ny487.out] at ho17 | (simp only [Int.reduceToNat] at ho17; rw [← Ny487.out] at ho17)); have n0_ := Aside0.mk (Kd.R_lower ho17 (below_size (by repeat (first | (with_reducible first | exact HB.out | apply below_alloc | apply pw_below_drewN | apply below_drew1) | exact HB.out)))); have n1_ := Aside0.mk (below_step (by repeat (first | (with_reducible first | exact HB.out | apply below_alloc | apply pw_below_drewN | apply below_drew1) | exact HB.out)) hb); clear HB; have HO489 := n0_; have HB := n1_; clear n0_ n1_; clear hb ho17; obtain ⟨Ao18, co18, eo18⟩ := Kd.R_slice HO489.out; subst eo18))
    go_loopg [50] k1 (fun kq v50 w' => ∃ (x50_2 : Int), v50 = .int .i64 x50_2 ∧ Aside0 (letterbaglaw01_CivilSmall.l3 kq y487 y487 (y487.length : Int) x50_2 = some true) ∧ Aside0 (kq ≤ k1) ∧ Aside0 (Kd.R (Kd.int .i64) 3 w' w.heap.size (fun _ => True) (.slice Ao18 y487.length co18) y487) ∧ Aside0 (Kd.R (Kd.int .i64) 3 w' w.heap.size (fun _ => True) (.slice Ao18 y487.length co18) y487) ∧ Aside0 (Below w.heap.size w w'))
    case atStart => exact ⟨(0), (by first | rfl | (simp; done) | (simp [*]; done) | (simp; exact (show ∀ a_ b_ : Bool, (a_ == b_) = (!(a_ != b_)) from by decide) _ _) | (rw [Bool.eq_iff_iff]; simp; done) | (simp; rw [Bool.eq_iff_iff]; simp; done)), H', ⟨Nat.le_refl _⟩, ⟨by (with_reducible repeat (first | apply Kd.R_alloc | apply Kd.R_drewN | apply Kd.R_drew)); exact HO489.out⟩, ⟨by (with_reducible repeat (first | apply Kd.R_alloc | apply Kd.R_drewN | apply Kd.R_drew)); exact HO489.out⟩, ⟨by repeat (first | (with_reducible first | exact HB.out | apply below_alloc | apply pw_below_drewN | apply below_drew1) | exact HB.out)⟩⟩
    case round =>
     clear H'
     try clear c1
     try clear c1b0
     try clear c2
     try clear c2b0
     try clear p2
     try clear c3
     try clear p4
     try clear q4
     try clear hx4
     try clear c6
     try clear c6b0
     try clear p6
     try clear c7
     try clear c7b0
     try clear c8
     try clear c8b0
     try clear c10
     try clear c10b0
     try clear c11
     try clear c11b0
     try clear c12
     try clear c13
     try clear c14
     try clear hx485_0
     try clear p2
     try clear p4
     try clear p485
     try clear q4
     try clear q485
     obtain ⟨x50_2, rfl, HA, HK2, HO_5, HO_48, HB⟩ := hrel
     cases gk with
     | zero => exact absurd HA.out (by simp [letterbaglaw01_CivilSmall.l3])
     | succ k2 =>
      have H := HA.out
      clear HA
      simp only [letterbaglaw01_CivilSmall.l3] at H
      by_cases c19 : x50_2 < (y487.length : Int)
      ·rw [if_pos c19] at H
       have c19b0 : decide (x50_2 < (y487.length : Int)) = true := decide_eq_true c19
       clear c19
       by_cases c20 : 0 ≤ x50_2
       ·rw [if_pos c20] at H
        have c20b0 : decide (0 ≤ x50_2) = true := decide_eq_true c20
        clear c20
        by_cases c21 : x50_2 < (y487.length : Int)
        ·rw [if_pos c21] at H
         have c21b0 : decide (x50_2 < (y487.length : Int)) = true := decide_eq_true c21
         clear c21
         have H' := Aside0.mk H
         clear H
         have p490 : 0 ≤ (x50_2 : Int) := of_decide_eq_true (by first | (with_reducible assumption) | assumption)
         have q490 : x50_2 < (y487.length : Int) := of_decide_eq_true (by first | (with_reducible assumption) | assumption)
         obtain ⟨ad490, e490, hx490_0⟩ := Kd.at_int (Kd.R_reads' HO_48.out).2.2 x50_2 p490 q490
         cases e490
         replace p490 := eq_true p490
         replace q490 := eq_true q490
         go_wp2
         go_loopg [56] k2 (fun kq v56 w' => ∃ (x56_3 : Int), v56 = .int .i64 x56_3 ∧ Aside0 (letterbaglaw01_CivilSmall.l4 kq y487 (rd y487 x50_2) y487 (y487.length : Int) x50_2 y487 (y487.length : Int) x56_3 = some true) ∧ Aside0 (kq ≤ k2) ∧ Aside0 (Kd.R (Kd.int .i64) 3 w' w.heap.size (fun _ => True) (.slice (some ad490) y487.length co18) y487) ∧ Aside0 (Kd.R (Kd.int .i64) 3 w' w.heap.size (fun _ => True) (.slice (some ad490) y487.length co18) y487) ∧ Aside0 (Kd.R (Kd.int .i64) 3 w' w.heap.size (fun _ => True) (.slice (some ad490) y487.length co18) y487) ∧ Aside0 (Below w.heap.size w w'))
         case atStart => exact ⟨(0), (by first | rfl | (simp; done) | (simp [*]; done) | (simp; exact (show ∀ a_ b_ : Bool, (a_ == b_) = (!(a_ != b_)) from by decide) _ _) | (rw [Bool.eq_iff_iff]; simp; done) | (simp; rw [Bool.eq_iff_iff]; simp; done)), H', ⟨Nat.le_refl _⟩, ⟨by (with_reducible repeat (first | apply Kd.R_alloc | apply Kd.R_drewN | apply Kd.R_drew)); exact HO_5.out⟩, ⟨by (with_reducible repeat (first | apply Kd.R_alloc | apply Kd.R_drewN | apply Kd.R_drew)); exact HO_48.out⟩, ⟨by (with_reducible repeat (first | apply Kd.R_alloc | apply Kd.R_drewN | apply Kd.R_drew)); exact HO_5.out⟩, ⟨by repeat (first | (with_reducible first | exact HB.out | apply below_alloc | apply pw_below_drewN | apply below_drew1) | exact HB.out)⟩⟩
         case round =>
          clear H'
          try clear c1
          try clear c1b0
          try clear c2
          try clear c2b0
          try clear p2
          try clear c3
          try clear p4
          try clear q4
          try clear hx4
          try clear c6
          try clear c6b0
          try clear p6
          try clear c7
          try clear c7b0
          try clear c8
          try clear c8b0
          try clear c10
          try clear c10b0
          try clear c11
          try clear c11b0
          try clear c12
          try clear c13
          try clear c14
          try clear c19
          try clear c19b0
          try clear c20
          try clear c20b0
          try clear c21
          try clear c21b0
          try clear hx485_0
          try clear hx490_0
          try clear p2
          try clear p4
          try clear p485
          try clear p490
          try clear p6
          try clear q4
          try clear q485
          try clear q490
          obtain ⟨x56_3, rfl, HA, HK3, HO_5, HO_48, HO_54, HB⟩ := hrel
          cases gk with
          | zero => exact absurd HA.out (by simp [letterbaglaw01_CivilSmall.l4])
          | succ k3 =>
           have H := HA.out
           clear HA
           simp only [letterbaglaw01_CivilSmall.l4] at H
           by_cases c22 : x56_3 < (y487.length : Int)
           ·rw [if_pos c22] at H
            have c22b0 : decide (x56_3 < (y487.length : Int)) = true := decide_eq_true c22
            clear c22
            by_cases c23 : 0 ≤ x56_3
            ·rw [if_pos c23] at H
             have c23b0 : decide (0 ≤ x56_3) = true := decide_eq_true c23
             clear c23
             by_cases c24 : x56_3 < (y487.length : Int)
             ·rw [if_pos c24] at H
              have c24b0 : decide (x56_3 < (y487.length : Int)) = true := decide_eq_true c24
              clear c24
              replace H := Option.bind_eq_some_iff.mp H
              obtain ⟨t492, A250, H⟩ := H
              replace H : (if t492 = true then ((letterbaglaw01_CivilTells.f k3 (rd y487 x50_2) (rd y487 x56_3) (rd y487 x50_2) (rd y487 x56_3) (rd y487 x50_2)).bind fun t493 => (if t493 = true then ((letterbaglaw01_civilWorks.f k3 ([] : List Int) (rd y487 x50_2) (rd y487 x56_3) 0 101 1231).bind fun t494 => (if t494 = true then ((letterbaglaw01_civilWorks.f k3 (([0, 1] : List Int)) (rd y487 x50_2) (rd y487 x50_2) (rd y487 x56_3) 228 301).bind fun t498 => (if t498 = true then (letterbaglaw01_CivilSmall.l4 k3 y487 (rd y487 x50_2) y487 (y487.length : Int) x50_2 y487 (y487.length : Int) (wrap64 (x56_3 + 1))) else (some false))) else (some false))) else (some false))) else (some false)) = some true := H
              have A25 := Aside0.mk A250
              clear A250
              by_cases c26 : t492 = true
              ·subst c26
               have H1 : ((letterbaglaw01_CivilTells.f k3 (rd y487 x50_2) (rd y487 x56_3) (rd y487 x50_2) (rd y487 x56_3) (rd y487 x50_2)).bind fun t493 => (if t493 = true then ((letterbaglaw01_civilWorks.f k3 ([] : List Int) (rd y487 x50_2) (rd y487 x56_3) 0 101 1231).bind fun t494 => (if t494 = true then ((letterbaglaw01_civilWorks.f k3 (([0, 1] : List Int)) (rd y487 x50_2) (rd y487 x50_2) (rd y487 x56_3) 228 301).bind fun t498 => (if t498 = true then (letterbaglaw01_CivilSmall.l4 k3 y487 (rd y487 x50_2) y487 (y487.length : Int) x50_2 y487 (y487.length : Int) (wrap64 (x56_3 + 1))) else (some false))) else (some false))) else (some false))) = some true := by rw [if_pos rfl] at H; exact H
               clear H
               have H := H1
               clear H1
               replace H := Option.bind_eq_some_iff.mp H
               obtain ⟨t493, A270, H⟩ := H
               replace H : (if t493 = true then ((letterbaglaw01_civilWorks.f k3 ([] : List Int) (rd y487 x50_2) (rd y487 x56_3) 0 101 1231).bind fun t494 => (if t494 = true then ((letterbaglaw01_civilWorks.f k3 (([0, 1] : List Int)) (rd y487 x50_2) (rd y487 x50_2) (rd y487 x56_3) 228 301).bind fun t498 => (if t498 = true then (letterbaglaw01_CivilSmall.l4 k3 y487 (rd y487 x50_2) y487 (y487.length : Int) x50_2 y487 (y487.length : Int) (wrap64 (x56_3 + 1))) else (some false))) else (some false))) else (some false)) = some true := H
               have A27 := Aside0.mk A270
               clear A270
               by_cases c28 : t493 = true
               ·subst c28
                have H1 : ((letterbaglaw01_civilWorks.f k3 ([] : List Int) (rd y487 x50_2) (rd y487 x56_3) 0 101 1231).bind fun t494 => (if t494 = true then ((letterbaglaw01_civilWorks.f k3 (([0, 1] : List Int)) (rd y487 x50_2) (rd y487 x50_2) (rd y487 x56_3) 228 301).bind fun t498 => (if t498 = true then (letterbaglaw01_CivilSmall.l4 k3 y487 (rd y487 x50_2) y487 (y487.length : Int) x50_2 y487 (y487.length : Int) (wrap64 (x56_3 + 1))) else (some false))) else (some false))) = some true := by rw [if_pos rfl] at H; exact H
                clear H
                have H := H1
                clear H1
                replace H := Option.bind_eq_some_iff.mp H
                obtain ⟨t494, A290, H⟩ := H
                replace H : (if t494 = true then ((letterbaglaw01_civilWorks.f k3 (([0, 1] : List Int)) (rd y487 x50_2) (rd y487 x50_2) (rd y487 x56_3) 228 301).bind fun t498 => (if t498 = true then (letterbaglaw01_CivilSmall.l4 k3 y487 (rd y487 x50_2) y487 (y487.length : Int) x50_2 y487 (y487.length : Int) (wrap64 (x56_3 + 1))) else (some false))) else (some false)) = some true := H
                have A29 := Aside0.mk A290
                clear A290
                by_cases c30 : t494 = true
                ·subst c30
                 have H1 : ((letterbaglaw01_civilWorks.f k3 (([0, 1] : List Int)) (rd y487 x50_2) (rd y487 x50_2) (rd y487 x56_3) 228 301).bind fun t498 => (if t498 = true then (letterbaglaw01_CivilSmall.l4 k3 y487 (rd y487 x50_2) y487 (y487.length : Int) x50_2 y487 (y487.length : Int) (wrap64 (x56_3 + 1))) else (some false))) = some true := by rw [if_pos rfl] at H; exact H
                 clear H
                 have H := H1
                 clear H1
                 obtain ⟨y495, hy495⟩ : ∃ y_ : List Int, y_ = (([0, 1] : List Int)) := ⟨_, rfl⟩
                 replace H : ((letterbaglaw01_civilWorks.f k3 y495 (rd y487 x50_2) (rd y487 x50_2) (rd y487 x56_3) 228 301).bind fun t498 => (if t498 = true then (letterbaglaw01_CivilSmall.l4 k3 y487 (rd y487 x50_2) y487 (y487.length : Int) x50_2 y487 (y487.length : Int) (wrap64 (x56_3 + 1))) else (some false))) = some true := by first | (rw [hy495]; with_reducible exact H) | (have H2_ := (Option.bind_some _ _).symm.trans H; rw [hy495]; with_reducible exact H2_) | (have H2_ := (Option.bind_some _ _).symm.trans H; with_reducible exact H2_) | with_reducible exact H | (rw [hy495]; exact H) | exact H
                 have Ny495 := Aside0.mk hy495
                 clear hy495
                 replace H := Option.bind_eq_some_iff.mp H
                 obtain ⟨t498, A310, H⟩ := H
                 replace H : (if t498 = true then (letterbaglaw01_CivilSmall.l4 k3 y487 (rd y487 x50_2) y487 (y487.length : Int) x50_2 y487 (y487.length : Int) (wrap64 (x56_3 + 1))) else (some false)) = some true := H
                 have A31 := Aside0.mk A310
                 clear A310
                 by_cases c32 : t498 = true
                 ·subst c32
                  have H1 : (letterbaglaw01_CivilSmall.l4 k3 y487 (rd y487 x50_2) y487 (y487.length : Int) x50_2 y487 (y487.length : Int) (wrap64 (x56_3 + 1))) = some true := by rw [if_pos rfl] at H; exact H
                  clear H
                  have H := H1
                  clear H1
                  have H' := Aside0.mk H
                  clear H
                  have p491 : 0 ≤ (x56_3 : Int) := of_decide_eq_true (by first | (with_reducible assumption) | assumption)
                  have q491 : x56_3 < (y487.length : Int) := of_decide_eq_true (by first | (with_reducible assumption) | assumption)
                  obtain ⟨ad491, e491, hx491_0⟩ := Kd.at_int (Kd.R_reads' HO_54.out).2.2 x56_3 p491 q491
                  obtain rfl : ad490 = ad491 := (by injection e491)
                  replace p491 := eq_true p491
                  replace q491 := eq_true q491
                  go_wp2_with (first | ((with_reducible refine gate_callee (f := 14) rfl ?_); refine goesL_ (some 62) rfl rfl Tryd.func14 (by kernel_rfl) rfl #[.int .i64 (rd y487 x50_2), .int .i64 (rd y487 x56_3)] rfl (by (try simp only [List.map_toArray, List.map_cons, List.map_nil]); first | done | rfl | (simp only [List.length_drop, List.length_take]; rfl)) ?_; (with_reducible refine (letterbaglaw01_date.calls k3 (rd y487 x50_2) (rd y487 x56_3) true _ ?tabG A25.out).mono ?_); (case tabG => (first | exact hg | exact ⟨hg.out.below (by repeat (first | (with_reducible first | exact HB.out | apply below_alloc | apply pw_below_drewN | apply below_drew1) | exact HB.out))⟩)); rintro e w33 ⟨rfl, hb⟩; refine ⟨_, rfl, ?_⟩; have n0_ := Aside0.mk (Kd.R_below (by (with_reducible repeat (first | apply Kd.R_alloc | apply Kd.R_drewN | apply Kd.R_drew)); exact HO_5.out) hb); have n1_ := Aside0.mk (Kd.R_below (by (with_reducible repeat (first | apply Kd.R_alloc | apply Kd.R_drewN | apply Kd.R_drew)); exact HO_48.out) hb); have n2_ := Aside0.mk (Kd.R_below (by (with_reducible repeat (first | apply Kd.R_alloc | apply Kd.R_drewN | apply Kd.R_drew)); exact HO_54.out) hb); have n3_ := Aside0.mk (below_step (by repeat (first | (with_reducible first | exact HB.out | apply below_alloc | apply pw_below_drewN | apply below_drew1) | exact HB.out)) hb); clear HO_5; clear HO_48; clear HO_54; clear HB; have HO_5 := n0_; have HO_48 := n1_; have HO_54 := n2_; have HB := n3_; clear n0_ n1_ n2_ n3_; (try clear hb); (try clear hb2); (try clear hk); (try clear hi)) | (go_at_call 13; (with_reducible refine (letterbaglaw01_CivilTells.calls k3 (rd y487 x50_2) (rd y487 x56_3) (rd y487 x50_2) (rd y487 x56_3) (rd y487 x50_2) _ ?tabG A27.out).mono ?_); (case tabG => (first | exact hg | exact ⟨hg.out.below (by repeat (first | (with_reducible first | exact HB.out | apply below_alloc | apply pw_below_drewN | apply below_drew1) | exact HB.out))⟩)); rintro e w34 ⟨rfl, hb⟩; have n0_ := Aside0.mk (Kd.R_below (by (with_reducible repeat (first | apply Kd.R_alloc | apply Kd.R_drewN | apply Kd.R_drew)); exact HO_5.out) hb); have n1_ := Aside0.mk (Kd.R_below (by (with_reducible repeat (first | apply Kd.R_alloc | apply Kd.R_drewN | apply Kd.R_drew)); exact HO_48.out) hb); have n2_ := Aside0.mk (Kd.R_below (by (with_reducible repeat (first | apply Kd.R_alloc | apply Kd.R_drewN | apply Kd.R_drew)); exact HO_54.out) hb); have n3_ := Aside0.mk (below_step (by repeat (first | (with_reducible first | exact HB.out | apply below_alloc | apply pw_below_drewN | apply below_drew1) | exact HB.out)) hb); clear HO_5; clear HO_48; clear HO_54; clear HB; have HO_5 := n0_; have HO_48 := n1_; have HO_54 := n2_; have HB := n3_; clear n0_ n1_ n2_ n3_; (try clear hb); (try clear hb2); (try clear hk); (try clear hi)) | (go_at_call 15; (with_reducible refine (civilWorks_nil k3 (rd y487 x50_2) (rd y487 x56_3) 0 101 1231 true _ ?tabG A29.out).mono ?_); (case tabG => (first | exact hg | exact ⟨hg.out.below (by repeat (first | (with_reducible first | exact HB.out | apply below_alloc | apply pw_below_drewN | apply below_drew1) | exact HB.out))⟩)); rintro e w35 ⟨rfl, hb⟩; have n0_ := Aside0.mk (Kd.R_below (by (with_reducible repeat (first | apply Kd.R_alloc | apply Kd.R_drewN | apply Kd.R_drew)); exact HO_5.out) hb); have n1_ := Aside0.mk (Kd.R_below (by (with_reducible repeat (first | apply Kd.R_alloc | apply Kd.R_drewN | apply Kd.R_drew)); exact HO_48.out) hb); have n2_ := Aside0.mk (Kd.R_below (by (with_reducible repeat (first | apply Kd.R_alloc | apply Kd.R_drewN | apply Kd.R_drew)); exact HO_54.out) hb); have n3_ := Aside0.mk (below_step (by repeat (first | (with_reducible first | exact HB.out | apply below_alloc | apply pw_below_drewN | apply below_drew1) | exact HB.out)) hb); clear HO_5; clear HO_48; clear HO_54; clear HB; have HO_5 := n0_; have HO_48 := n1_; have HO_54 := n2_; have HB := n3_; clear n0_ n1_ n2_ n3_; (try clear hb); (try clear hb2); (try clear hk); (try clear hi)) | ((with_reducible refine gate_dst (N := 80) rfl ?_); (try (refine gate_guard (by rfl) ?_; dsimp only)); refine Kd.R_lit (Kd.int .i64) _ 3 ?hg (N := 80) ?hd (xs := ([0, 1] : List Int)) (inner := [.int .i64 0, .int .i64 1]) (ok := fun _ => True) (okp := fun _ => True) ?hr ?hp (fun _ hk => hk) trivial (Below.refl _ _) (Nat.le_refl _) (by simp) ?_; (case hd => rfl); (case hg => rfl); (case hr => first | (go_simp; done) | (go_simp; rfl)); (case hp => exact (Reps.one (show Kd.M (Kd.int .i64) _ _ _ 0 [.int .i64 0] from rfl) (Reps.one (show Kd.M (Kd.int .i64) _ _ _ 1 [.int .i64 1] from rfl) (Reps.none _ _)))); intro v496 w36 ho37 hb hg_ hnew_; clear hg_ hnew_; (first | rw [← Ny495.out] at ho37 | (simp only [Int.reduceToNat] at ho37; rw [← Ny495.out] at ho37)); have n0_ := Aside0.mk (Kd.R_elder' (by (with_reducible repeat (first | apply Kd.R_alloc | apply Kd.R_drewN | apply Kd.R_drew)); exact HO_5.out) (Kd.R_base ho37) hb); have n1_ := Aside0.mk (Kd.R_elder' (by (with_reducible repeat (first | apply Kd.R_alloc | apply Kd.R_drewN | apply Kd.R_drew)); exact HO_48.out) (Kd.R_base ho37) hb); have n2_ := Aside0.mk (Kd.R_elder' (by (with_reducible repeat (first | apply Kd.R_alloc | apply Kd.R_drewN | apply Kd.R_drew)); exact HO_54.out) (Kd.R_base ho37) hb); have n3_ := Aside0.mk (Kd.R_lower (Kd.R_new' (Kd.R_new' (Kd.R_new' ho37 (Kd.R_lt (by (with_reducible repeat (first | apply Kd.R_alloc | apply Kd.R_drewN | apply Kd.R_drew)); exact HO_5.out))) (Kd.R_lt (by (with_reducible repeat (first | apply Kd.R_alloc | apply Kd.R_drewN | apply Kd.R_drew)); exact HO_48.out))) (Kd.R_lt (by (with_reducible repeat (first | apply Kd.R_alloc | apply Kd.R_drewN | apply Kd.R_drew)); exact HO_54.out))) (below_size (by repeat (first | (with_reducible first | exact HB.out | apply below_alloc | apply pw_below_drewN | apply below_drew1) | exact HB.out)))); have n4_ := Aside0.mk (below_step (by repeat (first | (with_reducible first | exact HB.out | apply below_alloc | apply pw_below_drewN | apply below_drew1) | exact HB.out)) hb); clear HO_5; clear HO_48; clear HO_54; clear HB; have HO_5 := n0_; have HO_48 := n1_; have HO_54 := n2_; have HO497 := n3_; have HB := n4_; clear n0_ n1_ n2_ n3_ n4_; clear hb ho37; obtain ⟨Ao38, co38, eo38⟩ := Kd.R_slice HO497.out; subst eo38) | (go_at_call 15; (with_reducible refine (letterbaglaw01_civilWorks.calls k3 _ _ y495 (rd y487 x50_2) (rd y487 x50_2) (rd y487 x56_3) 228 301 true _ ?tabG ?side1 ?side2 A31.out).mono ?_); (case tabG => (first | exact hg | exact ⟨hg.out.below (by repeat (first | (with_reducible first | exact HB.out | apply below_alloc | apply pw_below_drewN | apply below_drew1) | exact HB.out))⟩)); (case side1 => repeat (first | exact (Kd.R_reads' HO497.out).2.2 | (with_reducible refine Kd.C_alloc ?_ _) | (with_reducible refine Kd.C_drewN ?_ _) | (with_reducible refine Kd.C_drew ?_))); (case side2 => exact (Kd.R_reads' HO497.out).2.1); rintro e w39 ⟨rfl, hb⟩; have n0_ := Aside0.mk (Kd.R_below (by (with_reducible repeat (first | apply Kd.R_alloc | apply Kd.R_drewN | apply Kd.R_drew)); exact HO_5.out) hb); have n1_ := Aside0.mk (Kd.R_below (by (with_reducible repeat (first | apply Kd.R_alloc | apply Kd.R_drewN | apply Kd.R_drew)); exact HO_48.out) hb); have n2_ := Aside0.mk (Kd.R_below (by (with_reducible repeat (first | apply Kd.R_alloc | apply Kd.R_drewN | apply Kd.R_drew)); exact HO_54.out) hb); have n3_ := Aside0.mk (Kd.R_below (by (with_reducible repeat (first | apply Kd.R_alloc | apply Kd.R_drewN | apply Kd.R_drew)); exact HO497.out) hb); have n4_ := Aside0.mk (below_step (by repeat (first | (with_reducible first | exact HB.out | apply below_alloc | apply pw_below_drewN | apply below_drew1) | exact HB.out)) hb); clear HO_5; clear HO_48; clear HO_54; clear HO497; clear HB; have HO_5 := n0_; have HO_48 := n1_; have HO_54 := n2_; have HO497 := n3_; have HB := n4_; clear n0_ n1_ n2_ n3_ n4_; (try clear hb); (try clear hb2); (try clear hk); (try clear hi)))
                  go_roundg k3
                  case measure => have := HK1.out; have := HK2.out; have := HK3.out; omega
                  case rel => exact ⟨(wrap64 (x56_3 + 1)), (by first | rfl | (simp; done) | (simp [*]; done) | (simp; exact (show ∀ a_ b_ : Bool, (a_ == b_) = (!(a_ != b_)) from by decide) _ _) | (rw [Bool.eq_iff_iff]; simp; done) | (simp; rw [Bool.eq_iff_iff]; simp; done)), H', ⟨by have := HK1.out; have := HK2.out; have := HK3.out; omega⟩, ⟨by (with_reducible repeat (first | apply Kd.R_alloc | apply Kd.R_drewN | apply Kd.R_drew)); exact Kd.R_mono HO_5.out (fun _ hk => trivial)⟩, ⟨by (with_reducible repeat (first | apply Kd.R_alloc | apply Kd.R_drewN | apply Kd.R_drew)); exact Kd.R_mono HO_48.out (fun _ hk => trivial)⟩, ⟨by (with_reducible repeat (first | apply Kd.R_alloc | apply Kd.R_drewN | apply Kd.R_drew)); exact Kd.R_mono HO_54.out (fun _ hk => trivial)⟩, ⟨by repeat (first | (with_reducible first | exact HB.out | apply below_alloc | apply pw_below_drewN | apply below_drew1) | exact HB.out)⟩⟩
                 ·replace c32 := Bool.eq_false_iff.mpr c32
                  subst c32
                  have H1 : (some false) = some true := by rw [if_neg (show ¬ (false = true) by decide)] at H; exact H
                  clear H
                  have H := H1
                  clear H1
                  exact absurd H (by simp)
                ·replace c30 := Bool.eq_false_iff.mpr c30
                 subst c30
                 have H1 : (some false) = some true := by rw [if_neg (show ¬ (false = true) by decide)] at H; exact H
                 clear H
                 have H := H1
                 clear H1
                 exact absurd H (by simp)
               ·replace c28 := Bool.eq_false_iff.mpr c28
                subst c28
                have H1 : (some false) = some true := by rw [if_neg (show ¬ (false = true) by decide)] at H; exact H
                clear H
                have H := H1
                clear H1
                exact absurd H (by simp)
              ·replace c26 := Bool.eq_false_iff.mpr c26
               subst c26
               have H1 : (some false) = some true := by rw [if_neg (show ¬ (false = true) by decide)] at H; exact H
               clear H
               have H := H1
               clear H1
               exact absurd H (by simp)
             ·rw [if_neg c24] at H
              exact absurd H (by simp)
            ·rw [if_neg c23] at H
             exact absurd H (by simp)
           ·rw [if_neg c22] at H
            have c22b0 : decide (x56_3 < (y487.length : Int)) = false := decide_eq_false c22
            clear c22
            have H' := Aside0.mk H
            clear H
            go_wp2
            go_roundg k3
            case measure => have := HK1.out; have := HK2.out; have := HK3.out; omega
            case rel => exact ⟨(wrap64 (x50_2 + 1)), (by first | rfl | (simp; done) | (simp [*]; done) | (simp; exact (show ∀ a_ b_ : Bool, (a_ == b_) = (!(a_ != b_)) from by decide) _ _) | (rw [Bool.eq_iff_iff]; simp; done) | (simp; rw [Bool.eq_iff_iff]; simp; done)), H', ⟨by have := HK1.out; have := HK2.out; have := HK3.out; omega⟩, ⟨by (with_reducible repeat (first | apply Kd.R_alloc | apply Kd.R_drewN | apply Kd.R_drew)); exact HO_5.out⟩, ⟨by (with_reducible repeat (first | apply Kd.R_alloc | apply Kd.R_drewN | apply Kd.R_drew)); exact HO_48.out⟩, ⟨by repeat (first | (with_reducible first | exact HB.out | apply below_alloc | apply pw_below_drewN | apply below_drew1) | exact HB.out)⟩⟩
        ·rw [if_neg c21] at H
         exact absurd H (by simp)
       ·rw [if_neg c20] at H
        exact absurd H (by simp)
      ·rw [if_neg c19] at H
       have c19b0 : decide (x50_2 < (y487.length : Int)) = false := decide_eq_false c19
       clear c19
       obtain ⟨y499, hy499⟩ : ∃ y_ : List ByteArray, y_ = (([(⟨#[50, 48, 48, 52, 45, 48, 50, 45, 50, 57]⟩ : ByteArray), (⟨#[52, 48, 48, 48, 45, 49, 50, 45, 51, 49, 32, 50, 51, 58, 53, 57]⟩ : ByteArray)] : List ByteArray)) := ⟨_, rfl⟩
       replace H : (letterbaglaw01_CivilSmall.l5 k2 y499 (y499.length : Int) 0) = some true := by first | (rw [hy499]; with_reducible exact H) | (have H2_ := (Option.bind_some _ _).symm.trans H; rw [hy499]; with_reducible exact H2_) | (have H2_ := (Option.bind_some _ _).symm.trans H; with_reducible exact H2_) | with_reducible exact H | (rw [hy499]; exact H) | exact H
       have Ny499 := Aside0.mk hy499
       clear hy499
       have H' := Aside0.mk H
       clear H
       go_wp2_with (first | ((with_reducible refine gate_dst (N := 89) rfl ?_); (try (refine gate_guard (by rfl) ?_; dsimp only)); refine Kd.R_lit Kd.string _ 9 ?hg (N := 89) ?hd (xs := ([(⟨#[50, 48, 48, 52, 45, 48, 50, 45, 50, 57]⟩ : ByteArray), (⟨#[52, 48, 48, 48, 45, 49, 50, 45, 51, 49, 32, 50, 51, 58, 53, 57]⟩ : ByteArray)] : List ByteArray)) (inner := [.string (⟨#[50, 48, 48, 52, 45, 48, 50, 45, 50, 57]⟩ : ByteArray), .string (⟨#[52, 48, 48, 48, 45, 49, 50, 45, 51, 49, 32, 50, 51, 58, 53, 57]⟩ : ByteArray)]) (ok := fun _ => True) (okp := fun _ => True) ?hr ?hp (fun _ hk => hk) trivial (Below.refl _ _) (Nat.le_refl _) (by simp) ?_; (case hd => rfl); (case hg => rfl); (case hr => first | (go_simp; done) | (go_simp; rfl)); (case hp => exact (Reps.one (show Kd.M Kd.string _ _ _ (⟨#[50, 48, 48, 52, 45, 48, 50, 45, 50, 57]⟩ : ByteArray) [.string (⟨#[50, 48, 48, 52, 45, 48, 50, 45, 50, 57]⟩ : ByteArray)] from rfl) (Reps.one (show Kd.M Kd.string _ _ _ (⟨#[52, 48, 48, 48, 45, 49, 50, 45, 51, 49, 32, 50, 51, 58, 53, 57]⟩ : ByteArray) [.string (⟨#[52, 48, 48, 48, 45, 49, 50, 45, 51, 49, 32, 50, 51, 58, 53, 57]⟩ : ByteArray)] from rfl) (Reps.none _ _)))); intro v500 w40 ho41 hb hg_ hnew_; clear hg_ hnew_; (first | rw [← Ny499.out] at ho41 | (simp only [Int.reduceToNat] at ho41; rw [← Ny499.out] at ho41)); have n0_ := Aside0.mk (Kd.R_below (by (with_reducible repeat (first | apply Kd.R_alloc | apply Kd.R_drewN | apply Kd.R_drew)); exact HO_5.out) hb); have n1_ := Aside0.mk (Kd.R_below (by (with_reducible repeat (first | apply Kd.R_alloc | apply Kd.R_drewN | apply Kd.R_drew)); exact HO_48.out) hb); have n2_ := Aside0.mk (Kd.R_lower ho41 (below_size (by repeat (first | (with_reducible first | exact HB.out | apply below_alloc | apply pw_below_drewN | apply below_drew1) | exact HB.out)))); have n3_ := Aside0.mk (below_step (by repeat (first | (with_reducible first | exact HB.out | apply below_alloc | apply pw_below_drewN | apply below_drew1) | exact HB.out)) hb); clear HO_5; clear HO_48; clear HB; have HO_5 := n0_; have HO_48 := n1_; have HO501 := n2_; have HB := n3_; clear n0_ n1_ n2_ n3_; clear hb ho41; obtain ⟨Ao42, co42, eo42⟩ := Kd.R_slice HO501.out; subst eo42))
       go_loopg [91] k2 (fun kq v91 w' => ∃ (x91_3 : Int), v91 = .int .i64 x91_3 ∧ Aside0 (letterbaglaw01_CivilSmall.l5 kq y499 (y499.length : Int) x91_3 = some true) ∧ Aside0 (kq ≤ k2) ∧ Aside0 (Kd.R Kd.string 9 w' w.heap.size (fun _ => True) (.slice Ao42 y499.length co42) y499) ∧ Aside0 (Below w.heap.size w w'))
       case atStart => exact ⟨(0), (by first | rfl | (simp; done) | (simp [*]; done) | (simp; exact (show ∀ a_ b_ : Bool, (a_ == b_) = (!(a_ != b_)) from by decide) _ _) | (rw [Bool.eq_iff_iff]; simp; done) | (simp; rw [Bool.eq_iff_iff]; simp; done)), H', ⟨Nat.le_refl _⟩, ⟨by (with_reducible repeat (first | apply Kd.R_alloc | apply Kd.R_drewN | apply Kd.R_drew)); exact HO501.out⟩, ⟨by repeat (first | (with_reducible first | exact HB.out | apply below_alloc | apply pw_below_drewN | apply below_drew1) | exact HB.out)⟩⟩
       case round =>
        clear H'
        try clear c1
        try clear c1b0
        try clear c2
        try clear c2b0
        try clear p2
        try clear c3
        try clear p4
        try clear q4
        try clear hx4
        try clear c6
        try clear c6b0
        try clear p6
        try clear c7
        try clear c7b0
        try clear c8
        try clear c8b0
        try clear c10
        try clear c10b0
        try clear c11
        try clear c11b0
        try clear c12
        try clear c13
        try clear c14
        try clear c19
        try clear c19b0
        try clear c20
        try clear c20b0
        try clear c21
        try clear c21b0
        try clear c22
        try clear c22b0
        try clear c23
        try clear c23b0
        try clear c24
        try clear c24b0
        try clear c26
        try clear c28
        try clear c30
        try clear c32
        try clear hx485_0
        try clear hx490_0
        try clear hx491_0
        try clear p2
        try clear p4
        try clear p485
        try clear p490
        try clear p491
        try clear p6
        try clear q4
        try clear q485
        try clear q490
        try clear q491
        obtain ⟨x91_3, rfl, HA, HK3, HO_89, HB⟩ := hrel
        cases gk with
        | zero => exact absurd HA.out (by simp [letterbaglaw01_CivilSmall.l5])
        | succ k3 =>
         have H := HA.out
         clear HA
         simp only [letterbaglaw01_CivilSmall.l5] at H
         by_cases c43 : x91_3 < (y499.length : Int)
         ·rw [if_pos c43] at H
          have c43b0 : decide (x91_3 < (y499.length : Int)) = true := decide_eq_true c43
          clear c43
          by_cases c44 : 0 ≤ x91_3
          ·rw [if_pos c44] at H
           have c44b0 : decide (0 ≤ x91_3) = true := decide_eq_true c44
           clear c44
           by_cases c45 : x91_3 < (y499.length : Int)
           ·rw [if_pos c45] at H
            have c45b0 : decide (x91_3 < (y499.length : Int)) = true := decide_eq_true c45
            clear c45
            have H' := Aside0.mk H
            clear H
            have p502 : 0 ≤ (x91_3 : Int) := of_decide_eq_true (by first | (with_reducible assumption) | assumption)
            have q502 : x91_3 < (y499.length : Int) := of_decide_eq_true (by first | (with_reducible assumption) | assumption)
            obtain ⟨ad502, e502, hx502_0⟩ := Kd.at_string (Kd.R_reads' HO_89.out).2.2 x91_3 p502 q502
            cases e502
            replace p502 := eq_true p502
            replace q502 := eq_true q502
            go_wp2
            go_loopg [12] k3 (fun kq v12 w' => ∃ (x12_4 : Int), v12 = .int .i64 x12_4 ∧ Aside0 (letterbaglaw01_CivilSmall.l6 kq (rdOf ByteArray.empty y499 x91_3) x12_4 y499 (y499.length : Int) x91_3 = some true) ∧ Aside0 (kq ≤ k3) ∧ Aside0 (Kd.R Kd.string 9 w' w.heap.size (fun _ => True) (.slice (some ad502) y499.length co42) y499) ∧ Aside0 (Below w.heap.size w w'))
            case atStart => exact ⟨(0), (by first | rfl | (simp; done) | (simp [*]; done) | (simp; exact (show ∀ a_ b_ : Bool, (a_ == b_) = (!(a_ != b_)) from by decide) _ _) | (rw [Bool.eq_iff_iff]; simp; done) | (simp; rw [Bool.eq_iff_iff]; simp; done)), H', ⟨Nat.le_refl _⟩, ⟨by (with_reducible repeat (first | apply Kd.R_alloc | apply Kd.R_drewN | apply Kd.R_drew)); exact HO_89.out⟩, ⟨by repeat (first | (with_reducible first | exact HB.out | apply below_alloc | apply pw_below_drewN | apply below_drew1) | exact HB.out)⟩⟩
            case round =>
             clear H'
             try clear c1
             try clear c1b0
             try clear c2
             try clear c2b0
             try clear p2
             try clear c3
             try clear c4
             try clear p4
             try clear q4
             try clear hx4
             try clear p5
             try clear q5
             try clear hx5
             try clear c6
             try clear c6b0
             try clear p6
             try clear c7
             try clear c7b0
             try clear c8
             try clear c8b0
             try clear c10
             try clear c10b0
             try clear c11
             try clear c11b0
             try clear c12
             try clear c13
             try clear c14
             try clear c19
             try clear c19b0
             try clear c20
             try clear c20b0
             try clear c21
             try clear c21b0
             try clear c22
             try clear c22b0
             try clear c23
             try clear c23b0
             try clear c24
             try clear c24b0
             try clear c26
             try clear c28
             try clear c30
             try clear c32
             try clear c43
             try clear c43b0
             try clear c44
             try clear c44b0
             try clear c45
             try clear c45b0
             try clear hx485_0
             try clear hx490_0
             try clear hx491_0
             try clear hx502_0
             try clear p2
             try clear p4
             try clear p485
             try clear p490
             try clear p491
             try clear p502
             try clear p6
             try clear q4
             try clear q485
             try clear q490
             try clear q491
             try clear q502
             obtain ⟨x12_4, rfl, HA, HK4, HO_89, HB⟩ := hrel
             cases gk with
             | zero => exact absurd HA.out (by simp [letterbaglaw01_CivilSmall.l6])
             | succ k4 =>
              have H := HA.out
              clear HA
              simp only [letterbaglaw01_CivilSmall.l6] at H
              by_cases c46 : x12_4 < ((rdOf ByteArray.empty y499 x91_3).size : Int)
              ·rw [if_pos c46] at H
               have c46b0 : decide (x12_4 < ((rdOf ByteArray.empty y499 x91_3).size : Int)) = true := decide_eq_true c46
               clear c46
               have H' := Aside0.mk H
               clear H
               go_wp2
               go_loopg [13] k4 (fun kq v13 w' => ∃ (x13_5 : Int), v13 = .int .i64 x13_5 ∧ Aside0 (letterbaglaw01_CivilSmall.l7 kq (rdOf ByteArray.empty y499 x91_3) x12_4 x13_5 y499 (y499.length : Int) x91_3 = some true) ∧ Aside0 (kq ≤ k4) ∧ Aside0 (Kd.R Kd.string 9 w' w.heap.size (fun _ => True) (.slice (some ad502) y499.length co42) y499) ∧ Aside0 (Below w.heap.size w w'))
               case atStart => exact ⟨(0), (by first | rfl | (simp; done) | (simp [*]; done) | (simp; exact (show ∀ a_ b_ : Bool, (a_ == b_) = (!(a_ != b_)) from by decide) _ _) | (rw [Bool.eq_iff_iff]; simp; done) | (simp; rw [Bool.eq_iff_iff]; simp; done)), H', ⟨Nat.le_refl _⟩, ⟨by (with_reducible repeat (first | apply Kd.R_alloc | apply Kd.R_drewN | apply Kd.R_drew)); exact HO_89.out⟩, ⟨by repeat (first | (with_reducible first | exact HB.out | apply below_alloc | apply pw_below_drewN | apply below_drew1) | exact HB.out)⟩⟩
               case round =>
                clear H'
                try clear c1
                try clear c1b0
                try clear c2
                try clear c2b0
                try clear p2
                try clear c3
                try clear c4
                try clear p4
                try clear q4
                try clear hx4
                try clear p5
                try clear q5
                try clear hx5
                try clear c6
                try clear c6b0
                try clear p6
                try clear c7
                try clear c7b0
                try clear c8
                try clear c8b0
                try clear c10
                try clear c10b0
                try clear c11
                try clear c11b0
                try clear c12
                try clear c13
                try clear c14
                try clear c19
                try clear c19b0
                try clear c20
                try clear c20b0
                try clear c21
                try clear c21b0
                try clear c22
                try clear c22b0
                try clear c23
                try clear c23b0
                try clear c24
                try clear c24b0
                try clear c26
                try clear c28
                try clear c30
                try clear c32
                try clear c43
                try clear c43b0
                try clear c44
                try clear c44b0
                try clear c45
                try clear c45b0
                try clear c46
                try clear c46b0
                try clear hx485_0
                try clear hx490_0
                try clear hx491_0
                try clear hx502_0
                try clear p2
                try clear p4
                try clear p485
                try clear p490
                try clear p491
                try clear p5
                try clear p502
                try clear p6
                try clear q4
                try clear q485
                try clear q490
                try clear q491
                try clear q5
                try clear q502
                obtain ⟨x13_5, rfl, HA, HK5, HO_89, HB⟩ := hrel
                cases gk with
                | zero => exact absurd HA.out (by simp [letterbaglaw01_CivilSmall.l7])
                | succ k5 =>
                 have H := HA.out
                 clear HA
                 simp only [letterbaglaw01_CivilSmall.l7] at H
                 by_cases c47 : x13_5 < 256
                 ·rw [if_pos c47] at H
                  have c47b0 : decide (x13_5 < 256) = true := decide_eq_true c47
                  clear c47
                  by_cases c48 : 0 ≤ x12_4
                  ·rw [if_pos c48] at H
                   have c48b0 := eq_true c48
                   have c48b1 : decide (0 ≤ x12_4) = true := decide_eq_true c48
                   clear c48
                   by_cases c49 : x12_4 ≤ ((rdOf ByteArray.empty y499 x91_3).size : Int)
                   ·rw [if_pos c49] at H
                    have c49b0 := eq_true c49
                    have c49b1 : decide (x12_4 ≤ ((rdOf ByteArray.empty y499 x91_3).size : Int)) = true := decide_eq_true c49
                    clear c49
                    obtain ⟨y503, hy503⟩ : ∃ y_ : List Int, y_ = (([(x13_5) % 256] : List Int)) := ⟨_, rfl⟩
                    replace H : (if ((rdOf ByteArray.empty y499 x91_3).extract 0 (x12_4 : Int).toNat).size + (strOfNums y503).size ≤ 9223372036854775807 then (if 0 ≤ (wrap64 (x12_4 + 1)) then (if (wrap64 (x12_4 + 1)) ≤ ((rdOf ByteArray.empty y499 x91_3).size : Int) then (if (((rdOf ByteArray.empty y499 x91_3).extract 0 (x12_4 : Int).toNat) ++ (strOfNums y503)).size + ((rdOf ByteArray.empty y499 x91_3).extract ((wrap64 (x12_4 + 1)) : Int).toNat (rdOf ByteArray.empty y499 x91_3).size).size ≤ 9223372036854775807 then ((letterbaglaw01_CivilReads.f k5 ((((rdOf ByteArray.empty y499 x91_3).extract 0 (x12_4 : Int).toNat) ++ (strOfNums y503)) ++ ((rdOf ByteArray.empty y499 x91_3).extract ((wrap64 (x12_4 + 1)) : Int).toNat (rdOf ByteArray.empty y499 x91_3).size))).bind fun t506 => (if t506 = true then (letterbaglaw01_CivilSmall.l7 k5 (rdOf ByteArray.empty y499 x91_3) x12_4 (wrap64 (x13_5 + 1)) y499 (y499.length : Int) x91_3) else (some false))) else (none)) else (none)) else (none)) else (none)) = some true := by first | (rw [hy503]; with_reducible exact H) | (have H2_ := (Option.bind_some _ _).symm.trans H; rw [hy503]; with_reducible exact H2_) | (have H2_ := (Option.bind_some _ _).symm.trans H; with_reducible exact H2_) | with_reducible exact H | (rw [hy503]; exact H) | exact H
                    have Ny503 := Aside0.mk hy503
                    clear hy503
                    by_cases c50 : ((rdOf ByteArray.empty y499 x91_3).extract 0 (x12_4 : Int).toNat).size + (strOfNums y503).size ≤ 9223372036854775807
                    ·rw [if_pos c50] at H
                     have c50b0 := eq_true c50
                     have c50b1 : decide (((rdOf ByteArray.empty y499 x91_3).extract 0 (x12_4 : Int).toNat).size + (strOfNums y503).size ≤ 9223372036854775807) = true := decide_eq_true c50
                     try have c50b2 : (9223372036854775807 < ((rdOf ByteArray.empty y499 x91_3).extract 0 (x12_4 : Int).toNat).size + (strOfNums y503).size) = False := eq_false (Nat.not_lt.2 c50)
                     try have c50b3 : (9223372036854775807 < x12_4.toNat + (strOfNums y503).size) = False := eq_false (by have h_ := c50; have g_ : _ := of_decide_eq_true c49b1; simp only [ByteArray.size_append, ByteArray.size_extract, (show (⟨#[32]⟩ : ByteArray).size = 1 from rfl)] at h_; omega)
                     obtain ⟨ji51, hji51⟩ : ∃ j_ : Int, (wrap64 (x12_4 + 1)) = j_ := ⟨_, rfl⟩
                     replace H : (if 0 ≤ (ji51) then (if (ji51) ≤ ((rdOf ByteArray.empty y499 x91_3).size : Int) then (if (((rdOf ByteArray.empty y499 x91_3).extract 0 (x12_4 : Int).toNat) ++ (strOfNums y503)).size + ((rdOf ByteArray.empty y499 x91_3).extract ((ji51) : Int).toNat (rdOf ByteArray.empty y499 x91_3).size).size ≤ 9223372036854775807 then ((letterbaglaw01_CivilReads.f k5 ((((rdOf ByteArray.empty y499 x91_3).extract 0 (x12_4 : Int).toNat) ++ (strOfNums y503)) ++ ((rdOf ByteArray.empty y499 x91_3).extract ((ji51) : Int).toNat (rdOf ByteArray.empty y499 x91_3).size))).bind fun t506 => (if t506 = true then (letterbaglaw01_CivilSmall.l7 k5 (rdOf ByteArray.empty y499 x91_3) x12_4 (wrap64 (x13_5 + 1)) y499 (y499.length : Int) x91_3) else (some false))) else (none)) else (none)) else (none)) = some true := by first | (rw [hji51] at H; exact H) | (simp only [hji51] at H ⊢; exact H)
                     have hji51w : (IntKind.i64.wrap (x12_4 + 1)) = ji51 := (i64_w _).trans hji51
                     by_cases c52 : 0 ≤ (ji51)
                     ·rw [if_pos c52] at H
                      have c52b0 := eq_true c52
                      have c52b1 : decide (0 ≤ (ji51)) = true := decide_eq_true c52
                      clear c52
                      by_cases c53 : (ji51) ≤ ((rdOf ByteArray.empty y499 x91_3).size : Int)
                      ·rw [if_pos c53] at H
                       have c53b0 := eq_true c53
                       have c53b1 : decide ((ji51) ≤ ((rdOf ByteArray.empty y499 x91_3).size : Int)) = true := decide_eq_true c53
                       clear c53
                       by_cases c54 : (((rdOf ByteArray.empty y499 x91_3).extract 0 (x12_4 : Int).toNat) ++ (strOfNums y503)).size + ((rdOf ByteArray.empty y499 x91_3).extract ((ji51) : Int).toNat (rdOf ByteArray.empty y499 x91_3).size).size ≤ 9223372036854775807
                       ·rw [if_pos c54] at H
                        have c54b0 := eq_true c54
                        have c54b1 : decide ((((rdOf ByteArray.empty y499 x91_3).extract 0 (x12_4 : Int).toNat) ++ (strOfNums y503)).size + ((rdOf ByteArray.empty y499 x91_3).extract ((ji51) : Int).toNat (rdOf ByteArray.empty y499 x91_3).size).size ≤ 9223372036854775807) = true := decide_eq_true c54
                        try have c54b2 : (9223372036854775807 < (((rdOf ByteArray.empty y499 x91_3).extract 0 (x12_4 : Int).toNat) ++ (strOfNums y503)).size + ((rdOf ByteArray.empty y499 x91_3).extract ((ji51) : Int).toNat (rdOf ByteArray.empty y499 x91_3).size).size) = False := eq_false (Nat.not_lt.2 c54)
                        try have c54b3 : (9223372036854775807 < x12_4.toNat + (strOfNums y503).size + ((rdOf ByteArray.empty y499 x91_3).size - ji51.toNat)) = False := eq_false (by have h_ := c54; have g_ : _ := of_decide_eq_true c49b1; simp only [ByteArray.size_append, ByteArray.size_extract, (show (⟨#[32]⟩ : ByteArray).size = 1 from rfl)] at h_; omega)
                        replace H := Option.bind_eq_some_iff.mp H
                        obtain ⟨t506, A550, H⟩ := H
                        replace H : (if t506 = true then (letterbaglaw01_CivilSmall.l7 k5 (rdOf ByteArray.empty y499 x91_3) x12_4 (wrap64 (x13_5 + 1)) y499 (y499.length : Int) x91_3) else (some false)) = some true := H
                        have A55 := Aside0.mk A550
                        clear A550
                        by_cases c56 : t506 = true
                        ·subst c56
                         have H1 : (letterbaglaw01_CivilSmall.l7 k5 (rdOf ByteArray.empty y499 x91_3) x12_4 (wrap64 (x13_5 + 1)) y499 (y499.length : Int) x91_3) = some true := by rw [if_pos rfl] at H; exact H
                         clear H
                         have H := H1
                         clear H1
                         have H' := Aside0.mk H
                         clear H
                         try go_wp2
                         have n0_ := Aside0.mk (Kd.R_drew HO_89.out)
                         have n1_ := Aside0.mk (below_drew1 HB.out)
                         clear HO_89
                         clear HB
                         have HO_89 := n0_
                         have HB := n1_
                         clear n0_ n1_
                         refine start_ (n := 14) (S := fun w' => True) (ds := []) #[false, false, false, false, false, false, false, false, false, false, false, false, false, false] (by kernel_rfl) rfl rfl trivial (fun hHeld => ?_); refine with_tabW letterbaglaw01_CivilSmall.tab34 letterbaglaw01_CivilSmall.bits34 (fun HT_ HW_ => ?_)
                         generalize wr.drew = w57 at HO_89 HB hHeld ⊢
                         refine pure_ (i := 0) (N := some 105) (v := ?_) (a' := ?_) #[true, false, false, false, false, false, false, false, false, false, false, false, false, false] rfl rfl (any_of HT_.out (by kernel_rfl)) (fun _ _ _ h => h) (Or.inl ⟨by rfl, ?_⟩) ?_ ?_
                         rotate_left
                         ·intro w'
                          go_simp
                          with_reducible rfl
                         rotate_left
                         ·simp only [Act.put, List.setIfInBounds_toArray, List.set_cons_zero, List.set_cons_succ, i64_w, i32_w]
                          rfl
                         refine pure_ (i := 1) (N := some 106) (v := ?_) (a' := ?_) #[true, true, false, false, false, false, false, false, false, false, false, false, false, false] rfl rfl (any_of HT_.out (by kernel_rfl)) (fun _ _ _ h => h) (Or.inl ⟨by rfl, ?_⟩) ?_ ?_
                         rotate_left
                         ·intro w'
                          go_simp
                          with_reducible rfl
                         rotate_left
                         ·simp only [Act.put, List.setIfInBounds_toArray, List.set_cons_zero, List.set_cons_succ, i64_w, i32_w]
                          rfl
                         refine pure_ (i := 2) (N := some 107) (v := ?_) (a' := ?_) #[true, true, true, false, false, false, false, false, false, false, false, false, false, false] rfl rfl (any_of HT_.out (by kernel_rfl)) (fun _ _ _ h => h) (Or.inl ⟨by rfl, ?_⟩) ?_ ?_
                         rotate_left
                         ·intro w'
                          go_simp
                          with_reducible rfl
                         rotate_left
                         ·simp only [Act.put, List.setIfInBounds_toArray, List.set_cons_zero, List.set_cons_succ, i64_w, i32_w]
                          rfl
                         refine pure_ (i := 3) (N := some 108) (v := ?_) (a' := ?_) #[true, true, true, true, false, false, false, false, false, false, false, false, false, false] rfl rfl (any_of HT_.out (by kernel_rfl)) (fun _ _ _ h => h) (Or.inl ⟨by rfl, ?_⟩) ?_ ?_
                         rotate_left
                         ·intro w'
                          go_simp
                          with_reducible rfl
                         rotate_left
                         ·simp only [Act.put, List.setIfInBounds_toArray, List.set_cons_zero, List.set_cons_succ, i64_w, i32_w]
                          rfl
                         refine pure_ (i := 4) (N := some 109) (v := ?_) (a' := ?_) #[true, true, true, true, true, false, false, false, false, false, false, false, false, false] rfl rfl (any_of HT_.out (by kernel_rfl)) (fun _ _ _ h => h) (Or.inl ⟨by rfl, ?_⟩) ?_ ?_
                         rotate_left
                         ·intro w'
                          go_simp
                          with_reducible rfl
                         rotate_left
                         ·simp only [Act.put, List.setIfInBounds_toArray, List.set_cons_zero, List.set_cons_succ, i64_w, i32_w]
                          rfl
                         refine pure_ (i := 8) (N := some 113) (v := ?_) (a' := ?_) #[true, true, true, true, true, false, false, false, true, false, false, false, false, false] rfl rfl (any_of HT_.out (by kernel_rfl)) (fun _ _ _ h => h) (Or.inl ⟨by rfl, ?_⟩) ?_ ?_
                         rotate_left
                         ·intro w'
                          go_simp
                          with_reducible rfl
                         rotate_left
                         ·simp only [Act.put, List.setIfInBounds_toArray, List.set_cons_zero, List.set_cons_succ, i64_w, i32_w]
                          rfl
                         refine pure_ (i := 9) (N := some 114) (v := ?_) (a' := ?_) #[true, true, true, true, true, false, false, false, true, true, false, false, false, false] rfl rfl (any_of HT_.out (by kernel_rfl)) (fun _ _ _ h => h) (Or.inl ⟨by rfl, ?_⟩) ?_ ?_
                         rotate_left
                         ·intro w'
                          go_simp
                          with_reducible rfl
                         rotate_left
                         ·simp only [Act.put, List.setIfInBounds_toArray, List.set_cons_zero, List.set_cons_succ, i64_w, i32_w]
                          rfl
                         refine pure_ (i := 10) (N := some 115) (v := ?_) (a' := ?_) #[true, true, true, true, true, false, false, false, true, true, true, false, false, false] rfl rfl (any_of HT_.out (by kernel_rfl)) (fun _ _ _ h => h) (Or.inl ⟨by rfl, ?_⟩) ?_ ?_
                         rotate_left
                         ·intro w'
                          go_simp
                          with_reducible rfl
                         rotate_left
                         ·simp only [Act.put, List.setIfInBounds_toArray, List.set_cons_zero, List.set_cons_succ, i64_w, i32_w]
                          rfl
                         refine pure_ (i := 11) (N := some 116) (v := ?_) (a' := ?_) #[true, true, true, true, true, false, false, false, true, true, true, true, false, false] rfl rfl (any_of HT_.out (by kernel_rfl)) (fun _ _ _ h => h) (Or.inl ⟨by rfl, ?_⟩) ?_ ?_
                         rotate_left
                         ·intro w'
                          go_simp
                          with_reducible rfl
                         rotate_left
                         ·simp only [Act.put, List.setIfInBounds_toArray, List.set_cons_zero, List.set_cons_succ, i64_w, i32_w]
                          rfl
                         refine one_ (i := 5) (N := some 110) #[true, true, true, true, true, true, false, false, true, true, true, true, false, false] rfl rfl (one_of HT_.out (by kernel_rfl)) (by decide) (fun K hK => ?_)
                         refine Kd.R_lit_step (Kd.int .u8) _ 5 ?hg (N := 110) ?hd (xs := ([(x13_5) % 256] : List Int)) (inner := [.int .u8 ((x13_5) % 256)]) (ok := fun _ => True) (okp := fun _ => True) ?hr ?hp (fun _ hk => hk) trivial (Below.refl _ _) (Nat.le_refl _) (by simp) ?_; (case hd => rfl); (case hg => rfl); (case hr => first | (go_simp; done) | (go_simp; rfl)); (case hp => exact (Reps.one (show Kd.M (Kd.int .u8) _ _ _ ((x13_5) % 256) [.int .u8 ((x13_5) % 256)] from rfl) (Reps.none _ _)))
                         intro v504 w58 ho59 hb hg_ hnew_
                         clear hg_ hnew_
                         (first | rw [← Ny503.out] at ho59 | (simp only [Int.reduceToNat] at ho59; rw [← Ny503.out] at ho59))
                         have n0_ := Aside0.mk (Kd.R_below (by (with_reducible repeat (first | apply Kd.R_alloc | apply Kd.R_drewN | apply Kd.R_drew)); exact HO_89.out) hb)
                         have n1_ := Aside0.mk (Kd.R_lower ho59 (below_size (by repeat (first | (with_reducible first | exact HB.out | apply below_alloc | apply pw_below_drewN | apply below_drew1) | exact HB.out))))
                         have n2_ := Aside0.mk (below_step (by repeat (first | (with_reducible first | exact HB.out | apply below_alloc | apply pw_below_drewN | apply below_drew1) | exact HB.out)) hb)
                         clear HO_89
                         clear HB
                         have HO_89 := n0_
                         have HO505 := n1_
                         have HB := n2_
                         clear n0_ n1_ n2_
                         clear hb ho59
                         refine hK.out _ _ trivial (fun hHeld => ?_)
                         clear hK K
                         refine norm_ (a' := ?_) ?_ ?_
                         rotate_left
                         ·show Act.put _ (some 110) _ = _
                          simp only [Act.put, List.setIfInBounds_toArray, List.set_cons_zero, List.set_cons_succ, i64_w, i32_w]
                          rfl
                         refine one_ (i := 6) (N := some 111) #[true, true, true, true, true, true, true, false, true, true, true, true, false, false] rfl rfl (one_of HT_.out (by kernel_rfl)) (by decide) (fun K hK => ?_)
                         have hcv60 := own_string (P := Tryd.prog) Tryd.underlying27 Tryd.underlying5 Tryd.underlying9 (Kd.own_of_R HO505.out)
                         refine value_ (w1 := ?_) (v := ?_) (by rfl) rfl ?_ ?_
                         rotate_left 2
                         ·go_simp
                          constructor
                          ·rfl
                          ·rfl
                         clear hcv60
                         refine hK.out _ _ trivial (fun hHeld => ?_)
                         clear hK K
                         refine norm_ (a' := ?_) ?_ ?_
                         rotate_left
                         ·show Act.put _ (some 111) _ = _
                          simp only [Act.put, List.setIfInBounds_toArray, List.set_cons_zero, List.set_cons_succ, i64_w, i32_w]
                          rfl
                         refine pure_ (i := 7) (N := some 112) (v := ?_) (a' := ?_) #[true, true, true, true, true, true, true, true, true, true, true, true, false, false] rfl rfl (any_of HT_.out (by kernel_rfl)) (fun _ _ _ h => h) (Or.inl ⟨by rfl, ?_⟩) ?_ ?_
                         rotate_left
                         ·intro w'
                          go_simp
                          with_reducible rfl
                         rotate_left
                         ·simp only [Act.put, List.setIfInBounds_toArray, List.set_cons_zero, List.set_cons_succ, i64_w, i32_w]
                          rfl
                         refine pure_ (i := 12) (N := some 117) (v := ?_) (a' := ?_) #[true, true, true, true, true, true, true, true, true, true, true, true, true, false] rfl rfl (any_of HT_.out (by kernel_rfl)) (fun _ _ _ h => h) (Or.inl ⟨by rfl, ?_⟩) ?_ ?_
                         rotate_left
                         ·intro w'
                          go_simp
                          with_reducible rfl
                         rotate_left
                         ·simp only [Act.put, List.setIfInBounds_toArray, List.set_cons_zero, List.set_cons_succ, i64_w, i32_w]
                          rfl
                         refine pure_ (i := 13) (N := some 14) (v := ?_) (a' := ?_) #[true, true, true, true, true, true, true, true, true, true, true, true, true, true] rfl rfl (any_of HT_.out (by kernel_rfl)) (fun _ _ _ h => h) (Or.inl ⟨by rfl, ?_⟩) ?_ ?_
                         rotate_left
                         ·intro w'
                          go_simp
                          with_reducible rfl
                         rotate_left
                         ·simp only [Act.put, List.setIfInBounds_toArray, List.set_cons_zero, List.set_cons_succ, i64_w, i32_w]
                          rfl
                         refine done_ (done_of HT_.out (by kernel_rfl)) ?_
                         try go_wp2_with (first | ((with_reducible refine gate_callee (f := 5) rfl ?_); refine goesL_ (some 119) rfl rfl Tryd.func5 (by kernel_rfl) rfl #[.string ((((rdOf ByteArray.empty y499 x91_3).extract 0 (x12_4 : Int).toNat) ++ (strOfNums y503)) ++ ((rdOf ByteArray.empty y499 x91_3).extract ((ji51) : Int).toNat (rdOf ByteArray.empty y499 x91_3).size))] rfl (by (try simp only [List.map_toArray, List.map_cons, List.map_nil]); first | done | (simp only [hji51]; rfl) | rfl | (simp only [List.length_drop, List.length_take]; rfl)) ?_; (with_reducible refine (letterbaglaw01_CivilReads.calls k5 ((((rdOf ByteArray.empty y499 x91_3).extract 0 (x12_4 : Int).toNat) ++ (strOfNums y503)) ++ ((rdOf ByteArray.empty y499 x91_3).extract ((ji51) : Int).toNat (rdOf ByteArray.empty y499 x91_3).size)) _ ?tabG A55.out).mono ?_); (case tabG => (first | exact hg | exact ⟨hg.out.below (by repeat (first | (with_reducible first | exact HB.out | apply below_alloc | apply pw_below_drewN | apply below_drew1) | exact HB.out))⟩)); rintro e w61 ⟨rfl, hb⟩; refine ⟨_, rfl, ?_⟩; have n0_ := Aside0.mk (Kd.R_below (by (with_reducible repeat (first | apply Kd.R_alloc | apply Kd.R_drewN | apply Kd.R_drew)); exact HO_89.out) hb); have n1_ := Aside0.mk (Kd.R_below (by (with_reducible repeat (first | apply Kd.R_alloc | apply Kd.R_drewN | apply Kd.R_drew)); exact HO505.out) hb); have n2_ := Aside0.mk (below_step (by repeat (first | (with_reducible first | exact HB.out | apply below_alloc | apply pw_below_drewN | apply below_drew1) | exact HB.out)) hb); clear HO_89; clear HO505; clear HB; have HO_89 := n0_; have HO505 := n1_; have HB := n2_; clear n0_ n1_ n2_; (try clear hb); (try clear hb2); (try clear hk); (try clear hi)))
                         go_roundg k5
                         case measure => have := HK1.out; have := HK2.out; have := HK3.out; have := HK4.out; have := HK5.out; omega
                         case rel => exact ⟨(wrap64 (x13_5 + 1)), (by first | rfl | (simp; done) | (simp [*]; done) | (simp; exact (show ∀ a_ b_ : Bool, (a_ == b_) = (!(a_ != b_)) from by decide) _ _) | (rw [Bool.eq_iff_iff]; simp; done) | (simp; rw [Bool.eq_iff_iff]; simp; done)), H', ⟨by have := HK1.out; have := HK2.out; have := HK3.out; have := HK4.out; have := HK5.out; omega⟩, ⟨by (with_reducible repeat (first | apply Kd.R_alloc | apply Kd.R_drewN | apply Kd.R_drew)); exact HO_89.out⟩, ⟨by repeat (first | (with_reducible first | exact HB.out | apply below_alloc | apply pw_below_drewN | apply below_drew1) | exact HB.out)⟩⟩
                        ·replace c56 := Bool.eq_false_iff.mpr c56
                         subst c56
                         have H1 : (some false) = some true := by rw [if_neg (show ¬ (false = true) by decide)] at H; exact H
                         clear H
                         have H := H1
                         clear H1
                         exact absurd H (by simp)
                       ·rw [if_neg c54] at H
                        exact absurd H (by simp)
                      ·rw [if_neg c53] at H
                       exact absurd H (by simp)
                     ·rw [if_neg c52] at H
                      exact absurd H (by simp)
                    ·rw [if_neg c50] at H
                     exact absurd H (by simp)
                   ·rw [if_neg c49] at H
                    exact absurd H (by simp)
                  ·rw [if_neg c48] at H
                   exact absurd H (by simp)
                 ·rw [if_neg c47] at H
                  have c47b0 : decide (x13_5 < 256) = false := decide_eq_false c47
                  clear c47
                  by_cases c62 : 0 ≤ x12_4
                  ·rw [if_pos c62] at H
                   have c62b0 := eq_true c62
                   have c62b1 : decide (0 ≤ x12_4) = true := decide_eq_true c62
                   clear c62
                   by_cases c63 : x12_4 ≤ ((rdOf ByteArray.empty y499 x91_3).size : Int)
                   ·rw [if_pos c63] at H
                    have c63b0 := eq_true c63
                    have c63b1 : decide (x12_4 ≤ ((rdOf ByteArray.empty y499 x91_3).size : Int)) = true := decide_eq_true c63
                    clear c63
                    replace H := Option.bind_eq_some_iff.mp H
                    obtain ⟨t507, A640, H⟩ := H
                    replace H : (if t507 = true then (if 0 ≤ (wrap64 (x12_4 + 1)) then (if (wrap64 (x12_4 + 1)) ≤ ((rdOf ByteArray.empty y499 x91_3).size : Int) then (if ((rdOf ByteArray.empty y499 x91_3).extract 0 (x12_4 : Int).toNat).size + ((rdOf ByteArray.empty y499 x91_3).extract ((wrap64 (x12_4 + 1)) : Int).toNat (rdOf ByteArray.empty y499 x91_3).size).size ≤ 9223372036854775807 then ((letterbaglaw01_CivilReads.f k5 (((rdOf ByteArray.empty y499 x91_3).extract 0 (x12_4 : Int).toNat) ++ ((rdOf ByteArray.empty y499 x91_3).extract ((wrap64 (x12_4 + 1)) : Int).toNat (rdOf ByteArray.empty y499 x91_3).size))).bind fun t508 => (if t508 = true then (if ((rdOf ByteArray.empty y499 x91_3).extract 0 (x12_4 : Int).toNat).size + 1 ≤ 9223372036854775807 then (if (((rdOf ByteArray.empty y499 x91_3).extract 0 (x12_4 : Int).toNat) ++ (⟨#[32]⟩ : ByteArray)).size + ((rdOf ByteArray.empty y499 x91_3).extract (x12_4 : Int).toNat (rdOf ByteArray.empty y499 x91_3).size).size ≤ 9223372036854775807 then ((letterbaglaw01_CivilReads.f k5 ((((rdOf ByteArray.empty y499 x91_3).extract 0 (x12_4 : Int).toNat) ++ (⟨#[32]⟩ : ByteArray)) ++ ((rdOf ByteArray.empty y499 x91_3).extract (x12_4 : Int).toNat (rdOf ByteArray.empty y499 x91_3).size))).bind fun t509 => (if t509 = true then (letterbaglaw01_CivilSmall.l6 k5 (rdOf ByteArray.empty y499 x91_3) (wrap64 (x12_4 + 1)) y499 (y499.length : Int) x91_3) else (some false))) else (none)) else (none)) else (some false))) else (none)) else (none)) else (none)) else (some false)) = some true := H
                    have A64 := Aside0.mk A640
                    clear A640
                    by_cases c65 : t507 = true
                    ·subst c65
                     have H1 : (if 0 ≤ (wrap64 (x12_4 + 1)) then (if (wrap64 (x12_4 + 1)) ≤ ((rdOf ByteArray.empty y499 x91_3).size : Int) then (if ((rdOf ByteArray.empty y499 x91_3).extract 0 (x12_4 : Int).toNat).size + ((rdOf ByteArray.empty y499 x91_3).extract ((wrap64 (x12_4 + 1)) : Int).toNat (rdOf ByteArray.empty y499 x91_3).size).size ≤ 9223372036854775807 then ((letterbaglaw01_CivilReads.f k5 (((rdOf ByteArray.empty y499 x91_3).extract 0 (x12_4 : Int).toNat) ++ ((rdOf ByteArray.empty y499 x91_3).extract ((wrap64 (x12_4 + 1)) : Int).toNat (rdOf ByteArray.empty y499 x91_3).size))).bind fun t508 => (if t508 = true then (if ((rdOf ByteArray.empty y499 x91_3).extract 0 (x12_4 : Int).toNat).size + 1 ≤ 9223372036854775807 then (if (((rdOf ByteArray.empty y499 x91_3).extract 0 (x12_4 : Int).toNat) ++ (⟨#[32]⟩ : ByteArray)).size + ((rdOf ByteArray.empty y499 x91_3).extract (x12_4 : Int).toNat (rdOf ByteArray.empty y499 x91_3).size).size ≤ 9223372036854775807 then ((letterbaglaw01_CivilReads.f k5 ((((rdOf ByteArray.empty y499 x91_3).extract 0 (x12_4 : Int).toNat) ++ (⟨#[32]⟩ : ByteArray)) ++ ((rdOf ByteArray.empty y499 x91_3).extract (x12_4 : Int).toNat (rdOf ByteArray.empty y499 x91_3).size))).bind fun t509 => (if t509 = true then (letterbaglaw01_CivilSmall.l6 k5 (rdOf ByteArray.empty y499 x91_3) (wrap64 (x12_4 + 1)) y499 (y499.length : Int) x91_3) else (some false))) else (none)) else (none)) else (some false))) else (none)) else (none)) else (none)) = some true := by rw [if_pos rfl] at H; exact H
                     clear H
                     have H := H1
                     clear H1
                     have c66b0 := eq_true (of_decide_eq_true (by first | (with_reducible assumption) | assumption) : 0 ≤ x12_4)
                     have c67b0 := eq_true (of_decide_eq_true (by first | (with_reducible assumption) | assumption) : x12_4 ≤ ((rdOf ByteArray.empty y499 x91_3).size : Int))
                     obtain ⟨ji68, hji68⟩ : ∃ j_ : Int, (wrap64 (x12_4 + 1)) = j_ := ⟨_, rfl⟩
                     replace H : (if 0 ≤ (ji68) then (if (ji68) ≤ ((rdOf ByteArray.empty y499 x91_3).size : Int) then (if ((rdOf ByteArray.empty y499 x91_3).extract 0 (x12_4 : Int).toNat).size + ((rdOf ByteArray.empty y499 x91_3).extract ((ji68) : Int).toNat (rdOf ByteArray.empty y499 x91_3).size).size ≤ 9223372036854775807 then ((letterbaglaw01_CivilReads.f k5 (((rdOf ByteArray.empty y499 x91_3).extract 0 (x12_4 : Int).toNat) ++ ((rdOf ByteArray.empty y499 x91_3).extract ((ji68) : Int).toNat (rdOf ByteArray.empty y499 x91_3).size))).bind fun t508 => (if t508 = true then (if ((rdOf ByteArray.empty y499 x91_3).extract 0 (x12_4 : Int).toNat).size + 1 ≤ 9223372036854775807 then (if (((rdOf ByteArray.empty y499 x91_3).extract 0 (x12_4 : Int).toNat) ++ (⟨#[32]⟩ : ByteArray)).size + ((rdOf ByteArray.empty y499 x91_3).extract (x12_4 : Int).toNat (rdOf ByteArray.empty y499 x91_3).size).size ≤ 9223372036854775807 then ((letterbaglaw01_CivilReads.f k5 ((((rdOf ByteArray.empty y499 x91_3).extract 0 (x12_4 : Int).toNat) ++ (⟨#[32]⟩ : ByteArray)) ++ ((rdOf ByteArray.empty y499 x91_3).extract (x12_4 : Int).toNat (rdOf ByteArray.empty y499 x91_3).size))).bind fun t509 => (if t509 = true then (letterbaglaw01_CivilSmall.l6 k5 (rdOf ByteArray.empty y499 x91_3) ji68 y499 (y499.length : Int) x91_3) else (some false))) else (none)) else (none)) else (some false))) else (none)) else (none)) else (none)) = some true := by first | (rw [hji68] at H; exact H) | (simp only [hji68] at H ⊢; exact H)
                     (try rw [hji68] at A64)
                     have hji68w : (IntKind.i64.wrap (x12_4 + 1)) = ji68 := (i64_w _).trans hji68
                     by_cases c69 : 0 ≤ (ji68)
                     ·rw [if_pos c69] at H
                      have c69b0 := eq_true c69
                      have c69b1 : decide (0 ≤ (ji68)) = true := decide_eq_true c69
                      clear c69
                      by_cases c70 : (ji68) ≤ ((rdOf ByteArray.empty y499 x91_3).size : Int)
                      ·rw [if_pos c70] at H
                       have c70b0 := eq_true c70
                       have c70b1 : decide ((ji68) ≤ ((rdOf ByteArray.empty y499 x91_3).size : Int)) = true := decide_eq_true c70
                       clear c70
                       by_cases c71 : ((rdOf ByteArray.empty y499 x91_3).extract 0 (x12_4 : Int).toNat).size + ((rdOf ByteArray.empty y499 x91_3).extract ((ji68) : Int).toNat (rdOf ByteArray.empty y499 x91_3).size).size ≤ 9223372036854775807
                       ·rw [if_pos c71] at H
                        have c71b0 := eq_true c71
                        have c71b1 : decide (((rdOf ByteArray.empty y499 x91_3).extract 0 (x12_4 : Int).toNat).size + ((rdOf ByteArray.empty y499 x91_3).extract ((ji68) : Int).toNat (rdOf ByteArray.empty y499 x91_3).size).size ≤ 9223372036854775807) = true := decide_eq_true c71
                        try have c71b2 : (9223372036854775807 < ((rdOf ByteArray.empty y499 x91_3).extract 0 (x12_4 : Int).toNat).size + ((rdOf ByteArray.empty y499 x91_3).extract ((ji68) : Int).toNat (rdOf ByteArray.empty y499 x91_3).size).size) = False := eq_false (Nat.not_lt.2 c71)
                        try have c71b3 : (9223372036854775807 < x12_4.toNat + ((rdOf ByteArray.empty y499 x91_3).size - ji68.toNat)) = False := eq_false (by have h_ := c71; have g_ : _ := of_decide_eq_true c63b1; simp only [ByteArray.size_append, ByteArray.size_extract, (show (⟨#[32]⟩ : ByteArray).size = 1 from rfl)] at h_; omega)
                        replace H := Option.bind_eq_some_iff.mp H
                        obtain ⟨t508, A720, H⟩ := H
                        replace H : (if t508 = true then (if ((rdOf ByteArray.empty y499 x91_3).extract 0 (x12_4 : Int).toNat).size + 1 ≤ 9223372036854775807 then (if (((rdOf ByteArray.empty y499 x91_3).extract 0 (x12_4 : Int).toNat) ++ (⟨#[32]⟩ : ByteArray)).size + ((rdOf ByteArray.empty y499 x91_3).extract (x12_4 : Int).toNat (rdOf ByteArray.empty y499 x91_3).size).size ≤ 9223372036854775807 then ((letterbaglaw01_CivilReads.f k5 ((((rdOf ByteArray.empty y499 x91_3).extract 0 (x12_4 : Int).toNat) ++ (⟨#[32]⟩ : ByteArray)) ++ ((rdOf ByteArray.empty y499 x91_3).extract (x12_4 : Int).toNat (rdOf ByteArray.empty y499 x91_3).size))).bind fun t509 => (if t509 = true then (letterbaglaw01_CivilSmall.l6 k5 (rdOf ByteArray.empty y499 x91_3) ji68 y499 (y499.length : Int) x91_3) else (some false))) else (none)) else (none)) else (some false)) = some true := H
                        have A72 := Aside0.mk A720
                        clear A720
                        by_cases c73 : t508 = true
                        ·subst c73
                         have H1 : (if ((rdOf ByteArray.empty y499 x91_3).extract 0 (x12_4 : Int).toNat).size + 1 ≤ 9223372036854775807 then (if (((rdOf ByteArray.empty y499 x91_3).extract 0 (x12_4 : Int).toNat) ++ (⟨#[32]⟩ : ByteArray)).size + ((rdOf ByteArray.empty y499 x91_3).extract (x12_4 : Int).toNat (rdOf ByteArray.empty y499 x91_3).size).size ≤ 9223372036854775807 then ((letterbaglaw01_CivilReads.f k5 ((((rdOf ByteArray.empty y499 x91_3).extract 0 (x12_4 : Int).toNat) ++ (⟨#[32]⟩ : ByteArray)) ++ ((rdOf ByteArray.empty y499 x91_3).extract (x12_4 : Int).toNat (rdOf ByteArray.empty y499 x91_3).size))).bind fun t509 => (if t509 = true then (letterbaglaw01_CivilSmall.l6 k5 (rdOf ByteArray.empty y499 x91_3) ji68 y499 (y499.length : Int) x91_3) else (some false))) else (none)) else (none)) = some true := by rw [if_pos rfl] at H; exact H
                         clear H
                         have H := H1
                         clear H1
                         have c74b0 := eq_true (of_decide_eq_true (by first | (with_reducible assumption) | assumption) : 0 ≤ x12_4)
                         have c75b0 := eq_true (of_decide_eq_true (by first | (with_reducible assumption) | assumption) : x12_4 ≤ ((rdOf ByteArray.empty y499 x91_3).size : Int))
                         by_cases c76 : ((rdOf ByteArray.empty y499 x91_3).extract 0 (x12_4 : Int).toNat).size + 1 ≤ 9223372036854775807
                         ·rw [if_pos c76] at H
                          have c76b0 := eq_true c76
                          have c76b1 : decide (((rdOf ByteArray.empty y499 x91_3).extract 0 (x12_4 : Int).toNat).size + 1 ≤ 9223372036854775807) = true := decide_eq_true c76
                          try have c76b2 : (9223372036854775807 < ((rdOf ByteArray.empty y499 x91_3).extract 0 (x12_4 : Int).toNat).size + 1) = False := eq_false (Nat.not_lt.2 c76)
                          try have c76b3 : (9223372036854775807 < x12_4.toNat + 1) = False := eq_false (by have h_ := c76; have g_ : _ := of_decide_eq_true c63b1; simp only [ByteArray.size_append, ByteArray.size_extract, (show (⟨#[32]⟩ : ByteArray).size = 1 from rfl)] at h_; omega)
                          try have c76b3 : (9223372036854775807 < y499.size + x91_3.size + x12_4.size + 1) = False := eq_false (by have h_ := c76; simp only [ByteArray.size_append] at h_; omega)
                          have c77b0 := eq_true (of_decide_eq_true (by first | (with_reducible assumption) | assumption) : 0 ≤ x12_4)
                          have c78b0 := eq_true (of_decide_eq_true (by first | (with_reducible assumption) | assumption) : x12_4 ≤ ((rdOf ByteArray.empty y499 x91_3).size : Int))
                          by_cases c79 : (((rdOf ByteArray.empty y499 x91_3).extract 0 (x12_4 : Int).toNat) ++ (⟨#[32]⟩ : ByteArray)).size + ((rdOf ByteArray.empty y499 x91_3).extract (x12_4 : Int).toNat (rdOf ByteArray.empty y499 x91_3).size).size ≤ 9223372036854775807
                          ·rw [if_pos c79] at H
                           have c79b0 := eq_true c79
                           have c79b1 : decide ((((rdOf ByteArray.empty y499 x91_3).extract 0 (x12_4 : Int).toNat) ++ (⟨#[32]⟩ : ByteArray)).size + ((rdOf ByteArray.empty y499 x91_3).extract (x12_4 : Int).toNat (rdOf ByteArray.empty y499 x91_3).size).size ≤ 9223372036854775807) = true := decide_eq_true c79
                           try have c79b2 : (9223372036854775807 < (((rdOf ByteArray.empty y499 x91_3).extract 0 (x12_4 : Int).toNat) ++ (⟨#[32]⟩ : ByteArray)).size + ((rdOf ByteArray.empty y499 x91_3).extract (x12_4 : Int).toNat (rdOf ByteArray.empty y499 x91_3).size).size) = False := eq_false (Nat.not_lt.2 c79)
                           try have c79b3 : (9223372036854775807 < x12_4.toNat + 1 + ((rdOf ByteArray.empty y499 x91_3).size - x12_4.toNat)) = False := eq_false (by have h_ := c79; have g_ : _ := of_decide_eq_true c63b1; simp only [ByteArray.size_append, ByteArray.size_extract, (show (⟨#[32]⟩ : ByteArray).size = 1 from rfl)] at h_; omega)
                           replace H := Option.bind_eq_some_iff.mp H
                           obtain ⟨t509, A800, H⟩ := H
                           replace H : (if t509 = true then (letterbaglaw01_CivilSmall.l6 k5 (rdOf ByteArray.empty y499 x91_3) ji68 y499 (y499.length : Int) x91_3) else (some false)) = some true := H
                           have A80 := Aside0.mk A800
                           clear A800
                           by_cases c81 : t509 = true
                           ·subst c81
                            have H1 : (letterbaglaw01_CivilSmall.l6 k5 (rdOf ByteArray.empty y499 x91_3) ji68 y499 (y499.length : Int) x91_3) = some true := by rw [if_pos rfl] at H; exact H
                            clear H
                            have H := H1
                            clear H1
                            have H' := Aside0.mk H
                            clear H
                            try go_wp2
                            have n0_ := Aside0.mk (Kd.R_drew HO_89.out)
                            have n1_ := Aside0.mk (below_drew1 HB.out)
                            clear HO_89
                            clear HB
                            have HO_89 := n0_
                            have HB := n1_
                            clear n0_ n1_
                            refine start_ (n := 29) (S := fun w' => True) (ds := []) #[false, false, false, false, false, false, false, false, false, false, false, false, false, false, false, false, false, false, false, false, false, false, false, false, false, false, false, false, false] (by kernel_rfl) rfl rfl trivial (fun hHeld => ?_); refine with_tabW letterbaglaw01_CivilSmall.tab37 letterbaglaw01_CivilSmall.bits37 (fun HT_ HW_ => ?_)
                            generalize wr.drew = w82 at HO_89 HB hHeld ⊢
                            refine pure_ (i := 0) (N := some 121) (v := ?_) (a' := ?_) #[true, false, false, false, false, false, false, false, false, false, false, false, false, false, false, false, false, false, false, false, false, false, false, false, false, false, false, false, false] rfl rfl (any_of HT_.out (by kernel_rfl)) (fun _ _ _ h => h) (Or.inl ⟨by rfl, ?_⟩) ?_ ?_
                            rotate_left
                            ·intro w'
                             go_simp
                             with_reducible rfl
                            rotate_left
                            ·simp only [Act.put, List.setIfInBounds_toArray, List.set_cons_zero, List.set_cons_succ, i64_w, i32_w]
                             rfl
                            refine pure_ (i := 1) (N := some 122) (v := ?_) (a' := ?_) #[true, true, false, false, false, false, false, false, false, false, false, false, false, false, false, false, false, false, false, false, false, false, false, false, false, false, false, false, false] rfl rfl (any_of HT_.out (by kernel_rfl)) (fun _ _ _ h => h) (Or.inl ⟨by rfl, ?_⟩) ?_ ?_
                            rotate_left
                            ·intro w'
                             go_simp
                             with_reducible rfl
                            rotate_left
                            ·simp only [Act.put, List.setIfInBounds_toArray, List.set_cons_zero, List.set_cons_succ, i64_w, i32_w]
                             rfl
                            refine pure_ (i := 2) (N := some 123) (v := ?_) (a' := ?_) #[true, true, true, false, false, false, false, false, false, false, false, false, false, false, false, false, false, false, false, false, false, false, false, false, false, false, false, false, false] rfl rfl (any_of HT_.out (by kernel_rfl)) (fun _ _ _ h => h) (Or.inl ⟨by rfl, ?_⟩) ?_ ?_
                            rotate_left
                            ·intro w'
                             go_simp
                             with_reducible rfl
                            rotate_left
                            ·simp only [Act.put, List.setIfInBounds_toArray, List.set_cons_zero, List.set_cons_succ, i64_w, i32_w]
                             rfl
                            refine one_ (i := 3) (N := some 124) #[true, true, true, true, false, false, false, false, false, false, false, false, false, false, false, false, false, false, false, false, false, false, false, false, false, false, false, false, false] rfl rfl (one_of HT_.out (by kernel_rfl)) (by decide) (fun K hK => ?_)
                            refine goes_ Tryd.func5 (by kernel_rfl) rfl #[.string ((rdOf ByteArray.empty y499 x91_3).extract 0 (x12_4 : Int).toNat)] (by rfl) rfl rfl (by (try simp only [List.map_toArray, List.map_cons, List.map_nil]); first | done | rfl | (simp only [List.length_drop, List.length_take]; rfl)) ?_
                            with_reducible refine (letterbaglaw01_CivilReads.calls k5 ((rdOf ByteArray.empty y499 x91_3).extract 0 (x12_4 : Int).toNat) _ ?tabG A64.out).mono ?_
                            (case tabG => (first | exact hg | exact ⟨hg.out.below (by repeat (first | (with_reducible first | exact HB.out | apply below_alloc | apply pw_below_drewN | apply below_drew1) | exact HB.out))⟩ | exact hg | exact ⟨hg.out.drewN _⟩ | exact ⟨(hg.out.drewN _).drewN _⟩ | exact ⟨hg.out.drawn (by assumption)⟩))
                            rintro e w83 ⟨rfl, hb⟩
                            refine ⟨_, rfl, ?_⟩
                            have n0_ := Aside0.mk (Kd.R_below (by (with_reducible repeat (first | apply Kd.R_alloc | apply Kd.R_drewN | apply Kd.R_drew)); exact HO_89.out) hb)
                            have n1_ := Aside0.mk (below_step (by repeat (first | (with_reducible first | exact HB.out | apply below_alloc | apply pw_below_drewN | apply below_drew1) | exact HB.out)) hb)
                            clear HO_89
                            clear HB
                            have HO_89 := n0_
                            have HB := n1_
                            clear n0_ n1_
                            (try clear hb)
                            (try clear hb2)
                            (try clear hk)
                            (try clear hi)
                            refine hK.out _ _ trivial (fun hHeld => ?_)
                            clear hK K
                            refine norm_ (a' := ?_) ?_ ?_
                            rotate_left
                            ·show Act.put _ (some 124) _ = _
                             simp only [Act.put, List.setIfInBounds_toArray, List.set_cons_zero, List.set_cons_succ, i64_w, i32_w]
                             rfl
                            refine pure_ (i := 4) (N := some 125) (v := ?_) (a' := ?_) #[true, true, true, true, true, false, false, false, false, false, false, false, false, false, false, false, false, false, false, false, false, false, false, false, false, false, false, false, false] rfl rfl (any_of HT_.out (by kernel_rfl)) (fun _ _ _ h => h) (Or.inl ⟨by rfl, ?_⟩) ?_ ?_
                            rotate_left
                            ·intro w'
                             go_simp
                             with_reducible rfl
                            rotate_left
                            ·simp only [Act.put, List.setIfInBounds_toArray, List.set_cons_zero, List.set_cons_succ, i64_w, i32_w]
                             rfl
                            refine pure_ (i := 5) (N := some 126) (v := ?_) (a' := ?_) #[true, true, true, true, true, true, false, false, false, false, false, false, false, false, false, false, false, false, false, false, false, false, false, false, false, false, false, false, false] rfl rfl (any_of HT_.out (by kernel_rfl)) (fun _ _ _ h => h) (Or.inl ⟨by rfl, ?_⟩) ?_ ?_
                            rotate_left
                            ·intro w'
                             go_simp
                             with_reducible rfl
                            rotate_left
                            ·simp only [Act.put, List.setIfInBounds_toArray, List.set_cons_zero, List.set_cons_succ, i64_w, i32_w]
                             rfl
                            refine pure_ (i := 6) (N := some 127) (v := ?_) (a' := ?_) #[true, true, true, true, true, true, true, false, false, false, false, false, false, false, false, false, false, false, false, false, false, false, false, false, false, false, false, false, false] rfl rfl (any_of HT_.out (by kernel_rfl)) (fun _ _ _ h => h) (Or.inl ⟨by rfl, ?_⟩) ?_ ?_
                            rotate_left
                            ·intro w'
                             go_simp
                             with_reducible rfl
                            rotate_left
                            ·simp only [Act.put, List.setIfInBounds_toArray, List.set_cons_zero, List.set_cons_succ, i64_w, i32_w]
                             rfl
                            refine pure_ (i := 7) (N := some 128) (v := ?_) (a' := ?_) #[true, true, true, true, true, true, true, true, false, false, false, false, false, false, false, false, false, false, false, false, false, false, false, false, false, false, false, false, false] rfl rfl (any_of HT_.out (by kernel_rfl)) (fun _ _ _ h => h) (Or.inl ⟨by rfl, ?_⟩) ?_ ?_
                            rotate_left
                            ·intro w'
                             go_simp
                             with_reducible rfl
                            rotate_left
                            ·simp only [Act.put, List.setIfInBounds_toArray, List.set_cons_zero, List.set_cons_succ, i64_w, i32_w]
                             rfl
                            refine pure_ (i := 8) (N := some 129) (v := ?_) (a' := ?_) #[true, true, true, true, true, true, true, true, true, false, false, false, false, false, false, false, false, false, false, false, false, false, false, false, false, false, false, false, false] rfl rfl (any_of HT_.out (by kernel_rfl)) (fun _ _ _ h => h) (Or.inl ⟨by rfl, ?_⟩) ?_ ?_
                            rotate_left
                            ·intro w'
                             go_simp
                             with_reducible rfl
                            rotate_left
                            ·simp only [Act.put, List.setIfInBounds_toArray, List.set_cons_zero, List.set_cons_succ, i64_w, i32_w]
                             rfl
                            refine pure_ (i := 9) (N := some 130) (v := ?_) (a' := ?_) #[true, true, true, true, true, true, true, true, true, true, false, false, false, false, false, false, false, false, false, false, false, false, false, false, false, false, false, false, false] rfl rfl (any_of HT_.out (by kernel_rfl)) (fun _ _ _ h => h) (Or.inl ⟨by rfl, ?_⟩) ?_ ?_
                            rotate_left
                            ·intro w'
                             go_simp
                             with_reducible rfl
                            rotate_left
                            ·simp only [Act.put, List.setIfInBounds_toArray, List.set_cons_zero, List.set_cons_succ, i64_w, i32_w]
                             rfl
                            refine pure_ (i := 10) (N := some 131) (v := ?_) (a' := ?_) #[true, true, true, true, true, true, true, true, true, true, true, false, false, false, false, false, false, false, false, false, false, false, false, false, false, false, false, false, false] rfl rfl (any_of HT_.out (by kernel_rfl)) (fun _ _ _ h => h) (Or.inl ⟨by rfl, ?_⟩) ?_ ?_
                            rotate_left
                            ·intro w'
                             go_simp
                             with_reducible rfl
                            rotate_left
                            ·simp only [Act.put, List.setIfInBounds_toArray, List.set_cons_zero, List.set_cons_succ, i64_w, i32_w]
                             rfl
                            refine pure_ (i := 11) (N := some 132) (v := ?_) (a' := ?_) #[true, true, true, true, true, true, true, true, true, true, true, true, false, false, false, false, false, false, false, false, false, false, false, false, false, false, false, false, false] rfl rfl (any_of HT_.out (by kernel_rfl)) (fun _ _ _ h => h) (Or.inl ⟨by rfl, ?_⟩) ?_ ?_
                            rotate_left
                            ·intro w'
                             go_simp
                             with_reducible rfl
                            rotate_left
                            ·simp only [Act.put, List.setIfInBounds_toArray, List.set_cons_zero, List.set_cons_succ, i64_w, i32_w]
                             rfl
                            refine pure_ (i := 12) (N := some 133) (v := ?_) (a' := ?_) #[true, true, true, true, true, true, true, true, true, true, true, true, true, false, false, false, false, false, false, false, false, false, false, false, false, false, false, false, false] rfl rfl (any_of HT_.out (by kernel_rfl)) (fun _ _ _ h => h) (Or.inl ⟨by rfl, ?_⟩) ?_ ?_
                            rotate_left
                            ·intro w'
                             go_simp
                             with_reducible rfl
                            rotate_left
                            ·simp only [Act.put, List.setIfInBounds_toArray, List.set_cons_zero, List.set_cons_succ, i64_w, i32_w]
                             rfl
                            refine pure_ (i := 13) (N := some 134) (v := ?_) (a' := ?_) #[true, true, true, true, true, true, true, true, true, true, true, true, true, true, false, false, false, false, false, false, false, false, false, false, false, false, false, false, false] rfl rfl (any_of HT_.out (by kernel_rfl)) (fun _ _ _ h => h) (Or.inl ⟨by rfl, ?_⟩) ?_ ?_
                            rotate_left
                            ·intro w'
                             go_simp
                             with_reducible rfl
                            rotate_left
                            ·simp only [Act.put, List.setIfInBounds_toArray, List.set_cons_zero, List.set_cons_succ, i64_w, i32_w]
                             rfl
                            refine one_ (i := 14) (N := some 135) #[true, true, true, true, true, true, true, true, true, true, true, true, true, true, true, false, false, false, false, false, false, false, false, false, false, false, false, false, false] rfl rfl (one_of HT_.out (by kernel_rfl)) (by decide) (fun K hK => ?_)
                            refine goes_ Tryd.func5 (by kernel_rfl) rfl #[.string (((rdOf ByteArray.empty y499 x91_3).extract 0 (x12_4 : Int).toNat) ++ ((rdOf ByteArray.empty y499 x91_3).extract ((ji68) : Int).toNat (rdOf ByteArray.empty y499 x91_3).size))] (by rfl) rfl rfl (by (try simp only [List.map_toArray, List.map_cons, List.map_nil]); first | done | (simp only [hji68]; rfl) | rfl | (simp only [List.length_drop, List.length_take]; rfl)) ?_
                            with_reducible refine (letterbaglaw01_CivilReads.calls k5 (((rdOf ByteArray.empty y499 x91_3).extract 0 (x12_4 : Int).toNat) ++ ((rdOf ByteArray.empty y499 x91_3).extract ((ji68) : Int).toNat (rdOf ByteArray.empty y499 x91_3).size)) _ ?tabG A72.out).mono ?_
                            (case tabG => (first | exact hg | exact ⟨hg.out.below (by repeat (first | (with_reducible first | exact HB.out | apply below_alloc | apply pw_below_drewN | apply below_drew1) | exact HB.out))⟩ | exact hg | exact ⟨hg.out.drewN _⟩ | exact ⟨(hg.out.drewN _).drewN _⟩ | exact ⟨hg.out.drawn (by assumption)⟩))
                            rintro e w84 ⟨rfl, hb⟩
                            refine ⟨_, rfl, ?_⟩
                            have n0_ := Aside0.mk (Kd.R_below (by (with_reducible repeat (first | apply Kd.R_alloc | apply Kd.R_drewN | apply Kd.R_drew)); exact HO_89.out) hb)
                            have n1_ := Aside0.mk (below_step (by repeat (first | (with_reducible first | exact HB.out | apply below_alloc | apply pw_below_drewN | apply below_drew1) | exact HB.out)) hb)
                            clear HO_89
                            clear HB
                            have HO_89 := n0_
                            have HB := n1_
                            clear n0_ n1_
                            (try clear hb)
                            (try clear hb2)
                            (try clear hk)
                            (try clear hi)
                            refine hK.out _ _ trivial (fun hHeld => ?_)
                            clear hK K
                            refine norm_ (a' := ?_) ?_ ?_
                            rotate_left
                            ·show Act.put _ (some 135) _ = _
                             simp only [Act.put, List.setIfInBounds_toArray, List.set_cons_zero, List.set_cons_succ, i64_w, i32_w]
                             rfl
                            refine pure_ (i := 15) (N := some 136) (v := ?_) (a' := ?_) #[true, true, true, true, true, true, true, true, true, true, true, true, true, true, true, true, false, false, false, false, false, false, false, false, false, false, false, false, false] rfl rfl (any_of HT_.out (by kernel_rfl)) (fun _ _ _ h => h) (Or.inl ⟨by rfl, ?_⟩) ?_ ?_
                            rotate_left
                            ·intro w'
                             go_simp
                             with_reducible rfl
                            rotate_left
                            ·simp only [Act.put, List.setIfInBounds_toArray, List.set_cons_zero, List.set_cons_succ, i64_w, i32_w]
                             rfl
                            refine pure_ (i := 16) (N := some 137) (v := ?_) (a' := ?_) #[true, true, true, true, true, true, true, true, true, true, true, true, true, true, true, true, true, false, false, false, false, false, false, false, false, false, false, false, false] rfl rfl (any_of HT_.out (by kernel_rfl)) (fun _ _ _ h => h) (Or.inl ⟨by rfl, ?_⟩) ?_ ?_
                            rotate_left
                            ·intro w'
                             go_simp
                             with_reducible rfl
                            rotate_left
                            ·simp only [Act.put, List.setIfInBounds_toArray, List.set_cons_zero, List.set_cons_succ, i64_w, i32_w]
                             rfl
                            refine pure_ (i := 17) (N := some 138) (v := ?_) (a' := ?_) #[true, true, true, true, true, true, true, true, true, true, true, true, true, true, true, true, true, true, false, false, false, false, false, false, false, false, false, false, false] rfl rfl (any_of HT_.out (by kernel_rfl)) (fun _ _ _ h => h) (Or.inl ⟨by rfl, ?_⟩) ?_ ?_
                            rotate_left
                            ·intro w'
                             go_simp
                             with_reducible rfl
                            rotate_left
                            ·simp only [Act.put, List.setIfInBounds_toArray, List.set_cons_zero, List.set_cons_succ, i64_w, i32_w]
                             rfl
                            refine pure_ (i := 18) (N := some 139) (v := ?_) (a' := ?_) #[true, true, true, true, true, true, true, true, true, true, true, true, true, true, true, true, true, true, true, false, false, false, false, false, false, false, false, false, false] rfl rfl (any_of HT_.out (by kernel_rfl)) (fun _ _ _ h => h) (Or.inl ⟨by rfl, ?_⟩) ?_ ?_
                            rotate_left
                            ·intro w'
                             go_simp
                             with_reducible rfl
                            rotate_left
                            ·simp only [Act.put, List.setIfInBounds_toArray, List.set_cons_zero, List.set_cons_succ, i64_w, i32_w]
                             rfl
                            refine pure_ (i := 19) (N := some 140) (v := ?_) (a' := ?_) #[true, true, true, true, true, true, true, true, true, true, true, true, true, true, true, true, true, true, true, true, false, false, false, false, false, false, false, false, false] rfl rfl (any_of HT_.out (by kernel_rfl)) (fun _ _ _ h => h) (Or.inl ⟨by rfl, ?_⟩) ?_ ?_
                            rotate_left
                            ·intro w'
                             go_simp
                             with_reducible rfl
                            rotate_left
                            ·simp only [Act.put, List.setIfInBounds_toArray, List.set_cons_zero, List.set_cons_succ, i64_w, i32_w]
                             rfl
                            refine pure_ (i := 20) (N := some 141) (v := ?_) (a' := ?_) #[true, true, true, true, true, true, true, true, true, true, true, true, true, true, true, true, true, true, true, true, true, false, false, false, false, false, false, false, false] rfl rfl (any_of HT_.out (by kernel_rfl)) (fun _ _ _ h => h) (Or.inl ⟨by rfl, ?_⟩) ?_ ?_
                            rotate_left
                            ·intro w'
                             go_simp
                             with_reducible rfl
                            rotate_left
                            ·simp only [Act.put, List.setIfInBounds_toArray, List.set_cons_zero, List.set_cons_succ, i64_w, i32_w]
                             rfl
                            refine pure_ (i := 21) (N := some 142) (v := ?_) (a' := ?_) #[true, true, true, true, true, true, true, true, true, true, true, true, true, true, true, true, true, true, true, true, true, true, false, false, false, false, false, false, false] rfl rfl (any_of HT_.out (by kernel_rfl)) (fun _ _ _ h => h) (Or.inl ⟨by rfl, ?_⟩) ?_ ?_
                            rotate_left
                            ·intro w'
                             go_simp
                             with_reducible rfl
                            rotate_left
                            ·simp only [Act.put, List.setIfInBounds_toArray, List.set_cons_zero, List.set_cons_succ, i64_w, i32_w]
                             rfl
                            refine pure_ (i := 22) (N := some 143) (v := ?_) (a' := ?_) #[true, true, true, true, true, true, true, true, true, true, true, true, true, true, true, true, true, true, true, true, true, true, true, false, false, false, false, false, false] rfl rfl (any_of HT_.out (by kernel_rfl)) (fun _ _ _ h => h) (Or.inl ⟨by rfl, ?_⟩) ?_ ?_
                            rotate_left
                            ·intro w'
                             go_simp
                             with_reducible rfl
                            rotate_left
                            ·simp only [Act.put, List.setIfInBounds_toArray, List.set_cons_zero, List.set_cons_succ, i64_w, i32_w]
                             rfl
                            refine pure_ (i := 23) (N := some 144) (v := ?_) (a' := ?_) #[true, true, true, true, true, true, true, true, true, true, true, true, true, true, true, true, true, true, true, true, true, true, true, true, false, false, false, false, false] rfl rfl (any_of HT_.out (by kernel_rfl)) (fun _ _ _ h => h) (Or.inl ⟨by rfl, ?_⟩) ?_ ?_
                            rotate_left
                            ·intro w'
                             go_simp
                             with_reducible rfl
                            rotate_left
                            ·simp only [Act.put, List.setIfInBounds_toArray, List.set_cons_zero, List.set_cons_succ, i64_w, i32_w]
                             rfl
                            refine pure_ (i := 24) (N := some 145) (v := ?_) (a' := ?_) #[true, true, true, true, true, true, true, true, true, true, true, true, true, true, true, true, true, true, true, true, true, true, true, true, true, false, false, false, false] rfl rfl (any_of HT_.out (by kernel_rfl)) (fun _ _ _ h => h) (Or.inl ⟨by rfl, ?_⟩) ?_ ?_
                            rotate_left
                            ·intro w'
                             go_simp
                             with_reducible rfl
                            rotate_left
                            ·simp only [Act.put, List.setIfInBounds_toArray, List.set_cons_zero, List.set_cons_succ, i64_w, i32_w]
                             rfl
                            refine pure_ (i := 25) (N := some 146) (v := ?_) (a' := ?_) #[true, true, true, true, true, true, true, true, true, true, true, true, true, true, true, true, true, true, true, true, true, true, true, true, true, true, false, false, false] rfl rfl (any_of HT_.out (by kernel_rfl)) (fun _ _ _ h => h) (Or.inl ⟨by rfl, ?_⟩) ?_ ?_
                            rotate_left
                            ·intro w'
                             go_simp
                             with_reducible rfl
                            rotate_left
                            ·simp only [Act.put, List.setIfInBounds_toArray, List.set_cons_zero, List.set_cons_succ, i64_w, i32_w]
                             rfl
                            refine one_ (i := 26) (N := some 147) #[true, true, true, true, true, true, true, true, true, true, true, true, true, true, true, true, true, true, true, true, true, true, true, true, true, true, true, false, false] rfl rfl (one_of HT_.out (by kernel_rfl)) (by decide) (fun K hK => ?_)
                            refine goes_ Tryd.func5 (by kernel_rfl) rfl #[.string ((((rdOf ByteArray.empty y499 x91_3).extract 0 (x12_4 : Int).toNat) ++ (⟨#[32]⟩ : ByteArray)) ++ ((rdOf ByteArray.empty y499 x91_3).extract (x12_4 : Int).toNat (rdOf ByteArray.empty y499 x91_3).size))] (by rfl) rfl rfl (by (try simp only [List.map_toArray, List.map_cons, List.map_nil]); first | done | rfl | (simp only [List.length_drop, List.length_take]; rfl)) ?_
                            with_reducible refine (letterbaglaw01_CivilReads.calls k5 ((((rdOf ByteArray.empty y499 x91_3).extract 0 (x12_4 : Int).toNat) ++ (⟨#[32]⟩ : ByteArray)) ++ ((rdOf ByteArray.empty y499 x91_3).extract (x12_4 : Int).toNat (rdOf ByteArray.empty y499 x91_3).size)) _ ?tabG A80.out).mono ?_
                            (case tabG => (first | exact hg | exact ⟨hg.out.below (by repeat (first | (with_reducible first | exact HB.out | apply below_alloc | apply pw_below_drewN | apply below_drew1) | exact HB.out))⟩ | exact hg | exact ⟨hg.out.drewN _⟩ | exact ⟨(hg.out.drewN _).drewN _⟩ | exact ⟨hg.out.drawn (by assumption)⟩))
                            rintro e w85 ⟨rfl, hb⟩
                            refine ⟨_, rfl, ?_⟩
                            have n0_ := Aside0.mk (Kd.R_below (by (with_reducible repeat (first | apply Kd.R_alloc | apply Kd.R_drewN | apply Kd.R_drew)); exact HO_89.out) hb)
                            have n1_ := Aside0.mk (below_step (by repeat (first | (with_reducible first | exact HB.out | apply below_alloc | apply pw_below_drewN | apply below_drew1) | exact HB.out)) hb)
                            clear HO_89
                            clear HB
                            have HO_89 := n0_
                            have HB := n1_
                            clear n0_ n1_
                            (try clear hb)
                            (try clear hb2)
                            (try clear hk)
                            (try clear hi)
                            refine hK.out _ _ trivial (fun hHeld => ?_)
                            clear hK K
                            refine norm_ (a' := ?_) ?_ ?_
                            rotate_left
                            ·show Act.put _ (some 147) _ = _
                             simp only [Act.put, List.setIfInBounds_toArray, List.set_cons_zero, List.set_cons_succ, i64_w, i32_w]
                             rfl
                            refine pure_ (i := 27) (N := some 148) (v := ?_) (a' := ?_) #[true, true, true, true, true, true, true, true, true, true, true, true, true, true, true, true, true, true, true, true, true, true, true, true, true, true, true, true, false] rfl rfl (any_of HT_.out (by kernel_rfl)) (fun _ _ _ h => h) (Or.inl ⟨by rfl, ?_⟩) ?_ ?_
                            rotate_left
                            ·intro w'
                             go_simp
                             with_reducible rfl
                            rotate_left
                            ·simp only [Act.put, List.setIfInBounds_toArray, List.set_cons_zero, List.set_cons_succ, i64_w, i32_w]
                             rfl
                            refine pure_ (i := 28) (N := some 149) (v := ?_) (a' := ?_) #[true, true, true, true, true, true, true, true, true, true, true, true, true, true, true, true, true, true, true, true, true, true, true, true, true, true, true, true, true] rfl rfl (any_of HT_.out (by kernel_rfl)) (fun _ _ _ h => h) (Or.inl ⟨by rfl, ?_⟩) ?_ ?_
                            rotate_left
                            ·intro w'
                             go_simp
                             with_reducible rfl
                            rotate_left
                            ·simp only [Act.put, List.setIfInBounds_toArray, List.set_cons_zero, List.set_cons_succ, i64_w, i32_w]
                             rfl
                            refine done_ (done_of HT_.out (by kernel_rfl)) ?_
                            try go_wp2
                            go_roundg k5
                            case measure => have := HK1.out; have := HK2.out; have := HK3.out; have := HK4.out; have := HK5.out; omega
                            case rel => exact ⟨(ji68), (by first | rfl | (simp; done) | (simp only [← hji68] <;> (first | rfl | simp)) | (simp [*]; done) | (simp; exact (show ∀ a_ b_ : Bool, (a_ == b_) = (!(a_ != b_)) from by decide) _ _) | (rw [Bool.eq_iff_iff]; simp; done) | (simp; rw [Bool.eq_iff_iff]; simp; done)), H', ⟨by have := HK1.out; have := HK2.out; have := HK3.out; have := HK4.out; have := HK5.out; omega⟩, ⟨by (with_reducible repeat (first | apply Kd.R_alloc | apply Kd.R_drewN | apply Kd.R_drew)); exact HO_89.out⟩, ⟨by repeat (first | (with_reducible first | exact HB.out | apply below_alloc | apply pw_below_drewN | apply below_drew1) | exact HB.out)⟩⟩
                           ·replace c81 := Bool.eq_false_iff.mpr c81
                            subst c81
                            have H1 : (some false) = some true := by rw [if_neg (show ¬ (false = true) by decide)] at H; exact H
                            clear H
                            have H := H1
                            clear H1
                            exact absurd H (by simp)
                          ·rw [if_neg c79] at H
                           exact absurd H (by simp)
                         ·rw [if_neg c76] at H
                          exact absurd H (by simp)
                        ·replace c73 := Bool.eq_false_iff.mpr c73
                         subst c73
                         have H1 : (some false) = some true := by rw [if_neg (show ¬ (false = true) by decide)] at H; exact H
                         clear H
                         have H := H1
                         clear H1
                         exact absurd H (by simp)
                       ·rw [if_neg c71] at H
                        exact absurd H (by simp)
                      ·rw [if_neg c70] at H
                       exact absurd H (by simp)
                     ·rw [if_neg c69] at H
                      exact absurd H (by simp)
                    ·replace c65 := Bool.eq_false_iff.mpr c65
                     subst c65
                     have H1 : (some false) = some true := by rw [if_neg (show ¬ (false = true) by decide)] at H; exact H
                     clear H
                     have H := H1
                     clear H1
                     exact absurd H (by simp)
                   ·rw [if_neg c63] at H
                    exact absurd H (by simp)
                  ·rw [if_neg c62] at H
                   exact absurd H (by simp)
              ·rw [if_neg c46] at H
               have c46b0 : decide (x12_4 < ((rdOf ByteArray.empty y499 x91_3).size : Int)) = false := decide_eq_false c46
               clear c46
               have H' := Aside0.mk H
               clear H
               go_wp2
               go_roundg k4
               case measure => have := HK1.out; have := HK2.out; have := HK3.out; have := HK4.out; omega
               case rel => exact ⟨(wrap64 (x91_3 + 1)), (by first | rfl | (simp; done) | (simp [*]; done) | (simp; exact (show ∀ a_ b_ : Bool, (a_ == b_) = (!(a_ != b_)) from by decide) _ _) | (rw [Bool.eq_iff_iff]; simp; done) | (simp; rw [Bool.eq_iff_iff]; simp; done)), H', ⟨by have := HK1.out; have := HK2.out; have := HK3.out; have := HK4.out; omega⟩, ⟨by (with_reducible repeat (first | apply Kd.R_alloc | apply Kd.R_drewN | apply Kd.R_drew)); exact HO_89.out⟩, ⟨by repeat (first | (with_reducible first | exact HB.out | apply below_alloc | apply pw_below_drewN | apply below_drew1) | exact HB.out)⟩⟩
           ·rw [if_neg c45] at H
            exact absurd H (by simp)
          ·rw [if_neg c44] at H
           exact absurd H (by simp)
         ·rw [if_neg c43] at H
          have c43b0 : decide (x91_3 < (y499.length : Int)) = false := decide_eq_false c43
          clear c43
          have H' := Aside0.mk H
          clear H
          go_wp2
          go_loopg [15] k3 (fun kq v15 w' => ∃ (x15_4 : Int), v15 = .int .i64 x15_4 ∧ Aside0 (letterbaglaw01_CivilSmall.l8 kq x15_4 = some true) ∧ Aside0 (kq ≤ k3) ∧ Aside0 (Below w.heap.size w w'))
          case atStart => exact ⟨((-1)), (by first | rfl | (simp; done) | (simp [*]; done) | (simp; exact (show ∀ a_ b_ : Bool, (a_ == b_) = (!(a_ != b_)) from by decide) _ _) | (rw [Bool.eq_iff_iff]; simp; done) | (simp; rw [Bool.eq_iff_iff]; simp; done)), H', ⟨Nat.le_refl _⟩, ⟨by repeat (first | (with_reducible first | exact HB.out | apply below_alloc | apply pw_below_drewN | apply below_drew1) | exact HB.out)⟩⟩
          case round =>
           clear H'
           try clear p2
           try clear c4
           try clear c5
           try clear c6
           try clear p6
           try clear hcv6
           try clear c7
           try clear c8
           try clear c43
           try clear c43b0
           try clear c44
           try clear c45
           try clear c46
           try clear c46b0
           try clear c47
           try clear c47b0
           try clear c48
           try clear c49
           try clear c50
           try clear c52
           try clear c53
           try clear c54
           try clear c56
           try clear hcv60
           try clear c62
           try clear c62b0
           try clear c62b1
           try clear c63
           try clear c63b0
           try clear c63b1
           try clear p64
           try clear c65
           try clear c66
           try clear c66b0
           try clear c67
           try clear c67b0
           try clear c69
           try clear c69b0
           try clear c69b1
           try clear c70
           try clear c70b0
           try clear c70b1
           try clear c71
           try clear c71b0
           try clear c71b1
           try clear c71b2
           try clear c73
           try clear c74
           try clear c74b0
           try clear c75
           try clear c75b0
           try clear c76
           try clear c76b0
           try clear c76b1
           try clear c76b2
           try clear c77
           try clear c77b0
           try clear c78
           try clear c78b0
           try clear c79
           try clear c79b0
           try clear c79b1
           try clear c79b2
           try clear c81
           obtain ⟨x15_4, rfl, HA, HK4, HB⟩ := hrel
           cases gk with
           | zero => exact absurd HA.out (by simp [letterbaglaw01_CivilSmall.l8])
           | succ k4 =>
            have H := HA.out
            clear HA
            simp only [letterbaglaw01_CivilSmall.l8] at H
            by_cases c86 : x15_4 ≤ 1300
            ·rw [if_pos c86] at H
             have c86b0 : decide (x15_4 ≤ 1300) = true := decide_eq_true c86
             clear c86
             replace H := Option.bind_eq_some_iff.mp H
             obtain ⟨t511, A870, H⟩ := H
             replace H : (if t511 = true then ((letterbaglaw01_civilWorks.f k4 ([] : List Int) 1153 1154 0 229 x15_4).bind fun t512 => (if t512 = true then (letterbaglaw01_CivilSmall.l8 k4 (wrap64 (x15_4 + 1))) else (some false))) else (some false)) = some true := H
             have A87 := Aside0.mk A870
             clear A870
             by_cases c88 : t511 = true
             ·subst c88
              have H1 : ((letterbaglaw01_civilWorks.f k4 ([] : List Int) 1153 1154 0 229 x15_4).bind fun t512 => (if t512 = true then (letterbaglaw01_CivilSmall.l8 k4 (wrap64 (x15_4 + 1))) else (some false))) = some true := by rw [if_pos rfl] at H; exact H
              clear H
              have H := H1
              clear H1
              replace H := Option.bind_eq_some_iff.mp H
              obtain ⟨t512, A890, H⟩ := H
              replace H : (if t512 = true then (letterbaglaw01_CivilSmall.l8 k4 (wrap64 (x15_4 + 1))) else (some false)) = some true := H
              have A89 := Aside0.mk A890
              clear A890
              by_cases c90 : t512 = true
              ·subst c90
               have H1 : (letterbaglaw01_CivilSmall.l8 k4 (wrap64 (x15_4 + 1))) = some true := by rw [if_pos rfl] at H; exact H
               clear H
               have H := H1
               clear H1
               have H' := Aside0.mk H
               clear H
               go_wp2_with (first | ((with_reducible refine gate_callee (f := 15) rfl ?_); refine goesL_ (some 156) rfl rfl Tryd.func15 (by kernel_rfl) rfl #[.slice none 0 0, .int .i64 1154, .int .i64 1154, .int .i64 0, .int .i64 x15_4, .int .i64 229] rfl (by (try simp only [List.map_toArray, List.map_cons, List.map_nil]); first | done | rfl | (simp only [List.length_drop, List.length_take]; rfl)) ?_; (with_reducible refine (civilWorks_nil k4 1154 1154 0 x15_4 229 true _ ?tabG A87.out).mono ?_); (case tabG => (first | exact hg | exact ⟨hg.out.below (by repeat (first | (with_reducible first | exact HB.out | apply below_alloc | apply pw_below_drewN | apply below_drew1) | exact HB.out))⟩)); rintro e w91 ⟨rfl, hb⟩; refine ⟨_, rfl, ?_⟩; have n0_ := Aside0.mk (below_step (by repeat (first | (with_reducible first | exact HB.out | apply below_alloc | apply pw_below_drewN | apply below_drew1) | exact HB.out)) hb); clear HB; have HB := n0_; clear n0_; (try clear hb); (try clear hb2); (try clear hk); (try clear hi)) | (go_at_call 15; (with_reducible refine (civilWorks_nil k4 1153 1154 0 229 x15_4 true _ ?tabG A89.out).mono ?_); (case tabG => (first | exact hg | exact ⟨hg.out.below (by repeat (first | (with_reducible first | exact HB.out | apply below_alloc | apply pw_below_drewN | apply below_drew1) | exact HB.out))⟩)); rintro e w92 ⟨rfl, hb⟩; have n0_ := Aside0.mk (below_step (by repeat (first | (with_reducible first | exact HB.out | apply below_alloc | apply pw_below_drewN | apply below_drew1) | exact HB.out)) hb); clear HB; have HB := n0_; clear n0_; (try clear hb); (try clear hb2); (try clear hk); (try clear hi)))
               go_roundg k4
               case measure => have := HK1.out; have := HK2.out; have := HK3.out; have := HK4.out; omega
               case rel => exact ⟨(wrap64 (x15_4 + 1)), (by first | rfl | (simp; done) | (simp [*]; done) | (simp; exact (show ∀ a_ b_ : Bool, (a_ == b_) = (!(a_ != b_)) from by decide) _ _) | (rw [Bool.eq_iff_iff]; simp; done) | (simp; rw [Bool.eq_iff_iff]; simp; done)), H', ⟨by have := HK1.out; have := HK2.out; have := HK3.out; have := HK4.out; omega⟩, ⟨by repeat (first | (with_reducible first | exact HB.out | apply below_alloc | apply pw_below_drewN | apply below_drew1) | exact HB.out)⟩⟩
              ·replace c90 := Bool.eq_false_iff.mpr c90
               subst c90
               have H1 : (some false) = some true := by rw [if_neg (show ¬ (false = true) by decide)] at H; exact H
               clear H
               have H := H1
               clear H1
               exact absurd H (by simp)
             ·replace c88 := Bool.eq_false_iff.mpr c88
              subst c88
              have H1 : (some false) = some true := by rw [if_neg (show ¬ (false = true) by decide)] at H; exact H
              clear H
              have H := H1
              clear H1
              exact absurd H (by simp)
            ·rw [if_neg c86] at H
             have c86b0 : decide (x15_4 ≤ 1300) = false := decide_eq_false c86
             clear c86
             replace H := Option.bind_eq_some_iff.mp H
             obtain ⟨t510, A930, H⟩ := H
             replace H : (some t510) = some true := H
             have A93 := Aside0.mk A930
             clear A930
             have HT_ := Aside0.mk (Option.some.inj H)
             go_wp2_with (first | ((with_reducible refine gate_callee (f := 16) rfl ?_); refine goesL_ (some 163) rfl rfl Tryd.func16 (by kernel_rfl) rfl #[] rfl (by (try simp only [List.map_toArray, List.map_cons, List.map_nil]); first | done | rfl | (simp only [List.length_drop, List.length_take]; rfl)) ?_; (with_reducible refine (letterbaglaw01_lists.calls k4  t510 _ ?tabG A93.out).mono ?_); (case tabG => (first | exact hg | exact ⟨hg.out.below (by repeat (first | (with_reducible first | exact HB.out | apply below_alloc | apply pw_below_drewN | apply below_drew1) | exact HB.out))⟩)); rintro e w94 ⟨rfl, hb⟩; refine ⟨_, rfl, ?_⟩; have n0_ := Aside0.mk (below_step (by repeat (first | (with_reducible first | exact HB.out | apply below_alloc | apply pw_below_drewN | apply below_drew1) | exact HB.out)) hb); clear HB; have HB := n0_; clear n0_; (try clear hb); (try clear hb2); (try clear hk); (try clear hi)))
             go_ret
             exact ⟨by first | rfl | (rw [HT_.out]; done) | (rw [HT_.out]; rfl) | (have e_ := HT_.out; simp only [e_]; done) | (have e_ := HT_.out; simp only [e_]; rfl) | (have e_ := HT_.out; simp at e_ ⊢; exact e_) | (have e_ := HT_.out; simp_all; done) | (simp [errW_none, errW_some] <;> rfl) | (simp [*, errW_none, errW_some] <;> rfl), by repeat (first | (with_reducible first | exact HB.out | apply below_alloc | apply pw_below_drewN | apply below_drew1) | exact HB.out)⟩
end Go.Proofs.YtehnhedifhpalaaDoor.Cp
set_option linter.unusedVariables false
set_option linter.unusedSimpArgs false
namespace Go.Proofs.YtehnhedifhpalaaDoor.Cp
open Go.RowKit Go.Proofs.YtehnhedifhpalaaDoorW.PrintWords Go.Proofs.YtehnhedifhpalaaDoorW.PrintLast Go.Proofs.YtehnhedifhpalaaDoorW.PrintMore
theorem small_l8 (d : Nat) : ∀ x : Int, -1 ≤ x → x ≤ 1301 → 1301 - x = d → Ev (fun k => letterbaglaw01_CivilSmall.l8 k x) true := by
  induction d with
  | zero =>
    intro x h0 h1 hd
    exact Ev.step (fun k => letterbaglaw01_CivilSmall.l8.eq_2 _ k) (ev_neg (by omega) (Ev.bind lists_all (Ev.now _)))
  | succ d ih =>
    intro x h0 h1 hd
    have b1 : -10000000 ≤ x + 1 ∧ x + 1 ≤ 10000000 := by omega
    refine Ev.step (fun k => letterbaglaw01_CivilSmall.l8.eq_2 _ k) ?_
    rw [wb b1]
    exact ev_pos (by omega) (Ev.bind (civilWorks_all _ _ _ _ _ _) (ev_pos rfl (Ev.bind (civilWorks_all _ _ _ _ _ _) (ev_pos rfl (ih (x + 1) (by omega) (by omega) (by omega))))))
theorem small_l7 (s : ByteArray) (hs : s.size ≤ 1000) (i : Nat) (hi : i < s.size) (L : List ByteArray) (x90 x91 : Int) (next : Ev (fun k => letterbaglaw01_CivilSmall.l6 k s (wrap64 ((i : Int) + 1)) L x90 x91) true) (d : Nat) :
    ∀ c : Int, 0 ≤ c → c ≤ 256 → 256 - c = d → Ev (fun k => letterbaglaw01_CivilSmall.l7 k s (i : Int) c L x90 x91) true := by
  have b1 : -10000000 ≤ (i : Int) + 1 ∧ (i : Int) + 1 ≤ 10000000 := by omega
  have e1 : (i : Int) + 1 = ((i + 1 : Nat) : Int) := by omega
  have t1 : (i : Int).toNat = i := by omega
  have t2 : ((i + 1 : Nat) : Int).toNat = i + 1 := by omega
  have s1 : (s.extract 0 i).size ≤ 1000 := by rw [ByteArray.size_extract]; omega
  have s2 : (s.extract (i + 1) s.size).size ≤ 1000 := by rw [ByteArray.size_extract]; omega
  have s3 : (s.extract i s.size).size ≤ 1000 := by rw [ByteArray.size_extract]; omega
  have hn : (0 : Int) ≤ (i : Int) := by omega
  have hn2 : (i : Int) ≤ (s.size : Int) := by omega
  have hn3 : (0 : Int) ≤ ((i + 1 : Nat) : Int) := by omega
  have hn4 : ((i + 1 : Nat) : Int) ≤ (s.size : Int) := by omega
  have z1 : (⟨#[32]⟩ : ByteArray).size = 1 := rfl
  induction d with
  | zero =>
    intro c h0 h1 hd
    refine Ev.step (fun k => letterbaglaw01_CivilSmall.l7.eq_2 _ _ _ _ _ _ k) ?_
    rw [wb b1, e1] at next ⊢
    rw [t1, t2]
    refine ev_neg (by omega) (ev_pos hn (ev_pos hn2 (Ev.bind (reads_all _) (ev_pos rfl (ev_pos hn3 (ev_pos hn4 (ev_pos (by omega) (Ev.bind (reads_all _) (ev_pos rfl (ev_pos (by omega) (ev_pos ?_ (Ev.bind (reads_all _) (ev_pos rfl next)))))))))))))
    rw [ByteArray.size_append, z1]
    omega
  | succ d ih =>
    intro c h0 h1 hd
    have b2 : -10000000 ≤ c + 1 ∧ c + 1 ≤ 10000000 := by omega
    have ih1 := ih (c + 1) (by omega) (by omega) (by omega)
    refine Ev.step (fun k => letterbaglaw01_CivilSmall.l7.eq_2 _ _ _ _ _ _ k) ?_
    rw [wb b1, wb b2, e1, t1, t2]
    refine ev_pos (by omega) (ev_pos hn (ev_pos hn2 (Ev.bind (Ev.now _) (ev_pos ?_ (ev_pos hn3 (ev_pos hn4 (ev_pos ?_ (Ev.bind (reads_all _) (ev_pos rfl ih1)))))))))
    · rw [strOfNums_size]; simp only [List.length_cons, List.length_nil]; omega
    · rw [ByteArray.size_append, strOfNums_size]; simp only [List.length_cons, List.length_nil]; omega
theorem small_l6 (s : ByteArray) (hs : s.size ≤ 1000) (L : List ByteArray) (x90 x91 : Int) (next : Ev (fun k => letterbaglaw01_CivilSmall.l5 k L x90 (wrap64 (x91 + 1))) true) (d : Nat) :
    ∀ i : Nat, i ≤ s.size → s.size - i = d → Ev (fun k => letterbaglaw01_CivilSmall.l6 k s (i : Int) L x90 x91) true := by
  induction d with
  | zero =>
    intro i hi hd
    exact Ev.step (fun k => letterbaglaw01_CivilSmall.l6.eq_2 _ _ _ _ _ k) (ev_neg (by omega) next)
  | succ d ih =>
    intro i hi hd
    have b1 : -10000000 ≤ (i : Int) + 1 ∧ (i : Int) + 1 ≤ 10000000 := by omega
    have e1 : (i : Int) + 1 = ((i + 1 : Nat) : Int) := by omega
    have ih1 := ih (i + 1) (by omega) (by omega)
    rw [← e1, ← wb b1] at ih1
    exact Ev.step (fun k => letterbaglaw01_CivilSmall.l6.eq_2 _ _ _ _ _ k) (ev_pos (by omega) (small_l7 s hs i (by omega) L x90 x91 ih1 256 0 (by decide) (by decide) (by decide)))
theorem small_l5 (L : List ByteArray) (hL : L.length ≤ 1000) (hv : ∀ s ∈ L, s.size ≤ 1000) (d : Nat) : ∀ i : Nat, i ≤ L.length → L.length - i = d → Ev (fun k => letterbaglaw01_CivilSmall.l5 k L (L.length : Int) (i : Int)) true := by
  induction d with
  | zero =>
    intro i hi hd
    exact Ev.step (fun k => letterbaglaw01_CivilSmall.l5.eq_2 _ _ _ k) (ev_neg (by omega) (small_l8 1302 (-1) (by decide) (by decide) (by decide)))
  | succ d ih =>
    intro i hi hd
    have c : i < L.length := by omega
    have b1 : -10000000 ≤ (i : Int) + 1 ∧ (i : Int) + 1 ≤ 10000000 := by omega
    have e1 : (i : Int) + 1 = ((i + 1 : Nat) : Int) := by omega
    have nx := ih (i + 1) (by omega) (by omega)
    rw [← e1, ← wb b1] at nx
    have hr : rdOf ByteArray.empty L (i : Int) = L[i] := by simp [rdOf, c]
    refine Ev.step (fun k => letterbaglaw01_CivilSmall.l5.eq_2 _ _ _ k) ?_
    rw [hr]
    exact ev_pos (by omega) (ev_pos (by omega) (ev_pos (by omega) (small_l6 L[i] (hv _ (List.getElem_mem c)) L _ _ nx _ 0 (by omega) rfl)))
theorem small_l4 (L5 L48 L54 : List Int) (x7 x49 x50 : Int) (hL : L54.length ≤ 1000) (next : Ev (fun k => letterbaglaw01_CivilSmall.l3 k L5 L48 x49 (wrap64 (x50 + 1))) true) (d : Nat) :
    ∀ i : Nat, i ≤ L54.length → L54.length - i = d → Ev (fun k => letterbaglaw01_CivilSmall.l4 k L5 x7 L48 x49 x50 L54 (L54.length : Int) (i : Int)) true := by
  induction d with
  | zero =>
    intro i hi hd
    exact Ev.step (fun k => letterbaglaw01_CivilSmall.l4.eq_2 _ _ _ _ _ _ _ _ k) (ev_neg (by omega) next)
  | succ d ih =>
    intro i hi hd
    have b1 : -10000000 ≤ (i : Int) + 1 ∧ (i : Int) + 1 ≤ 10000000 := by omega
    have e1 : (i : Int) + 1 = ((i + 1 : Nat) : Int) := by omega
    refine Ev.step (fun k => letterbaglaw01_CivilSmall.l4.eq_2 _ _ _ _ _ _ _ _ k) ?_
    rw [wb b1, e1]
    exact ev_pos (by omega) (ev_pos (by omega) (ev_pos (by omega) (Ev.bind (date_all _ _) (ev_pos rfl (Ev.bind (tells_all _ _ _ _ _) (ev_pos rfl (Ev.bind (civilWorks_all _ _ _ _ _ _) (ev_pos rfl (Ev.bind (civilWorks_all _ _ _ _ _ _) (ev_pos rfl (ih (i + 1) (by omega) (by omega))))))))))))
theorem small_l3 (L5 L48 : List Int) (h5 : L5.length ≤ 1000) (hL : L48.length ≤ 1000) (d : Nat) : ∀ i : Nat, i ≤ L48.length → L48.length - i = d → Ev (fun k => letterbaglaw01_CivilSmall.l3 k L5 L48 (L48.length : Int) (i : Int)) true := by
  induction d with
  | zero =>
    intro i hi hd
    refine Ev.step (fun k => letterbaglaw01_CivilSmall.l3.eq_2 _ _ _ _ k) (ev_neg (by omega) (Ev.bind (Ev.now _) ?_))
    refine small_l5 _ (by decide) (fun s hs => ?_) _ 0 (by decide) rfl
    simp only [List.mem_cons, List.not_mem_nil, or_false] at hs
    rcases hs with rfl | rfl <;> decide
  | succ d ih =>
    intro i hi hd
    have b1 : -10000000 ≤ (i : Int) + 1 ∧ (i : Int) + 1 ≤ 10000000 := by omega
    have e1 : (i : Int) + 1 = ((i + 1 : Nat) : Int) := by omega
    have nx := ih (i + 1) (by omega) (by omega)
    rw [← e1, ← wb b1] at nx
    exact Ev.step (fun k => letterbaglaw01_CivilSmall.l3.eq_2 _ _ _ _ k) (ev_pos (by omega) (ev_pos (by omega) (ev_pos (by omega) (small_l4 L5 L48 L5 _ _ _ h5 nx _ 0 (by omega) rfl))))
theorem small_j3 (y m v : Int) (L : List Int) (n i : Int) (b : Bool) (next : Ev (fun k => letterbaglaw01_CivilSmall.l2 k y m L n (wrap64 (i + 1))) true) : Ev (fun k => letterbaglaw01_CivilSmall.j3 k y m v L n i b) true := by
  refine Ev.step (fun k => letterbaglaw01_CivilSmall.j3.eq_2 _ _ _ _ _ _ _ k) ?_
  cases b with
  | true => exact ev_pos rfl next
  | false => exact ev_neg Bool.false_ne_true (Ev.bind (tells_all _ _ _ _ _) (ev_pos rfl next))
theorem small_l2 (y m : Int) (L : List Int) (hL : L.length ≤ 1000) (next : Ev (fun k => letterbaglaw01_CivilSmall.l1 k y (wrap64 (m + 1))) true) (d : Nat) : ∀ i : Nat, i ≤ L.length → L.length - i = d → Ev (fun k => letterbaglaw01_CivilSmall.l2 k y m L (L.length : Int) (i : Int)) true := by
  induction d with
  | zero =>
    intro i hi hd
    exact Ev.step (fun k => letterbaglaw01_CivilSmall.l2.eq_2 _ _ _ _ _ k) (ev_neg (by omega) next)
  | succ d ih =>
    intro i hi hd
    have b1 : -10000000 ≤ (i : Int) + 1 ∧ (i : Int) + 1 ≤ 10000000 := by omega
    have e1 : (i : Int) + 1 = ((i + 1 : Nat) : Int) := by omega
    have nx := ih (i + 1) (by omega) (by omega)
    rw [← e1, ← wb b1] at nx
    refine Ev.step (fun k => letterbaglaw01_CivilSmall.l2.eq_2 _ _ _ _ _ k) (ev_pos (by omega) (ev_pos (by omega) (ev_pos (by omega) ?_)))
    by_cases c1 : y > 2005
    · refine ev_pos c1 ?_
      by_cases c2 : y < 3996
      · exact ev_pos c2 (small_j3 _ _ _ _ _ _ _ nx)
      · exact ev_neg c2 (small_j3 _ _ _ _ _ _ _ nx)
    · exact ev_neg c1 (small_j3 _ _ _ _ _ _ _ nx)
theorem small_l1 (y : Int) (next : Ev (fun k => letterbaglaw01_CivilSmall.l0 k (wrap64 (y + 1))) true) (d : Nat) : ∀ m : Int, 0 ≤ m → m ≤ 14 → 14 - m = d → Ev (fun k => letterbaglaw01_CivilSmall.l1 k y m) true := by
  induction d with
  | zero =>
    intro m h0 h1 hd
    exact Ev.step (fun k => letterbaglaw01_CivilSmall.l1.eq_2 _ _ k) (ev_neg (by omega) next)
  | succ d ih =>
    intro m h0 h1 hd
    have b1 : -10000000 ≤ m + 1 ∧ m + 1 ≤ 10000000 := by omega
    have nx := ih (m + 1) (by omega) (by omega) (by omega)
    rw [← wb b1] at nx
    exact Ev.step (fun k => letterbaglaw01_CivilSmall.l1.eq_2 _ _ k) (ev_pos (by omega) (Ev.bind (Ev.now _) (small_l2 y m _ (by decide) nx _ 0 (by decide) rfl)))
theorem small_l0 (d : Nat) : ∀ y : Int, 2000 ≤ y → y ≤ 4002 → 4002 - y = d → Ev (fun k => letterbaglaw01_CivilSmall.l0 k y) true := by
  induction d with
  | zero =>
    intro y h0 h1 hd
    exact Ev.step (fun k => letterbaglaw01_CivilSmall.l0.eq_2 _ k) (ev_neg (by omega) (Ev.bind (Ev.now _) (small_l3 _ _ (by decide) (by decide) _ 0 (by decide) rfl)))
  | succ d ih =>
    intro y h0 h1 hd
    have b1 : -10000000 ≤ y + 1 ∧ y + 1 ≤ 10000000 := by omega
    have nx := ih (y + 1) (by omega) (by omega) (by omega)
    rw [← wb b1] at nx
    exact Ev.step (fun k => letterbaglaw01_CivilSmall.l0.eq_2 _ k) (ev_pos (by omega) (small_l1 y nx 14 0 (by decide) (by decide) (by decide)))
theorem small_all : Ev (fun k => letterbaglaw01_CivilSmall.f k) true := by
  unfold letterbaglaw01_CivilSmall.f
  exact small_l0 2002 2000 (by decide) (by decide) (by decide)
end Go.Proofs.YtehnhedifhpalaaDoor.Cp
