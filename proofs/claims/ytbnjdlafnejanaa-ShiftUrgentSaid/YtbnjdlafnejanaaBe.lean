/- Joined by a program of this session (pack2.py): parts of the kit's printed words, printed walks and this session's own texts that several laws share. -/
import Derived.Test.YtbnjdlafnejanaaBa
import Derived.Test.YtbnjdlafnejanaaBb
import Derived.Test.YtbnjdlafnejanaaBc
namespace Go.Proofs.Ytbnjdlafnejanaa.Pr
open Go.RowKit Go.Maps Go.Proofs.YtbnjdlafnejanaaW.PrintWords Go.Proofs.YtbnjdlafnejanaaW.PrintLast Go.Proofs.YtbnjdlafnejanaaW.PrintMore
attribute [local go_sem] max2_int min2_int max_two min_two max_three min_three max_four min_four
set_option linter.unusedVariables false
set_option linter.unusedSimpArgs false
mutual
def shift_EndsP.l0 : Nat → List (S45) → List Int → List Int → List (S51) → Int → Int → Option (List Int)
 | 0, _, _, _, _, _, _ => none
 | k + 1, x0, x7, x8, x26, x27, x28 => if x28 < x27 then (if 0 ≤ x28 then (if x28 < (x26.length : Int) then ((shift_look.f x0 ((rd_T51 x26 x28).f0)).bind fun bt111 => (if bt111.2 = true then (if 0 ≤ bt111.1 then (if bt111.1 < (x7.length : Int) then (if bt111.1 < (x8.length : Int) then (shift_EndsP.l0 k x0 (x7.set (bt111.1 : Int).toNat (wrap64 ((rd x7 bt111.1) + (wrap64 (((rd_T51 x26 x28).f2) - ((rd_T51 x26 x28).f1)))))) (x8.set (bt111.1 : Int).toNat ((rd_T51 x26 x28).f2)) x26 x27 (wrap64 (x28 + 1))) else (none)) else (none)) else (none)) else (shift_EndsP.l0 k x0 x7 x8 x26 x27 (wrap64 (x28 + 1))))) else (none)) else (none)) else (shift_EndsP.l1 k x7 x8 x0 (x0.length : Int) 0)
def shift_EndsP.l1 : Nat → List Int → List Int → List (S45) → Int → Int → Option (List Int)
 | 0, _, _, _, _, _ => none
 | k + 1, x7, x8, x57, x58, x59 => if x59 < x58 then (if 0 ≤ x59 then (if x59 < (x57.length : Int) then (if x59 < (x7.length : Int) then (if (rd x7 x59) < ((rd_T45 x57 x59).f3) then (if x59 < (x8.length : Int) then (shift_EndsP.l1 k x7 (x8.set (x59 : Int).toNat (-1)) x57 x58 (wrap64 (x59 + 1))) else (none)) else (shift_EndsP.l1 k x7 x8 x57 x58 (wrap64 (x59 + 1)))) else (none)) else (none)) else (none)) else (some x8)
end
def shift_EndsP.f (k : Nat) (l0 : List (S45)) (l1 : List (S51)) : Option (List Int) := (shift_index.f l0).bind fun bt101 => (if 0 ≤ (l0.length : Int) then (if ((l0.length : Int) : Int).toNat ≤ 35184372088832 then (shift_EndsP.l0 k l0 (List.replicate ((l0.length : Int) : Int).toNat 0) (List.replicate ((l0.length : Int) : Int).toNat 0) l1 (l1.length : Int) 0) else (none)) else (none))
def shift_EndsP.T2 : Bool × List (List Nat × List Nat) := (true, [([], []), ([0], [0]), ([1, 1], [1]), ([], []), ([3], [3]), ([4, 4], [4]), ([2, 0, 1, 2], [2]), ([5, 6, 0, 1, 2, 3, 4, 5, 6], [5])])
def shift_EndsP.B2 : List Nat := [0, 1, 3, 0, 8, 24, 7, 127]
theorem shift_EndsP.tab2 : rtab .any (opsOf Try.f22 2) = shift_EndsP.T2 := by kernel_rfl
theorem shift_EndsP.bits2 : waitsOk shift_EndsP.T2.2 shift_EndsP.B2 = true := by kernel_rfl
def shift_EndsP.T8 : Bool × List (List Nat × List Nat) := (true, [([], []), ([], []), ([0, 1], [0, 1]), ([2], [2]), ([], []), ([4], [4]), ([], []), ([6], [6]), ([5, 7], [5, 7]), ([3, 8], [3, 8]), ([0, 1, 0, 1, 2, 3, 4, 5, 6, 7, 8, 9], [0, 1]), ([10, 9, 0, 1, 2, 3, 4, 5, 6, 7, 8, 9], [9, 10])])
def shift_EndsP.B8 : List Nat := [0, 0, 3, 7, 0, 16, 0, 64, 240, 511, 1023, 2047]
theorem shift_EndsP.tab8 : rtab .any (opsOf Try.f22 8) = shift_EndsP.T8 := by kernel_rfl
theorem shift_EndsP.bits8 : waitsOk shift_EndsP.T8.2 shift_EndsP.B8 = true := by kernel_rfl
set_option maxHeartbeats 8000000 in
set_option maxRecDepth 100000 in
theorem shift_EndsP.calls (k : Nat) (A0 : Option Addr) (c0 : Nat) (l0 : List (S45)) (A1 : Option Addr) (c1 : Nat) (l1 : List (S51)) (r : List Int) (w : World) (hr0 : Kd.C k45 w A0 l0.length l0) (hc0 : l0.length ≤ c0) (hr1 : Kd.C k51 w A1 l1.length l1) (hc1 : l1.length ≤ c1) (h : shift_EndsP.f k l0 l1 = some r) :
  Calls Try.prog 22 #[.slice A0 l0.length c0, .slice A1 l1.length c1] w fun e w' => ∃ v0_ : Value, e = .returned (v0_) ∧ Kd.R (Kd.int .i64) 3 w' w.heap.size (fun _ => True) v0_ r ∧ Below w.heap.size w w' := by
 have hu51 := Try.underlying51
 have hu45 := Try.underlying45
 have HR0 := Aside0.mk hr0
 have HC0 := Aside0.mk hc0
 clear hr0 hc0
 have HR1 := Aside0.mk hr1
 have HC1 := Aside0.mk hc1
 clear hr1 hc1
 have HB := Aside0.mk (Below.refl w.heap.size w)
 have H : ((shift_index.f l0).bind fun bt101 => (if 0 ≤ (l0.length : Int) then (if ((l0.length : Int) : Int).toNat ≤ 35184372088832 then (shift_EndsP.l0 k l0 (List.replicate ((l0.length : Int) : Int).toNat 0) (List.replicate ((l0.length : Int) : Int).toNat 0) l1 (l1.length : Int) 0) else (none)) else (none))) = some r := h
 clear h
 replace H := Option.bind_eq_some_iff.mp H
 obtain ⟨⟨t101, t102⟩, A30, H⟩ := H
 replace H : (if 0 ≤ (l0.length : Int) then (if ((l0.length : Int) : Int).toNat ≤ 35184372088832 then (shift_EndsP.l0 k l0 (List.replicate ((l0.length : Int) : Int).toNat 0) (List.replicate ((l0.length : Int) : Int).toNat 0) l1 (l1.length : Int) 0) else (none)) else (none)) = some r := H
 have A3 := Aside0.mk A30
 clear A30
 by_cases c4 : 0 ≤ (l0.length : Int)
 ·rw [if_pos c4] at H
  have c4b0 := eq_true c4
  have c4b1 : decide (0 ≤ (l0.length : Int)) = true := decide_eq_true c4
  clear c4
  by_cases c5 : ((l0.length : Int) : Int).toNat ≤ 35184372088832
  ·rw [if_pos c5] at H
   have c5b0 := eq_true c5
   have c5b1 : decide (((l0.length : Int) : Int).toNat ≤ 35184372088832) = true := decide_eq_true c5
   clear c5
   obtain ⟨y103, hy103⟩ : ∃ y_ : List Int, y_ = (List.replicate ((l0.length : Int) : Int).toNat 0) := ⟨_, rfl⟩
   replace H : (shift_EndsP.l0 k l0 y103 (List.replicate ((l0.length : Int) : Int).toNat 0) l1 (l1.length : Int) 0) = some r := by (rw [hy103]; with_reducible exact H)
   have Ny103 := Aside0.mk hy103
   clear hy103
   obtain ⟨y106, hy106⟩ : ∃ y_ : List Int, y_ = (List.replicate ((l0.length : Int) : Int).toNat 0) := ⟨_, rfl⟩
   replace H : (shift_EndsP.l0 k l0 y103 y106 l1 (l1.length : Int) 0) = some r := by (rw [hy106]; with_reducible exact H)
   have Ny106 := Aside0.mk hy106
   clear hy106
   have H' := Aside0.mk H
   clear H
   go_enter Try.func22, Try.ntmps22
   try go_wp2_with (((with_reducible refine gate_callee (f := 26) rfl ?_); refine goesL_ (some 17) rfl rfl Try.func26 (by kernel_rfl) rfl #[.slice A0 l0.length c0] rfl (by (try simp only [List.map_toArray, List.map_cons, List.map_nil]); rfl) ?_; (with_reducible refine (index_ok _ _ l0 _ ?side1 ?side2 (index_f A3.out).1 (index_f A3.out).2).mono ?_); (case side1 => repeat (exact HR0.out)); (case side2 => exact HC0.out); rintro e w6 ⟨BM, DM, rfl, HMX⟩; refine ⟨_, rfl, ?_⟩; have HBW := Aside0.mk (below_step (by repeat ((with_reducible exact HB.out))) HMX.out.1); clear HB; have HB := Aside0.mk (Below.refl w6.heap.size w6); have n0_ := Aside0.mk (Kd.C_below HR0.out HBW.out); clear HR0; have HR0 := n0_; clear n0_; have n1_ := Aside0.mk (Kd.C_below HR1.out HBW.out); clear HR1; have HR1 := n1_; clear n1_; (try clear hb); (try clear hb2); (try clear hk); (try clear hi)))
   have n0_ := Aside0.mk (below_drew1 HB.out)
   clear HB
   have HB := n0_
   clear n0_
   refine start_ (n := 8) (S := fun w' => True) (ds := []) #[false, false, false, false, false, false, false, false] (by kernel_rfl) rfl rfl trivial (fun hHeld => ?_); refine with_tabW shift_EndsP.tab2 shift_EndsP.bits2 (fun HT_ HW_ => ?_)
   generalize w6.drew = w7 at HB hHeld ⊢
   refine pure_ (i := 0) (N := some 20) (v := ?_) (a' := ?_) #[true, false, false, false, false, false, false, false] rfl rfl (any_of HT_.out (by kernel_rfl)) (fun _ _ _ h => h) (Or.inl ⟨by rfl, ?_⟩) ?_ ?_
   rotate_left
   ·intro w'
    go_simp
    with_reducible rfl
   rotate_left
   ·simp only [Act.put, List.setIfInBounds_toArray, List.set_cons_zero, List.set_cons_succ, i64_w, i32_w]
    rfl
   refine pure_ (i := 1) (N := some 21) (v := ?_) (a' := ?_) #[true, true, false, false, false, false, false, false] rfl rfl (any_of HT_.out (by kernel_rfl)) (fun _ _ _ h => h) (Or.inl ⟨by rfl, ?_⟩) ?_ ?_
   rotate_left
   ·intro w'
    go_simp
    with_reducible rfl
   rotate_left
   ·simp only [Act.put, List.setIfInBounds_toArray, List.set_cons_zero, List.set_cons_succ, i64_w, i32_w]
    rfl
   refine pure_ (i := 3) (N := some 23) (v := ?_) (a' := ?_) #[true, true, false, true, false, false, false, false] rfl rfl (any_of HT_.out (by kernel_rfl)) (fun _ _ _ h => h) (Or.inl ⟨by rfl, ?_⟩) ?_ ?_
   rotate_left
   ·intro w'
    go_simp
    with_reducible rfl
   rotate_left
   ·simp only [Act.put, List.setIfInBounds_toArray, List.set_cons_zero, List.set_cons_succ, i64_w, i32_w]
    rfl
   refine pure_ (i := 4) (N := some 24) (v := ?_) (a' := ?_) #[true, true, false, true, true, false, false, false] rfl rfl (any_of HT_.out (by kernel_rfl)) (fun _ _ _ h => h) (Or.inl ⟨by rfl, ?_⟩) ?_ ?_
   rotate_left
   ·intro w'
    go_simp
    with_reducible rfl
   rotate_left
   ·simp only [Act.put, List.setIfInBounds_toArray, List.set_cons_zero, List.set_cons_succ, i64_w, i32_w]
    rfl
   refine join_ (σ := Value × Value) 1 #[true, true, true, true, true, true, true, false] (fun s_ => [(22, s_.1), (25, s_.2), (7, s_.1)]) (fun s_ w' => (Kd.R (Kd.int .i64) 3 w' w6.heap.size (fun k_ => some k_ ≠ (s_.2 : Value).ownBlock) s_.1 y103) ∧ (Kd.R (Kd.int .i64) 3 w' w6.heap.size (fun k_ => some k_ ≠ (s_.1 : Value).ownBlock) s_.2 y106) ∧ (Below w6.heap.size w6 w')) ?_ ?_
   rotate_left
   ·intro hCont
    refine two_ (i := 2) (j := 5) (Ni := some 22) (Nj := some 25) #[true, true, true, true, true, false, false, false] #[true, true, false, true, true, true, false, false] rfl rfl rfl rfl (two_of HT_.out (by kernel_rfl)) (by decide) (by decide) (fun K hK => ?_) (fun K hK => ?_)
    ·skip
     refine Kd.R_make_step (Kd.int .i64) _ 3 (by rfl) (N := 22) rfl 36 _ _ rfl (l0.length : Int) rfl rfl Try.underlying36 (.int .i64 0) 8 info3 rfl (by decide) (by omega) 0 (ok := fun _ => True) (okp := fun _ => True) rfl (fun _ hk => hk) trivial (of_decide_eq_true (by (with_reducible assumption))) (Nat.le_trans (Nat.mul_le_mul_right _ (of_decide_eq_true (by (with_reducible assumption)) : (l0.length : Int).toNat ≤ 35184372088832)) (by omega)) (Below.refl _ _) (Nat.le_refl _) ?_
     intro v104 w8 ho9 hb hg_ hnew_
     clear hg_ hnew_
     (rw [← Ny103.out] at ho9)
     have n0_ := Aside0.mk (Kd.R_lower ho9 (below_size (by repeat ((with_reducible exact HB.out)))))
     have n1_ := Aside0.mk (below_step (by repeat ((with_reducible exact HB.out))) hb)
     clear HB
     have HO105 := n0_
     have HB := n1_
     clear n0_ n1_
     clear hb ho9
     refine hK.out _ _ trivial (fun hHeld => ?_)
     clear hK K
     refine norm_ (a' := ?_) ?_ ?_
     rotate_left
     ·show Act.put _ (some 22) _ = _
      simp only [Act.put, List.setIfInBounds_toArray, List.set_cons_zero, List.set_cons_succ, i64_w, i32_w]
      rfl
     refine pure_ (i := 6) (N := some 7) (v := ?_) (a' := ?_) #[true, true, true, true, true, false, true, false] rfl rfl (any_of HT_.out (by kernel_rfl)) (fun _ _ _ h => h) (Or.inl ⟨by rfl, ?_⟩) ?_ ?_
     rotate_left
     ·intro w'
      go_simp
      with_reducible rfl
     rotate_left
     ·simp only [Act.put, List.setIfInBounds_toArray, List.set_cons_zero, List.set_cons_succ, i64_w, i32_w]
      rfl
     refine one_ (i := 5) (N := some 25) #[true, true, true, true, true, true, true, false] rfl rfl (one_of HT_.out (by kernel_rfl)) (by decide) (fun K hK => ?_)
     refine Kd.R_make_step (Kd.int .i64) _ 3 (by rfl) (N := 25) rfl 36 _ _ rfl (l0.length : Int) rfl rfl Try.underlying36 (.int .i64 0) 8 info3 rfl (by decide) (by omega) 0 (ok := fun _ => True) (okp := fun _ => True) rfl (fun _ hk => hk) trivial (of_decide_eq_true (by (with_reducible assumption))) (Nat.le_trans (Nat.mul_le_mul_right _ (of_decide_eq_true (by (with_reducible assumption)) : (l0.length : Int).toNat ≤ 35184372088832)) (by omega)) (Below.refl _ _) (Nat.le_refl _) ?_
     intro v107 w10 ho11 hb hg_ hnew_
     clear hg_ hnew_
     (rw [← Ny106.out] at ho11)
     have n0_ := Aside0.mk (Kd.R_elder' (by (with_reducible repeat (fail)); exact HO105.out) (Kd.R_base ho11) hb)
     have n1_ := Aside0.mk (Kd.R_lower (Kd.R_new' ho11 (Kd.R_lt (by (with_reducible repeat (fail)); exact HO105.out))) (below_size (by repeat ((with_reducible exact HB.out)))))
     have n2_ := Aside0.mk (below_step (by repeat ((with_reducible exact HB.out))) hb)
     clear HO105
     clear HB
     have HO105 := n0_
     have HO108 := n1_
     have HB := n2_
     clear n0_ n1_ n2_
     clear hb ho11
     refine hK.out _ _ trivial (fun hHeld => ?_)
     clear hK K
     refine norm_ (a' := ?_) ?_ ?_
     rotate_left
     ·show Act.put _ (some 25) _ = _
      simp only [Act.put, List.setIfInBounds_toArray, List.set_cons_zero, List.set_cons_succ, i64_w, i32_w]
      rfl
     exact norm_ (by simp only [putAll, Act.put, List.setIfInBounds_toArray, List.set_cons_zero, List.set_cons_succ]) (hCont (v104, v107) _ ⟨(by (with_reducible repeat (fail)); exact Kd.R_mono HO105.out (fun _ hk => hk.2)), (by (with_reducible repeat (fail)); exact Kd.R_mono HO108.out (fun _ hk => hk.2)), (by repeat ((with_reducible exact HB.out)))⟩)
    ·skip
     refine Kd.R_make_step (Kd.int .i64) _ 3 (by rfl) (N := 25) rfl 36 _ _ rfl (l0.length : Int) rfl rfl Try.underlying36 (.int .i64 0) 8 info3 rfl (by decide) (by omega) 0 (ok := fun _ => True) (okp := fun _ => True) rfl (fun _ hk => hk) trivial (of_decide_eq_true (by (with_reducible assumption))) (Nat.le_trans (Nat.mul_le_mul_right _ (of_decide_eq_true (by (with_reducible assumption)) : (l0.length : Int).toNat ≤ 35184372088832)) (by omega)) (Below.refl _ _) (Nat.le_refl _) ?_
     intro v107 w8 ho9 hb hg_ hnew_
     clear hg_ hnew_
     (rw [← Ny106.out] at ho9)
     have n0_ := Aside0.mk (Kd.R_lower ho9 (below_size (by repeat ((with_reducible exact HB.out)))))
     have n1_ := Aside0.mk (below_step (by repeat ((with_reducible exact HB.out))) hb)
     clear HB
     have HO108 := n0_
     have HB := n1_
     clear n0_ n1_
     clear hb ho9
     refine hK.out _ _ trivial (fun hHeld => ?_)
     clear hK K
     refine norm_ (a' := ?_) ?_ ?_
     rotate_left
     ·show Act.put _ (some 25) _ = _
      simp only [Act.put, List.setIfInBounds_toArray, List.set_cons_zero, List.set_cons_succ, i64_w, i32_w]
      rfl
     refine one_ (i := 2) (N := some 22) #[true, true, true, true, true, true, false, false] rfl rfl (one_of HT_.out (by kernel_rfl)) (by decide) (fun K hK => ?_)
     refine Kd.R_make_step (Kd.int .i64) _ 3 (by rfl) (N := 22) rfl 36 _ _ rfl (l0.length : Int) rfl rfl Try.underlying36 (.int .i64 0) 8 info3 rfl (by decide) (by omega) 0 (ok := fun _ => True) (okp := fun _ => True) rfl (fun _ hk => hk) trivial (of_decide_eq_true (by (with_reducible assumption))) (Nat.le_trans (Nat.mul_le_mul_right _ (of_decide_eq_true (by (with_reducible assumption)) : (l0.length : Int).toNat ≤ 35184372088832)) (by omega)) (Below.refl _ _) (Nat.le_refl _) ?_
     intro v104 w10 ho11 hb hg_ hnew_
     clear hg_ hnew_
     (rw [← Ny103.out] at ho11)
     have n0_ := Aside0.mk (Kd.R_elder' (by (with_reducible repeat (fail)); exact HO108.out) (Kd.R_base ho11) hb)
     have n1_ := Aside0.mk (Kd.R_lower (Kd.R_new' ho11 (Kd.R_lt (by (with_reducible repeat (fail)); exact HO108.out))) (below_size (by repeat ((with_reducible exact HB.out)))))
     have n2_ := Aside0.mk (below_step (by repeat ((with_reducible exact HB.out))) hb)
     clear HO108
     clear HB
     have HO108 := n0_
     have HO105 := n1_
     have HB := n2_
     clear n0_ n1_ n2_
     clear hb ho11
     refine hK.out _ _ trivial (fun hHeld => ?_)
     clear hK K
     refine norm_ (a' := ?_) ?_ ?_
     rotate_left
     ·show Act.put _ (some 22) _ = _
      simp only [Act.put, List.setIfInBounds_toArray, List.set_cons_zero, List.set_cons_succ, i64_w, i32_w]
      rfl
     refine pure_ (i := 6) (N := some 7) (v := ?_) (a' := ?_) #[true, true, true, true, true, true, true, false] rfl rfl (any_of HT_.out (by kernel_rfl)) (fun _ _ _ h => h) (Or.inl ⟨by rfl, ?_⟩) ?_ ?_
     rotate_left
     ·intro w'
      go_simp
      with_reducible rfl
     rotate_left
     ·simp only [Act.put, List.setIfInBounds_toArray, List.set_cons_zero, List.set_cons_succ, i64_w, i32_w]
      rfl
     exact norm_ (by simp only [putAll, Act.put, List.setIfInBounds_toArray, List.set_cons_zero, List.set_cons_succ]) (hCont (v104, v107) _ ⟨(by (with_reducible repeat (fail)); exact Kd.R_mono HO105.out (fun _ hk => hk.2)), (by (with_reducible repeat (fail)); exact Kd.R_mono HO108.out (fun _ hk => hk.2)), (by repeat ((with_reducible exact HB.out)))⟩)
   rintro ⟨v104, v107⟩ w12 ⟨h0_, h1_, h2_⟩
   have n0_ : Aside0 (Kd.R (Kd.int .i64) 3 w12 w6.heap.size (fun k_ => some k_ ≠ (v107 : Value).ownBlock) v104 y103) := ⟨h0_⟩
   have n1_ : Aside0 (Kd.R (Kd.int .i64) 3 w12 w6.heap.size (fun k_ => some k_ ≠ (v104 : Value).ownBlock) v107 y106) := ⟨h1_⟩
   have n2_ : Aside0 (Below w6.heap.size w6 w12) := ⟨h2_⟩
   clear HB
   clear h0_ h1_ h2_
   have HO105 := n0_
   have HO108 := n1_
   have HB := n2_
   clear n0_ n1_ n2_
   have hHeld := trivial
   refine norm_ (a' := ?_) ?_ ?_
   rotate_left
   ·simp only [putAll, Act.put, List.setIfInBounds_toArray, List.set_cons_zero, List.set_cons_succ]
    rfl
   refine pure_ (i := 7) (N := some 8) (v := ?_) (a' := ?_) #[true, true, true, true, true, true, true, true] rfl rfl (any_of HT_.out (by kernel_rfl)) (fun _ _ _ h => h) (Or.inl ⟨by rfl, ?_⟩) ?_ ?_
   rotate_left
   ·intro w'
    go_simp
    with_reducible rfl
   rotate_left
   ·simp only [Act.put, List.setIfInBounds_toArray, List.set_cons_zero, List.set_cons_succ, i64_w, i32_w]
    rfl
   refine done_ (done_of HT_.out (by kernel_rfl)) ?_
   try go_wp2
   go_loopg [28] k (fun kq v28 w' => ∃ (x7_1 : List Int) (x8_1 : List Int) (x28_1 : Int), v28 = .int .i64 x28_1 ∧ Aside0 (shift_EndsP.l0 kq l0 x7_1 x8_1 l1 (l1.length : Int) x28_1 = some r) ∧ Aside0 (kq ≤ k) ∧ Aside0 (Kd.R (Kd.int .i64) 3 w' w6.heap.size (fun k_ => some k_ ≠ (v107 : Value).ownBlock) v104 x7_1) ∧ Aside0 (Kd.R (Kd.int .i64) 3 w' w6.heap.size (fun k_ => some k_ ≠ (v104 : Value).ownBlock) v107 x8_1) ∧ Aside0 (Below w6.heap.size w6 w'))
   case atStart => exact ⟨(y103), (y106), (0), (by rfl), H', ⟨Nat.le_refl _⟩, ⟨by (with_reducible repeat (fail)); exact HO105.out⟩, ⟨by (with_reducible repeat (fail)); exact HO108.out⟩, ⟨by repeat ((with_reducible exact HB.out))⟩⟩
   case round =>
    clear H'
    try clear c1
    try clear c2
    try clear p2
    try clear c4
    try clear c4b0
    try clear c4b1
    try clear c5
    try clear c5b0
    try clear c5b1
    obtain ⟨x7_1, x8_1, x28_1, rfl, HA, HK1, HO_7, HO_8, HB⟩ := hrel
    cases gk with
    | zero => exact absurd HA.out (by simp [shift_EndsP.l0])
    | succ k1 =>
     have H := HA.out
     clear HA
     simp only [shift_EndsP.l0] at H
     by_cases c13 : x28_1 < (l1.length : Int)
     ·rw [if_pos c13] at H
      have c13b0 : decide (x28_1 < (l1.length : Int)) = true := decide_eq_true c13
      clear c13
      by_cases c14 : 0 ≤ x28_1
      ·rw [if_pos c14] at H
       have c14b0 : decide (0 ≤ x28_1) = true := decide_eq_true c14
       clear c14
       by_cases c15 : x28_1 < (l1.length : Int)
       ·rw [if_pos c15] at H
        have c15b0 : decide (x28_1 < (l1.length : Int)) = true := decide_eq_true c15
        clear c15
        replace H := Option.bind_eq_some_iff.mp H
        obtain ⟨⟨t111, t112⟩, A160, H⟩ := H
        replace H : (if t112 = true then (if 0 ≤ t111 then (if t111 < (x7_1.length : Int) then (if t111 < (x8_1.length : Int) then (shift_EndsP.l0 k1 l0 (x7_1.set (t111 : Int).toNat (wrap64 ((rd x7_1 t111) + (wrap64 (((rd_T51 l1 x28_1).f2) - ((rd_T51 l1 x28_1).f1)))))) (x8_1.set (t111 : Int).toNat ((rd_T51 l1 x28_1).f2)) l1 (l1.length : Int) (wrap64 (x28_1 + 1))) else (none)) else (none)) else (none)) else (shift_EndsP.l0 k1 l0 x7_1 x8_1 l1 (l1.length : Int) (wrap64 (x28_1 + 1)))) = some r := H
        have A16 := Aside0.mk A160
        clear A160
        by_cases c17 : t112 = true
        ·subst c17
         have H1 : (if 0 ≤ t111 then (if t111 < (x7_1.length : Int) then (if t111 < (x8_1.length : Int) then (shift_EndsP.l0 k1 l0 (x7_1.set (t111 : Int).toNat (wrap64 ((rd x7_1 t111) + (wrap64 (((rd_T51 l1 x28_1).f2) - ((rd_T51 l1 x28_1).f1)))))) (x8_1.set (t111 : Int).toNat ((rd_T51 l1 x28_1).f2)) l1 (l1.length : Int) (wrap64 (x28_1 + 1))) else (none)) else (none)) else (none)) = some r := by rw [if_pos rfl] at H; exact H
         clear H
         have H := H1
         clear H1
         by_cases c18 : 0 ≤ t111
         ·rw [if_pos c18] at H
          have c18b0 : decide (0 ≤ t111) = true := decide_eq_true c18
          clear c18
          by_cases c19 : t111 < (x7_1.length : Int)
          ·rw [if_pos c19] at H
           have c19b0 : decide (t111 < (x7_1.length : Int)) = true := decide_eq_true c19
           clear c19
           obtain ⟨y114, hy114⟩ : ∃ y_ : List Int, y_ = (x7_1.set (t111 : Int).toNat (wrap64 ((rd x7_1 t111) + (wrap64 (((rd_T51 l1 x28_1).f2) - ((rd_T51 l1 x28_1).f1)))))) := ⟨_, rfl⟩
           replace H : (if t111 < (x8_1.length : Int) then (shift_EndsP.l0 k1 l0 y114 (x8_1.set (t111 : Int).toNat ((rd_T51 l1 x28_1).f2)) l1 (l1.length : Int) (wrap64 (x28_1 + 1))) else (none)) = some r := by (rw [hy114]; with_reducible exact H)
           have Ny114 := Aside0.mk hy114
           clear hy114
           by_cases c21 : t111 < (x8_1.length : Int)
           ·rw [if_pos c21] at H
            have c21b0 : decide (t111 < (x8_1.length : Int)) = true := decide_eq_true c21
            clear c21
            obtain ⟨y115, hy115⟩ : ∃ y_ : List Int, y_ = (x8_1.set (t111 : Int).toNat ((rd_T51 l1 x28_1).f2)) := ⟨_, rfl⟩
            replace H : (shift_EndsP.l0 k1 l0 y114 y115 l1 (l1.length : Int) (wrap64 (x28_1 + 1))) = some r := by (rw [hy115]; with_reducible exact H)
            have Ny115 := Aside0.mk hy115
            clear hy115
            have H' := Aside0.mk H
            clear H
            have p109 : 0 ≤ (x28_1 : Int) := of_decide_eq_true (by (with_reducible assumption))
            have q109 : x28_1 < (l1.length : Int) := of_decide_eq_true (by (with_reducible assumption))
            obtain ⟨ad109, e109, hx109_0, hx109_1, hx109_2⟩ := at_T51 HR1.out x28_1 p109 q109
            cases e109
            replace hx109_0 := (HB.out.cell (World.block_lt_of_cell? w6 _ hx109_0)).trans hx109_0
            replace hx109_1 := (HB.out.cell (World.block_lt_of_cell? w6 _ hx109_1)).trans hx109_1
            replace hx109_2 := (HB.out.cell (World.block_lt_of_cell? w6 _ hx109_2)).trans hx109_2
            replace p109 := eq_true p109
            replace q109 := eq_true q109
            try go_wp2_with (first | ((with_reducible refine gate_dst (N := 10) rfl ?_); refine box_event ?hg (N := 10) ?hd (cs := #[.int .i64 0, .int .i64 0, .int .i64 0]) (t := 51) ?hr ?_; (case hd => rfl); (case hg => rfl); (case hr => (go_simp; done)); intro gb110 hg w23 hbox hb; have n0_ := Aside0.mk (Kd.R_below (by (with_reducible repeat (fail)); exact HO_7.out) hb); have n1_ := Aside0.mk (Kd.R_below (by (with_reducible repeat (fail)); exact HO_8.out) hb); have n2_ := Aside0.mk (below_step (by repeat ((with_reducible exact HB.out))) hb); have n3_ := Aside0.mk (hbox); have n4_ := Aside0.mk ((by rw [hg]; exact (below_size (by repeat ((with_reducible exact HB.out)))) : w6.heap.size ≤ gb110)); have n5_ := Aside0.mk ((by rw [hg]; exact (below_size (by repeat ((with_reducible exact HB.out)))) : w6.heap.size ≤ gb110)); clear HO_7; clear HO_8; clear HB; have HO_7 := n0_; have HO_8 := n1_; have HB := n2_; have BK110 := n3_; have GW110 := n4_; have GE110 := n5_; clear n0_ n1_ n2_ n3_ n4_ n5_; clear hb hbox hg; have hcz24_0 : w23.cell? ⟨gb110, 0, none⟩ = some (.int .i64 0) := (blk_cell BK110.out 0).trans rfl; have hcz24_1 : w23.cell? ⟨gb110, 1, none⟩ = some (.int .i64 0) := (blk_cell BK110.out 1).trans rfl; have hcz24_2 : w23.cell? ⟨gb110, 2, none⟩ = some (.int .i64 0) := (blk_cell BK110.out 2).trans rfl; have hfz24_0 := blk_frozen BK110.out 0; have hfz24_1 := blk_frozen BK110.out 1; have hfz24_2 := blk_frozen BK110.out 2) | (at_lookup; refine look_event (l0 := l0) _ rfl _ _ rfl BM _ DM rfl (HMX.out.2.2.1.kept (grown_of_below (by repeat ((with_reducible first | exact HB.out | refine below_set ?_ GE110.out))) none) (by simp)) HMX.out.2.2.2 ((rd_T51 l1 x28_1).f0) rfl t111 true A16.out ?_; intro w25 hb; have n0_ := Aside0.mk (Kd.R_below (by (with_reducible repeat (fail)); exact (Kd.R_mono (Kd.R_far (p := ⟨gb110, 2, none⟩) (Kd.R_far (p := ⟨gb110, 1, none⟩) (Kd.R_far (p := ⟨gb110, 0, none⟩) (Kd.R_types HO_7.out BK110.out (by decide)) (fun _ hk => hk.2) (.int .i64 ((rd_T51 l1 x28_1).f0))) (fun _ hk => hk.2) (.int .i64 ((rd_T51 l1 x28_1).f1))) (fun _ hk => hk.2) (.int .i64 ((rd_T51 l1 x28_1).f2))) (fun _ h_ => h_.1))) hb); have n1_ := Aside0.mk (Kd.R_below (by (with_reducible repeat (fail)); exact (Kd.R_mono (Kd.R_far (p := ⟨gb110, 2, none⟩) (Kd.R_far (p := ⟨gb110, 1, none⟩) (Kd.R_far (p := ⟨gb110, 0, none⟩) (Kd.R_types HO_8.out BK110.out (by decide)) (fun _ hk => hk.2) (.int .i64 ((rd_T51 l1 x28_1).f0))) (fun _ hk => hk.2) (.int .i64 ((rd_T51 l1 x28_1).f1))) (fun _ hk => hk.2) (.int .i64 ((rd_T51 l1 x28_1).f2))) (fun _ h_ => h_.1))) hb); have n2_ := Aside0.mk (blk_below (g := gb110) (o := .cells #[.int .i64 ((rd_T51 l1 x28_1).f0), .int .i64 ((rd_T51 l1 x28_1).f1), .int .i64 ((rd_T51 l1 x28_1).f2)] 51 (0, 0)) (by (with_reducible repeat (fail)); refine blk_put (cs := #[.int .i64 ((rd_T51 l1 x28_1).f0), .int .i64 ((rd_T51 l1 x28_1).f1), .int .i64 0]) ?_ 2 _ rfl; (with_reducible repeat (fail)); refine blk_put (cs := #[.int .i64 ((rd_T51 l1 x28_1).f0), .int .i64 0, .int .i64 0]) ?_ 1 _ rfl; (with_reducible repeat (fail)); refine blk_put (cs := #[.int .i64 0, .int .i64 0, .int .i64 0]) ?_ 0 _ rfl; (with_reducible repeat (fail)); exact BK110.out) hb); have n3_ := Aside0.mk (below_step (by repeat ((with_reducible first | exact HB.out | refine below_set ?_ GE110.out))) hb); clear HO_7; clear HO_8; clear BK110; clear HB; have HO_7 := n0_; have HO_8 := n1_; have BK110 := n2_; have HB := n3_; clear n0_ n1_ n2_ n3_; (try clear hb); (try clear hb2); (try clear hk); (try clear hi)))
            have n0_ := Aside0.mk (Kd.R_drew HO_7.out)
            have n1_ := Aside0.mk (Kd.R_drew HO_8.out)
            have n2_ := Aside0.mk (blk_drew BK110.out)
            have n3_ := Aside0.mk (below_drew1 HB.out)
            clear HO_7
            clear HO_8
            clear BK110
            clear HB
            have HO_7 := n0_
            have HO_8 := n1_
            have BK110 := n2_
            have HB := n3_
            clear n0_ n1_ n2_ n3_
            obtain ⟨Ao27, co27, eo27⟩ := Kd.R_slice HO_7.out
            (subst eo27)
            have p113 : 0 ≤ (t111 : Int) := of_decide_eq_true (by (with_reducible assumption))
            have q113 : t111 < (x7_1.length : Int) := of_decide_eq_true (by (with_reducible assumption))
            obtain ⟨ad113, e113, hx113_0⟩ := Kd.at_int (Kd.R_reads' HO_7.out).2.2 t111 p113 q113
            cases e113
            replace p113 := eq_true p113
            replace q113 := eq_true q113
            have p20 : 0 ≤ (t111 : Int) := of_decide_eq_true (by (with_reducible assumption))
            have q20 : (t111 : Int) < ((x7_1.length : Int) : Int) := of_decide_eq_true (by (with_reducible assumption))
            obtain ⟨go20, co20, eo20, gb20, gl20, cl20, HG20⟩ := Kd.R_form HO_7.out (by omega)
            (cases eo20)
            have GB20 := Aside0.mk gb20
            have GG20 := Aside0.mk HG20
            clear gb20 gl20 HG20
            (simp only [add_plain] at hx113_0)
            obtain ⟨hx20_0, hf20_0⟩ := Kd.R_celln 0 HO_7.out (t111 : Int) p20 q20
            replace p20 := eq_true p20
            replace q20 := eq_true q20
            have HP28 := Kd.R_putn HO_7.out (t111 : Int) (wrap64 ((rd x7_1 t111) + (wrap64 (((rd_T51 l1 x28_1).f2) - ((rd_T51 l1 x28_1).f1)))))
            rw [← Ny114.out] at HP28
            have HQ28 := Aside0.mk HP28
            clear HP28
            refine start_ (n := 12) (S := fun w' => w'.cell? ⟨gb110, 0, none⟩ = some (.int .i64 ((rd_T51 l1 x28_1).f0)) ∧ w'.cell? ⟨gb110, 1, none⟩ = some (.int .i64 ((rd_T51 l1 x28_1).f1)) ∧ w'.cell? ⟨gb110, 2, none⟩ = some (.int .i64 ((rd_T51 l1 x28_1).f2)) ∧ w'.cell? ⟨go20, (t111).toNat, none⟩ = some (.int .i64 (rd x7_1 t111))) (ds := [11]) #[false, false, false, false, false, false, false, false, false, false, false, false] (by kernel_rfl) rfl rfl ⟨(blk_cell BK110.out 0).trans rfl, (blk_cell BK110.out 1).trans rfl, (blk_cell BK110.out 2).trans rfl, hx113_0⟩ (fun hHeld => ?_); refine with_tabW shift_EndsP.tab8 shift_EndsP.bits8 (fun HT_ HW_ => ?_)
            generalize w25.drew = w26 at HO_7 HO_8 BK110 HB GG20 HQ28 hf20_0 hx113_0 hx20_0 hHeld ⊢
            refine pure_ (i := 0) (N := some 40) (v := ?_) (a' := ?_) #[true, false, false, false, false, false, false, false, false, false, false, false] rfl rfl (any_of HT_.out (by kernel_rfl)) (fun _ _ _ h => h) (Or.inl ⟨by rfl, ?_⟩) ?_ ?_
            rotate_left
            ·intro w'
             go_simp
             with_reducible rfl
            rotate_left
            ·simp only [Act.put, List.setIfInBounds_toArray, List.set_cons_zero, List.set_cons_succ, i64_w, i32_w]
             rfl
            refine pure_ (i := 1) (N := some 41) (v := ?_) (a' := ?_) #[true, true, false, false, false, false, false, false, false, false, false, false] rfl rfl (any_of HT_.out (by kernel_rfl)) (fun _ _ _ h => h) (Or.inl ⟨by rfl, ?_⟩) ?_ ?_
            rotate_left
            ·intro w'
             go_simp
             with_reducible rfl
            rotate_left
            ·simp only [Act.put, List.setIfInBounds_toArray, List.set_cons_zero, List.set_cons_succ, i64_w, i32_w]
             rfl
            refine pure_ (i := 2) (N := some 42) (v := ?_) (a' := ?_) #[true, true, true, false, false, false, false, false, false, false, false, false] rfl rfl (any_of HT_.out (by kernel_rfl)) (fun _ _ _ h => h) (Or.inl ⟨by rfl, ?_⟩) ?_ ?_
            rotate_left
            ·intro w'
             go_simp
             with_reducible rfl
            rotate_left
            ·simp only [Act.put, List.setIfInBounds_toArray, List.set_cons_zero, List.set_cons_succ, i64_w, i32_w]
             rfl
            refine pure_ (i := 4) (N := some 44) (v := ?_) (a' := ?_) #[true, true, true, false, true, false, false, false, false, false, false, false] rfl rfl (any_of HT_.out (by kernel_rfl)) (fun _ _ _ h => h) (Or.inl ⟨by rfl, ?_⟩) ?_ ?_
            rotate_left
            ·intro w'
             go_simp
             with_reducible rfl
            rotate_left
            ·simp only [Act.put, List.setIfInBounds_toArray, List.set_cons_zero, List.set_cons_succ, i64_w, i32_w]
             rfl
            refine pure_ (i := 6) (N := some 46) (v := ?_) (a' := ?_) #[true, true, true, false, true, false, true, false, false, false, false, false] rfl rfl (any_of HT_.out (by kernel_rfl)) (fun _ _ _ h => h) (Or.inl ⟨by rfl, ?_⟩) ?_ ?_
            rotate_left
            ·intro w'
             go_simp
             with_reducible rfl
            rotate_left
            ·simp only [Act.put, List.setIfInBounds_toArray, List.set_cons_zero, List.set_cons_succ, i64_w, i32_w]
             rfl
            refine take_ (i := 3) (N := some 43) (v := ?_) (a' := ?_) #[true, true, true, true, true, false, true, false, false, false, false, false] rfl rfl (take_ofW HT_.out HW_.out (by kernel_rfl)) (fun _ _ _ h => h) (Or.inl ⟨by rfl, ?_⟩) hHeld ?_ ?_
            rotate_left
            ·rintro w' ⟨s0, s1, s2, s3⟩
             go_simp
             with_reducible rfl
            rotate_left
            ·simp only [Act.put, List.setIfInBounds_toArray, List.set_cons_zero, List.set_cons_succ, i64_w, i32_w]
             rfl
            refine take_ (i := 5) (N := some 45) (v := ?_) (a' := ?_) #[true, true, true, true, true, true, true, false, false, false, false, false] rfl rfl (take_ofW HT_.out HW_.out (by kernel_rfl)) (fun _ _ _ h => h) (Or.inl ⟨by rfl, ?_⟩) hHeld ?_ ?_
            rotate_left
            ·rintro w' ⟨s0, s1, s2, s3⟩
             go_simp
             with_reducible rfl
            rotate_left
            ·simp only [Act.put, List.setIfInBounds_toArray, List.set_cons_zero, List.set_cons_succ, i64_w, i32_w]
             rfl
            refine take_ (i := 7) (N := some 47) (v := ?_) (a' := ?_) #[true, true, true, true, true, true, true, true, false, false, false, false] rfl rfl (take_ofW HT_.out HW_.out (by kernel_rfl)) (fun _ _ _ h => h) (Or.inl ⟨by rfl, ?_⟩) hHeld ?_ ?_
            rotate_left
            ·rintro w' ⟨s0, s1, s2, s3⟩
             go_simp
             with_reducible rfl
            rotate_left
            ·simp only [Act.put, List.setIfInBounds_toArray, List.set_cons_zero, List.set_cons_succ, i64_w, i32_w]
             rfl
            refine pure_ (i := 8) (N := some 48) (v := ?_) (a' := ?_) #[true, true, true, true, true, true, true, true, true, false, false, false] rfl rfl (any_of HT_.out (by kernel_rfl)) (fun _ _ _ h => h) (Or.inl ⟨by rfl, ?_⟩) ?_ ?_
            rotate_left
            ·intro w'
             go_simp
             with_reducible rfl
            rotate_left
            ·simp only [Act.put, List.setIfInBounds_toArray, List.set_cons_zero, List.set_cons_succ, i64_w, i32_w]
             rfl
            refine pure_ (i := 9) (N := some 49) (v := ?_) (a' := ?_) #[true, true, true, true, true, true, true, true, true, true, false, false] rfl rfl (any_of HT_.out (by kernel_rfl)) (fun _ _ _ h => h) (Or.inl ⟨by rfl, ?_⟩) ?_ ?_
            rotate_left
            ·intro w'
             go_simp
             with_reducible rfl
            rotate_left
            ·simp only [Act.put, List.setIfInBounds_toArray, List.set_cons_zero, List.set_cons_succ, i64_w, i32_w]
             rfl
            refine pure_ (i := 10) (N := some 50) (v := ?_) (a' := ?_) #[true, true, true, true, true, true, true, true, true, true, true, false] rfl rfl (any_of HT_.out (by kernel_rfl)) (fun _ _ _ h => h) (Or.inl ⟨by rfl, ?_⟩) ?_ ?_
            rotate_left
            ·intro w'
             go_simp
             with_reducible rfl
            rotate_left
            ·simp only [Act.put, List.setIfInBounds_toArray, List.set_cons_zero, List.set_cons_succ, i64_w, i32_w]
             rfl
            refine last_ (i := 11) (N := none) #[true, true, true, true, true, true, true, true, true, true, true, true] rfl rfl (one_of HT_.out (by kernel_rfl)) (by decide) (fun K hK => ?_)
            refine skip_ (w1 := ?_) (by rfl) rfl ?_ ?_
            rotate_left
            ·go_simp
             rfl
            refine hK.out _ _ ?_
            clear hK K
            refine done_ (done_of HT_.out (by kernel_rfl)) ?_
            have n0_ : Aside0 (Kd.R (Kd.int .i64) 3 (w26.setCell ⟨go20, (t111 : Int).toNat, none⟩ (.int .i64 (wrap64 ((rd x7_1 t111) + (wrap64 (((rd_T51 l1 x28_1).f2) - ((rd_T51 l1 x28_1).f1))))))) w6.heap.size (fun k_ => some k_ ≠ (v107 : Value).ownBlock) (.slice (some ⟨go20, 0, none⟩) x7_1.length co27) y114) := ⟨by (with_reducible repeat (fail)); exact HQ28.out⟩
            have n1_ : Aside0 (Kd.R (Kd.int .i64) 3 (w26.setCell ⟨go20, (t111 : Int).toNat, none⟩ (.int .i64 (wrap64 ((rd x7_1 t111) + (wrap64 (((rd_T51 l1 x28_1).f2) - ((rd_T51 l1 x28_1).f1))))))) w6.heap.size (fun k_ => some k_ ≠ (.slice (some ⟨go20, 0, none⟩) x7_1.length co27 : Value).ownBlock) v107 x8_1) := ⟨by (with_reducible repeat (fail)); exact Kd.R_mono (Kd.R_far (p := ⟨go20, (t111 : Int).toNat, none⟩) (Kd.R_mono HO_8.out (fun k_ hk => (⟨hk, fun e_ => hk (by rw [e_]; rfl)⟩ : _ ∧ k_ ≠ go20))) (fun _ hk => hk.2) (.int .i64 (wrap64 ((rd x7_1 t111) + (wrap64 (((rd_T51 l1 x28_1).f2) - ((rd_T51 l1 x28_1).f1))))))) (fun _ hk => hk.1)⟩
            have n2_ : Aside0 ((w26.setCell ⟨go20, (t111 : Int).toNat, none⟩ (.int .i64 (wrap64 ((rd x7_1 t111) + (wrap64 (((rd_T51 l1 x28_1).f2) - ((rd_T51 l1 x28_1).f1))))))).heap[gb110]? = some (.cells #[.int .i64 ((rd_T51 l1 x28_1).f0), .int .i64 ((rd_T51 l1 x28_1).f1), .int .i64 ((rd_T51 l1 x28_1).f2)] 51 (0, 0))) := ⟨by (with_reducible repeat (fail)); refine blk_far ?_ (by have h_ := Kd.R_ne HO_7.out BK110.out (by decide); intro e_; exact h_ (by rw [e_]; rfl)) _; (with_reducible repeat (fail)); exact BK110.out⟩
            have n3_ : Aside0 (Below w6.heap.size w6 (w26.setCell ⟨go20, (t111 : Int).toNat, none⟩ (.int .i64 (wrap64 ((rd x7_1 t111) + (wrap64 (((rd_T51 l1 x28_1).f2) - ((rd_T51 l1 x28_1).f1)))))))) := ⟨by repeat ((with_reducible first | exact HB.out | refine below_set ?_ GB20.out))⟩
            (try clear HO_7)
            (try clear HO_8)
            (try clear BK110)
            (try clear HB)
            generalize (w26.setCell ⟨go20, (t111 : Int).toNat, none⟩ (.int .i64 (wrap64 ((rd x7_1 t111) + (wrap64 (((rd_T51 l1 x28_1).f2) - ((rd_T51 l1 x28_1).f1))))))) = w29 at n0_ n1_ n2_ n3_ ⊢
            have HO_7 := n0_
            have HO_8 := n1_
            have BK110 := n2_
            have HB := n3_
            clear n0_ n1_ n2_ n3_
            have hcz30_0 : w29.cell? ⟨gb110, 0, none⟩ = some (.int .i64 ((rd_T51 l1 x28_1).f0)) := (blk_cell BK110.out 0).trans rfl
            have hcz30_1 : w29.cell? ⟨gb110, 1, none⟩ = some (.int .i64 ((rd_T51 l1 x28_1).f1)) := (blk_cell BK110.out 1).trans rfl
            have hcz30_2 : w29.cell? ⟨gb110, 2, none⟩ = some (.int .i64 ((rd_T51 l1 x28_1).f2)) := (blk_cell BK110.out 2).trans rfl
            have hfz30_0 := blk_frozen BK110.out 0
            have hfz30_1 := blk_frozen BK110.out 1
            have hfz30_2 := blk_frozen BK110.out 2
            have p22 : 0 ≤ (t111 : Int) := of_decide_eq_true (by (with_reducible assumption))
            have q22 : (t111 : Int) < ((x8_1.length : Int) : Int) := of_decide_eq_true (by (with_reducible assumption))
            obtain ⟨go22, co22, eo22, gb22, gl22, cl22, HG22⟩ := Kd.R_form HO_8.out (by omega)
            (cases eo22)
            have GB22 := Aside0.mk gb22
            have GG22 := Aside0.mk HG22
            clear gb22 gl22 HG22
            obtain ⟨hx22_0, hf22_0⟩ := Kd.R_celln 0 HO_8.out (t111 : Int) p22 q22
            replace p22 := eq_true p22
            replace q22 := eq_true q22
            obtain ⟨hy31_, hz31_⟩ := Kd.R_celln 0 HO_8.out (t111 : Int) (of_decide_eq_true (by (with_reducible assumption))) (of_decide_eq_true (by (with_reducible assumption)))
            have HP31 := Kd.R_putg HO_8.out (t111 : Int) ((rd_T51 l1 x28_1).f2)
            try go_wp2_with (((with_reducible refine gate_store (t := 3) (p := 55) rfl ?_); refine store_event (t := 3) (p := 55) (v := ?vo_w32) (w1 := (w29.setCell ⟨go22, (t111 : Int).toNat, none⟩ (.int .i64 ((rd_T51 l1 x28_1).f2)))) ?hg ?ho ?hn ?hr ?_; (case ho => rfl); (case hg => rfl); (case hn => rfl); (case hr => (go_simp; done)); intro w32 hw; have hg : w29.grownBy w32 (some go22) := (by rw [hw]; exact HP31.2); have hp_ : Kd.R (Kd.int .i64) 3 w32 w6.heap.size (fun k_ => some k_ ≠ (.slice (some ⟨go20, 0, none⟩) x7_1.length co27 : Value).ownBlock) (.slice (some ⟨go22, 0, none⟩) x8_1.length co22) y115 := (by rw [hw, Ny115.out]; exact HP31.1); clear HP31; have n0_ := Aside0.mk (Kd.R_after (v := (.slice (some ⟨go22, 0, none⟩) x8_1.length co22)) (v1 := (.slice (some ⟨go22, 0, none⟩) x8_1.length co22)) (ok := (fun _ => True)) (by (with_reducible repeat (fail)); exact Kd.R_mono HO_7.out (fun _ hk => ⟨trivial, hk⟩)) hg (.inl rfl)); have n1_ := Aside0.mk (hp_); have n2_ := Aside0.mk (blk_grown (g := gb110) (o := .cells #[.int .i64 ((rd_T51 l1 x28_1).f0), .int .i64 ((rd_T51 l1 x28_1).f1), .int .i64 ((rd_T51 l1 x28_1).f2)] 51 (0, 0)) (by (with_reducible repeat (fail)); exact BK110.out) hg (Kd.R_ne HO_8.out BK110.out (by decide))); have n3_ := Aside0.mk ((by rw [hw]; exact below_set (HB.out) GB22.out : Below w6.heap.size w6 w32)); clear HO_7; clear HO_8; clear BK110; clear HB; have HO_7 := n0_; have HO_8 := n1_; have BK110 := n2_; have HB := n3_; clear n0_ n1_ n2_ n3_; clear hg hw hp_))
            go_roundg k1
            case measure => have := HK1.out; omega
            case rel => exact ⟨(y114), (y115), (wrap64 (x28_1 + 1)), (by rfl), H', ⟨by have := HK1.out; omega⟩, ⟨by (with_reducible repeat (fail)); exact Kd.R_mono HO_7.out (fun _ hk => hk.2)⟩, ⟨by (with_reducible repeat (fail)); exact HO_8.out⟩, ⟨by repeat ((with_reducible exact HB.out))⟩⟩
           ·rw [if_neg c21] at H
            exact absurd H (by simp)
          ·rw [if_neg c19] at H
           exact absurd H (by simp)
         ·rw [if_neg c18] at H
          exact absurd H (by simp)
        ·replace c17 := Bool.eq_false_iff.mpr c17
         subst c17
         have H1 : (shift_EndsP.l0 k1 l0 x7_1 x8_1 l1 (l1.length : Int) (wrap64 (x28_1 + 1))) = some r := by rw [if_neg (show ¬ (false = true) by decide)] at H; exact H
         clear H
         have H := H1
         clear H1
         have H' := Aside0.mk H
         clear H
         have p109 : 0 ≤ (x28_1 : Int) := of_decide_eq_true (by (with_reducible assumption))
         have q109 : x28_1 < (l1.length : Int) := of_decide_eq_true (by (with_reducible assumption))
         obtain ⟨ad109, e109, hx109_0, hx109_1, hx109_2⟩ := at_T51 HR1.out x28_1 p109 q109
         cases e109
         replace hx109_0 := (HB.out.cell (World.block_lt_of_cell? w6 _ hx109_0)).trans hx109_0
         replace hx109_1 := (HB.out.cell (World.block_lt_of_cell? w6 _ hx109_1)).trans hx109_1
         replace hx109_2 := (HB.out.cell (World.block_lt_of_cell? w6 _ hx109_2)).trans hx109_2
         replace p109 := eq_true p109
         replace q109 := eq_true q109
         go_wp2_with (first | ((with_reducible refine gate_dst (N := 10) rfl ?_); refine box_event ?hg (N := 10) ?hd (cs := #[.int .i64 0, .int .i64 0, .int .i64 0]) (t := 51) ?hr ?_; (case hd => rfl); (case hg => rfl); (case hr => (go_simp; done)); intro gb110 hg w33 hbox hb; have n0_ := Aside0.mk (Kd.R_below (by (with_reducible repeat (fail)); exact HO_7.out) hb); have n1_ := Aside0.mk (Kd.R_below (by (with_reducible repeat (fail)); exact HO_8.out) hb); have n2_ := Aside0.mk (below_step (by repeat ((with_reducible exact HB.out))) hb); have n3_ := Aside0.mk (hbox); have n4_ := Aside0.mk ((by rw [hg]; exact (below_size (by repeat ((with_reducible exact HB.out)))) : w6.heap.size ≤ gb110)); have n5_ := Aside0.mk ((by rw [hg]; exact (below_size (by repeat ((with_reducible exact HB.out)))) : w6.heap.size ≤ gb110)); clear HO_7; clear HO_8; clear HB; have HO_7 := n0_; have HO_8 := n1_; have HB := n2_; have BK110 := n3_; have GW110 := n4_; have GE110 := n5_; clear n0_ n1_ n2_ n3_ n4_ n5_; clear hb hbox hg; have hcz34_0 : w33.cell? ⟨gb110, 0, none⟩ = some (.int .i64 0) := (blk_cell BK110.out 0).trans rfl; have hcz34_1 : w33.cell? ⟨gb110, 1, none⟩ = some (.int .i64 0) := (blk_cell BK110.out 1).trans rfl; have hcz34_2 : w33.cell? ⟨gb110, 2, none⟩ = some (.int .i64 0) := (blk_cell BK110.out 2).trans rfl; have hfz34_0 := blk_frozen BK110.out 0; have hfz34_1 := blk_frozen BK110.out 1; have hfz34_2 := blk_frozen BK110.out 2) | (at_lookup; refine look_event (l0 := l0) _ rfl _ _ rfl BM _ DM rfl (HMX.out.2.2.1.kept (grown_of_below (by repeat ((with_reducible first | exact HB.out | refine below_set ?_ GE110.out))) none) (by simp)) HMX.out.2.2.2 ((rd_T51 l1 x28_1).f0) rfl t111 false A16.out ?_; intro w35 hb; have n0_ := Aside0.mk (Kd.R_below (by (with_reducible repeat (fail)); exact (Kd.R_mono (Kd.R_far (p := ⟨gb110, 2, none⟩) (Kd.R_far (p := ⟨gb110, 1, none⟩) (Kd.R_far (p := ⟨gb110, 0, none⟩) (Kd.R_types HO_7.out BK110.out (by decide)) (fun _ hk => hk.2) (.int .i64 ((rd_T51 l1 x28_1).f0))) (fun _ hk => hk.2) (.int .i64 ((rd_T51 l1 x28_1).f1))) (fun _ hk => hk.2) (.int .i64 ((rd_T51 l1 x28_1).f2))) (fun _ h_ => h_.1))) hb); have n1_ := Aside0.mk (Kd.R_below (by (with_reducible repeat (fail)); exact (Kd.R_mono (Kd.R_far (p := ⟨gb110, 2, none⟩) (Kd.R_far (p := ⟨gb110, 1, none⟩) (Kd.R_far (p := ⟨gb110, 0, none⟩) (Kd.R_types HO_8.out BK110.out (by decide)) (fun _ hk => hk.2) (.int .i64 ((rd_T51 l1 x28_1).f0))) (fun _ hk => hk.2) (.int .i64 ((rd_T51 l1 x28_1).f1))) (fun _ hk => hk.2) (.int .i64 ((rd_T51 l1 x28_1).f2))) (fun _ h_ => h_.1))) hb); have n2_ := Aside0.mk (blk_below (g := gb110) (o := .cells #[.int .i64 ((rd_T51 l1 x28_1).f0), .int .i64 ((rd_T51 l1 x28_1).f1), .int .i64 ((rd_T51 l1 x28_1).f2)] 51 (0, 0)) (by (with_reducible repeat (fail)); refine blk_put (cs := #[.int .i64 ((rd_T51 l1 x28_1).f0), .int .i64 ((rd_T51 l1 x28_1).f1), .int .i64 0]) ?_ 2 _ rfl; (with_reducible repeat (fail)); refine blk_put (cs := #[.int .i64 ((rd_T51 l1 x28_1).f0), .int .i64 0, .int .i64 0]) ?_ 1 _ rfl; (with_reducible repeat (fail)); refine blk_put (cs := #[.int .i64 0, .int .i64 0, .int .i64 0]) ?_ 0 _ rfl; (with_reducible repeat (fail)); exact BK110.out) hb); have n3_ := Aside0.mk (below_step (by repeat ((with_reducible first | exact HB.out | refine below_set ?_ GE110.out))) hb); clear HO_7; clear HO_8; clear BK110; clear HB; have HO_7 := n0_; have HO_8 := n1_; have BK110 := n2_; have HB := n3_; clear n0_ n1_ n2_ n3_; (try clear hb); (try clear hb2); (try clear hk); (try clear hi)))
         go_roundg k1
         case measure => have := HK1.out; omega
         case rel => exact ⟨(x7_1), (x8_1), (wrap64 (x28_1 + 1)), (by rfl), H', ⟨by have := HK1.out; omega⟩, ⟨by (with_reducible repeat (fail)); exact HO_7.out⟩, ⟨by (with_reducible repeat (fail)); exact HO_8.out⟩, ⟨by repeat ((with_reducible exact HB.out))⟩⟩
       ·rw [if_neg c15] at H
        exact absurd H (by simp)
      ·rw [if_neg c14] at H
       exact absurd H (by simp)
     ·rw [if_neg c13] at H
      have c13b0 : decide (x28_1 < (l1.length : Int)) = false := decide_eq_false c13
      clear c13
      have H' := Aside0.mk H
      clear H
      go_wp2
      go_loopg [59] k1 (fun kq v59 w' => ∃ (x8_2 : List Int) (x59_2 : Int), v59 = .int .i64 x59_2 ∧ Aside0 (shift_EndsP.l1 kq x7_1 x8_2 l0 (l0.length : Int) x59_2 = some r) ∧ Aside0 (kq ≤ k1) ∧ Aside0 (Kd.R (Kd.int .i64) 3 w' w6.heap.size (fun k_ => some k_ ≠ (v107 : Value).ownBlock) v104 x7_1) ∧ Aside0 (Kd.R (Kd.int .i64) 3 w' w6.heap.size (fun k_ => some k_ ≠ (v104 : Value).ownBlock) v107 x8_2) ∧ Aside0 (Below w6.heap.size w6 w'))
      case atStart => exact ⟨(x8_1), (0), (by rfl), H', ⟨Nat.le_refl _⟩, ⟨by (with_reducible repeat (fail)); exact HO_7.out⟩, ⟨by (with_reducible repeat (fail)); exact HO_8.out⟩, ⟨by repeat ((with_reducible exact HB.out))⟩⟩
      case round =>
       clear H'
       try clear c1
       try clear p1
       try clear q1
       try clear hx1
       try clear c2
       try clear p2
       try clear q2
       try clear hx2
       try clear hf2
       try clear c4
       try clear c4b0
       try clear c4b1
       try clear c5
       try clear c5b0
       try clear c5b1
       try clear p6
       try clear c9
       try clear p10
       try clear q10
       try clear hx10
       try clear p11
       try clear q11
       try clear hx11
       try clear c13
       try clear c13b0
       try clear c14
       try clear c14b0
       try clear c15
       try clear c15b0
       try clear c17
       try clear c18
       try clear c18b0
       try clear c19
       try clear c19b0
       try clear p20
       try clear q20
       try clear hx20
       try clear hf20
       try clear c21
       try clear c21b0
       try clear c22
       try clear p22
       try clear q22
       try clear hx22
       try clear hf22
       try clear c26
       try clear hcz24_0
       try clear hcz24_1
       try clear hcz24_2
       try clear hcz30_0
       try clear hcz30_1
       try clear hcz30_2
       try clear hcz34_0
       try clear hcz34_1
       try clear hcz34_2
       try clear hfz24_0
       try clear hfz24_1
       try clear hfz24_2
       try clear hfz30_0
       try clear hfz30_1
       try clear hfz30_2
       try clear hfz34_0
       try clear hfz34_1
       try clear hfz34_2
       try clear hx109_0
       try clear hx109_1
       try clear hx109_2
       try clear hx113_0
       try clear hx20_0
       try clear hx22_0
       try clear p109
       try clear p113
       try clear p2
       try clear p20
       try clear p22
       try clear q109
       try clear q113
       try clear q20
       try clear q22
       obtain ⟨x8_2, x59_2, rfl, HA, HK2, HO_7, HO_8, HB⟩ := hrel
       cases gk with
       | zero => exact absurd HA.out (by simp [shift_EndsP.l1])
       | succ k2 =>
        have H := HA.out
        clear HA
        simp only [shift_EndsP.l1] at H
        by_cases c36 : x59_2 < (l0.length : Int)
        ·rw [if_pos c36] at H
         have c36b0 : decide (x59_2 < (l0.length : Int)) = true := decide_eq_true c36
         clear c36
         by_cases c37 : 0 ≤ x59_2
         ·rw [if_pos c37] at H
          have c37b0 : decide (0 ≤ x59_2) = true := decide_eq_true c37
          clear c37
          by_cases c38 : x59_2 < (l0.length : Int)
          ·rw [if_pos c38] at H
           have c38b0 : decide (x59_2 < (l0.length : Int)) = true := decide_eq_true c38
           clear c38
           by_cases c39 : x59_2 < (x7_1.length : Int)
           ·rw [if_pos c39] at H
            have c39b0 : decide (x59_2 < (x7_1.length : Int)) = true := decide_eq_true c39
            clear c39
            by_cases c40 : (rd x7_1 x59_2) < ((rd_T45 l0 x59_2).f3)
            ·rw [if_pos c40] at H
             have c40b0 : decide ((rd x7_1 x59_2) < ((rd_T45 l0 x59_2).f3)) = true := decide_eq_true c40
             clear c40
             by_cases c41 : x59_2 < (x8_2.length : Int)
             ·rw [if_pos c41] at H
              have c41b0 : decide (x59_2 < (x8_2.length : Int)) = true := decide_eq_true c41
              clear c41
              obtain ⟨y119, hy119⟩ : ∃ y_ : List Int, y_ = (x8_2.set (x59_2 : Int).toNat (-1)) := ⟨_, rfl⟩
              replace H : (shift_EndsP.l1 k2 x7_1 y119 l0 (l0.length : Int) (wrap64 (x59_2 + 1))) = some r := by (rw [hy119]; with_reducible exact H)
              have Ny119 := Aside0.mk hy119
              clear hy119
              have H' := Aside0.mk H
              clear H
              have p116 : 0 ≤ (x59_2 : Int) := of_decide_eq_true (by (with_reducible assumption))
              have q116 : x59_2 < (l0.length : Int) := of_decide_eq_true (by (with_reducible assumption))
              obtain ⟨ad116, e116, hx116_0, hx116_1, hx116_2, hx116_3⟩ := at_T45 HR0.out x59_2 p116 q116
              cases e116
              replace hx116_0 := (HB.out.cell (World.block_lt_of_cell? w6 _ hx116_0)).trans hx116_0
              replace hx116_1 := (HB.out.cell (World.block_lt_of_cell? w6 _ hx116_1)).trans hx116_1
              replace hx116_2 := (HB.out.cell (World.block_lt_of_cell? w6 _ hx116_2)).trans hx116_2
              replace hx116_3 := (HB.out.cell (World.block_lt_of_cell? w6 _ hx116_3)).trans hx116_3
              replace p116 := eq_true p116
              replace q116 := eq_true q116
              try go_wp2_with (((with_reducible refine gate_dst (N := 14) rfl ?_); refine box_event ?hg (N := 14) ?hd (cs := #[.int .i64 0, .int .i64 0, .int .i64 0, .int .i64 0]) (t := 45) ?hr ?_; (case hd => rfl); (case hg => rfl); (case hr => (go_simp; done)); intro gb117 hg w43 hbox hb; have n0_ := Aside0.mk (Kd.R_below (by (with_reducible repeat (fail)); exact HO_7.out) hb); have n1_ := Aside0.mk (Kd.R_below (by (with_reducible repeat (fail)); exact HO_8.out) hb); have n2_ := Aside0.mk (below_step (by repeat ((with_reducible exact HB.out))) hb); have n3_ := Aside0.mk (hbox); have n4_ := Aside0.mk ((by rw [hg]; exact (below_size (by repeat ((with_reducible exact HB.out)))) : w6.heap.size ≤ gb117)); have n5_ := Aside0.mk ((by rw [hg]; exact (below_size (by repeat ((with_reducible exact HB.out)))) : w6.heap.size ≤ gb117)); clear HO_7; clear HO_8; clear HB; have HO_7 := n0_; have HO_8 := n1_; have HB := n2_; have BK117 := n3_; have GW117 := n4_; have GE117 := n5_; clear n0_ n1_ n2_ n3_ n4_ n5_; clear hb hbox hg; have hcz44_0 : w43.cell? ⟨gb117, 0, none⟩ = some (.int .i64 0) := (blk_cell BK117.out 0).trans rfl; have hcz44_1 : w43.cell? ⟨gb117, 1, none⟩ = some (.int .i64 0) := (blk_cell BK117.out 1).trans rfl; have hcz44_2 : w43.cell? ⟨gb117, 2, none⟩ = some (.int .i64 0) := (blk_cell BK117.out 2).trans rfl; have hcz44_3 : w43.cell? ⟨gb117, 3, none⟩ = some (.int .i64 0) := (blk_cell BK117.out 3).trans rfl; have hfz44_0 := blk_frozen BK117.out 0; have hfz44_1 := blk_frozen BK117.out 1; have hfz44_2 := blk_frozen BK117.out 2; have hfz44_3 := blk_frozen BK117.out 3))
              have n0_ : Aside0 (Kd.R (Kd.int .i64) 3 ((((w43.setCell ⟨gb117, 0, none⟩ (.int .i64 ((rd_T45 l0 x59_2).f0))).setCell ⟨gb117, 1, none⟩ (.int .i64 ((rd_T45 l0 x59_2).f1))).setCell ⟨gb117, 2, none⟩ (.int .i64 ((rd_T45 l0 x59_2).f2))).setCell ⟨gb117, 3, none⟩ (.int .i64 ((rd_T45 l0 x59_2).f3))) w6.heap.size (fun k_ => some k_ ≠ (v107 : Value).ownBlock) v104 x7_1) := ⟨by (with_reducible repeat (fail)); exact Kd.R_mono (Kd.R_far (p := ⟨gb117, 3, none⟩) (Kd.R_far (p := ⟨gb117, 2, none⟩) (Kd.R_far (p := ⟨gb117, 1, none⟩) (Kd.R_far (p := ⟨gb117, 0, none⟩) (Kd.R_types HO_7.out BK117.out (by decide)) (fun _ hk => hk.2) (.int .i64 ((rd_T45 l0 x59_2).f0))) (fun _ hk => hk.2) (.int .i64 ((rd_T45 l0 x59_2).f1))) (fun _ hk => hk.2) (.int .i64 ((rd_T45 l0 x59_2).f2))) (fun _ hk => hk.2) (.int .i64 ((rd_T45 l0 x59_2).f3))) (fun _ hk => hk.1)⟩
              have n1_ : Aside0 (Kd.R (Kd.int .i64) 3 ((((w43.setCell ⟨gb117, 0, none⟩ (.int .i64 ((rd_T45 l0 x59_2).f0))).setCell ⟨gb117, 1, none⟩ (.int .i64 ((rd_T45 l0 x59_2).f1))).setCell ⟨gb117, 2, none⟩ (.int .i64 ((rd_T45 l0 x59_2).f2))).setCell ⟨gb117, 3, none⟩ (.int .i64 ((rd_T45 l0 x59_2).f3))) w6.heap.size (fun k_ => some k_ ≠ (v104 : Value).ownBlock) v107 x8_2) := ⟨by (with_reducible repeat (fail)); exact Kd.R_mono (Kd.R_far (p := ⟨gb117, 3, none⟩) (Kd.R_far (p := ⟨gb117, 2, none⟩) (Kd.R_far (p := ⟨gb117, 1, none⟩) (Kd.R_far (p := ⟨gb117, 0, none⟩) (Kd.R_types HO_8.out BK117.out (by decide)) (fun _ hk => hk.2) (.int .i64 ((rd_T45 l0 x59_2).f0))) (fun _ hk => hk.2) (.int .i64 ((rd_T45 l0 x59_2).f1))) (fun _ hk => hk.2) (.int .i64 ((rd_T45 l0 x59_2).f2))) (fun _ hk => hk.2) (.int .i64 ((rd_T45 l0 x59_2).f3))) (fun _ hk => hk.1)⟩
              have n2_ : Aside0 (((((w43.setCell ⟨gb117, 0, none⟩ (.int .i64 ((rd_T45 l0 x59_2).f0))).setCell ⟨gb117, 1, none⟩ (.int .i64 ((rd_T45 l0 x59_2).f1))).setCell ⟨gb117, 2, none⟩ (.int .i64 ((rd_T45 l0 x59_2).f2))).setCell ⟨gb117, 3, none⟩ (.int .i64 ((rd_T45 l0 x59_2).f3))).heap[gb117]? = some (.cells #[.int .i64 ((rd_T45 l0 x59_2).f0), .int .i64 ((rd_T45 l0 x59_2).f1), .int .i64 ((rd_T45 l0 x59_2).f2), .int .i64 ((rd_T45 l0 x59_2).f3)] 45 (0, 0))) := ⟨by (with_reducible repeat (fail)); refine blk_put (cs := #[.int .i64 ((rd_T45 l0 x59_2).f0), .int .i64 ((rd_T45 l0 x59_2).f1), .int .i64 ((rd_T45 l0 x59_2).f2), .int .i64 0]) ?_ 3 _ rfl; (with_reducible repeat (fail)); refine blk_put (cs := #[.int .i64 ((rd_T45 l0 x59_2).f0), .int .i64 ((rd_T45 l0 x59_2).f1), .int .i64 0, .int .i64 0]) ?_ 2 _ rfl; (with_reducible repeat (fail)); refine blk_put (cs := #[.int .i64 ((rd_T45 l0 x59_2).f0), .int .i64 0, .int .i64 0, .int .i64 0]) ?_ 1 _ rfl; (with_reducible repeat (fail)); refine blk_put (cs := #[.int .i64 0, .int .i64 0, .int .i64 0, .int .i64 0]) ?_ 0 _ rfl; (with_reducible repeat (fail)); exact BK117.out⟩
              have n3_ : Aside0 (Below w6.heap.size w6 ((((w43.setCell ⟨gb117, 0, none⟩ (.int .i64 ((rd_T45 l0 x59_2).f0))).setCell ⟨gb117, 1, none⟩ (.int .i64 ((rd_T45 l0 x59_2).f1))).setCell ⟨gb117, 2, none⟩ (.int .i64 ((rd_T45 l0 x59_2).f2))).setCell ⟨gb117, 3, none⟩ (.int .i64 ((rd_T45 l0 x59_2).f3)))) := ⟨by repeat ((with_reducible first | exact HB.out | refine below_set ?_ GE117.out))⟩
              (try clear HO_7)
              (try clear HO_8)
              (try clear BK117)
              (try clear HB)
              generalize ((((w43.setCell ⟨gb117, 0, none⟩ (.int .i64 ((rd_T45 l0 x59_2).f0))).setCell ⟨gb117, 1, none⟩ (.int .i64 ((rd_T45 l0 x59_2).f1))).setCell ⟨gb117, 2, none⟩ (.int .i64 ((rd_T45 l0 x59_2).f2))).setCell ⟨gb117, 3, none⟩ (.int .i64 ((rd_T45 l0 x59_2).f3))) = w45 at n0_ n1_ n2_ n3_ ⊢
              have HO_7 := n0_
              have HO_8 := n1_
              have BK117 := n2_
              have HB := n3_
              clear n0_ n1_ n2_ n3_
              have n0_ := Aside0.mk (Kd.R_drew HO_7.out)
              have n1_ := Aside0.mk (Kd.R_drew HO_8.out)
              have n2_ := Aside0.mk (blk_drew BK117.out)
              have n3_ := Aside0.mk (below_drew1 HB.out)
              clear HO_7
              clear HO_8
              clear BK117
              clear HB
              have HO_7 := n0_
              have HO_8 := n1_
              have BK117 := n2_
              have HB := n3_
              clear n0_ n1_ n2_ n3_
              obtain ⟨Ao47, co47, eo47⟩ := Kd.R_slice HO_7.out
              (subst eo47)
              have p118 : 0 ≤ (x59_2 : Int) := of_decide_eq_true (by (with_reducible assumption))
              have q118 : x59_2 < (x7_1.length : Int) := of_decide_eq_true (by (with_reducible assumption))
              obtain ⟨ad118, e118, hx118_0⟩ := Kd.at_int (Kd.R_reads' HO_7.out).2.2 x59_2 p118 q118
              cases e118
              replace p118 := eq_true p118
              replace q118 := eq_true q118
              refine start_ (n := 7) (S := fun w' => w'.cell? ⟨gb117, 0, none⟩ = some (.int .i64 ((rd_T45 l0 x59_2).f0)) ∧ w'.cell? ⟨gb117, 1, none⟩ = some (.int .i64 ((rd_T45 l0 x59_2).f1)) ∧ w'.cell? ⟨gb117, 2, none⟩ = some (.int .i64 ((rd_T45 l0 x59_2).f2)) ∧ w'.cell? ⟨gb117, 3, none⟩ = some (.int .i64 ((rd_T45 l0 x59_2).f3)) ∧ w'.cell? (ad118.add (x59_2).toNat) = some (.int .i64 (rd x7_1 x59_2))) (ds := []) #[false, false, false, false, false, false, false] (by kernel_rfl) rfl rfl ⟨(blk_cell BK117.out 0).trans rfl, (blk_cell BK117.out 1).trans rfl, (blk_cell BK117.out 2).trans rfl, (blk_cell BK117.out 3).trans rfl, hx118_0⟩ (fun hHeld => ?_)
              generalize w45.drew = w46 at HO_7 HO_8 BK117 HB hx118_0 hHeld ⊢
              refine pure_ (i := 0) (N := some 64) (v := ?_) (a' := ?_) #[true, false, false, false, false, false, false] rfl rfl (by kernel_rfl) (fun _ _ _ h => h) (Or.inl ⟨by rfl, ?_⟩) ?_ ?_
              rotate_left
              ·intro w'
               go_simp
               with_reducible rfl
              rotate_left
              ·simp only [Act.put, List.setIfInBounds_toArray, List.set_cons_zero, List.set_cons_succ, i64_w, i32_w]
               rfl
              refine pure_ (i := 1) (N := some 65) (v := ?_) (a' := ?_) #[true, true, false, false, false, false, false] rfl rfl (by kernel_rfl) (fun _ _ _ h => h) (Or.inl ⟨by rfl, ?_⟩) ?_ ?_
              rotate_left
              ·intro w'
               go_simp
               with_reducible rfl
              rotate_left
              ·simp only [Act.put, List.setIfInBounds_toArray, List.set_cons_zero, List.set_cons_succ, i64_w, i32_w]
               rfl
              refine pure_ (i := 2) (N := some 66) (v := ?_) (a' := ?_) #[true, true, true, false, false, false, false] rfl rfl (by kernel_rfl) (fun _ _ _ h => h) (Or.inl ⟨by rfl, ?_⟩) ?_ ?_
              rotate_left
              ·intro w'
               go_simp
               with_reducible rfl
              rotate_left
              ·simp only [Act.put, List.setIfInBounds_toArray, List.set_cons_zero, List.set_cons_succ, i64_w, i32_w]
               rfl
              refine pure_ (i := 4) (N := some 68) (v := ?_) (a' := ?_) #[true, true, true, false, true, false, false] rfl rfl (by kernel_rfl) (fun _ _ _ h => h) (Or.inl ⟨by rfl, ?_⟩) ?_ ?_
              rotate_left
              ·intro w'
               go_simp
               with_reducible rfl
              rotate_left
              ·simp only [Act.put, List.setIfInBounds_toArray, List.set_cons_zero, List.set_cons_succ, i64_w, i32_w]
               rfl
              refine take_ (i := 3) (N := some 67) (v := ?_) (a' := ?_) #[true, true, true, true, true, false, false] rfl rfl (by kernel_rfl) (fun _ _ _ h => h) (Or.inl ⟨by rfl, ?_⟩) hHeld ?_ ?_
              rotate_left
              ·rintro w' ⟨s0, s1, s2, s3, s4⟩
               go_simp
               with_reducible rfl
              rotate_left
              ·simp only [Act.put, List.setIfInBounds_toArray, List.set_cons_zero, List.set_cons_succ, i64_w, i32_w]
               rfl
              refine take_ (i := 5) (N := some 69) (v := ?_) (a' := ?_) #[true, true, true, true, true, true, false] rfl rfl (by kernel_rfl) (fun _ _ _ h => h) (Or.inl ⟨by rfl, ?_⟩) hHeld ?_ ?_
              rotate_left
              ·rintro w' ⟨s0, s1, s2, s3, s4⟩
               go_simp
               with_reducible rfl
              rotate_left
              ·simp only [Act.put, List.setIfInBounds_toArray, List.set_cons_zero, List.set_cons_succ, i64_w, i32_w]
               rfl
              refine pure_ (i := 6) (N := some 70) (v := ?_) (a' := ?_) #[true, true, true, true, true, true, true] rfl rfl (by kernel_rfl) (fun _ _ _ h => h) (Or.inl ⟨by rfl, ?_⟩) ?_ ?_
              rotate_left
              ·intro w'
               go_simp
               with_reducible rfl
              rotate_left
              ·simp only [Act.put, List.setIfInBounds_toArray, List.set_cons_zero, List.set_cons_succ, i64_w, i32_w]
               rfl
              refine done_ (by kernel_rfl) ?_
              have p42 : 0 ≤ (x59_2 : Int) := of_decide_eq_true (by (with_reducible assumption))
              have q42 : (x59_2 : Int) < ((x8_2.length : Int) : Int) := of_decide_eq_true (by (with_reducible assumption))
              obtain ⟨go42, co42, eo42, gb42, gl42, cl42, HG42⟩ := Kd.R_form HO_8.out (by omega)
              (cases eo42)
              have GB42 := Aside0.mk gb42
              have GG42 := Aside0.mk HG42
              clear gb42 gl42 HG42
              obtain ⟨hx42_0, hf42_0⟩ := Kd.R_celln 0 HO_8.out (x59_2 : Int) p42 q42
              replace p42 := eq_true p42
              replace q42 := eq_true q42
              obtain ⟨hy48_, hz48_⟩ := Kd.R_celln 0 HO_8.out (x59_2 : Int) (of_decide_eq_true (by (with_reducible assumption))) (of_decide_eq_true (by (with_reducible assumption)))
              have HP48 := Kd.R_putg HO_8.out (x59_2 : Int) (-1)
              try go_wp2_with (((with_reducible refine gate_store (t := 3) (p := 73) rfl ?_); refine store_event (t := 3) (p := 73) (v := ?vo_w49) (w1 := (w46.setCell ⟨go42, (x59_2 : Int).toNat, none⟩ (.int .i64 (-1)))) ?hg ?ho ?hn ?hr ?_; (case ho => rfl); (case hg => rfl); (case hn => rfl); (case hr => (go_simp; done)); intro w49 hw; have hg : w46.grownBy w49 (some go42) := (by rw [hw]; exact HP48.2); have hp_ : Kd.R (Kd.int .i64) 3 w49 w6.heap.size (fun k_ => some k_ ≠ (.slice (some ad118) x7_1.length co47 : Value).ownBlock) (.slice (some ⟨go42, 0, none⟩) x8_2.length co42) y119 := (by rw [hw, Ny119.out]; exact HP48.1); clear HP48; have n0_ := Aside0.mk (Kd.R_after (v := (.slice (some ⟨go42, 0, none⟩) x8_2.length co42)) (v1 := (.slice (some ⟨go42, 0, none⟩) x8_2.length co42)) (ok := (fun _ => True)) (by (with_reducible repeat (fail)); exact Kd.R_mono HO_7.out (fun _ hk => ⟨trivial, hk⟩)) hg (.inl rfl)); have n1_ := Aside0.mk (hp_); have n2_ := Aside0.mk (blk_grown (g := gb117) (o := .cells #[.int .i64 ((rd_T45 l0 x59_2).f0), .int .i64 ((rd_T45 l0 x59_2).f1), .int .i64 ((rd_T45 l0 x59_2).f2), .int .i64 ((rd_T45 l0 x59_2).f3)] 45 (0, 0)) (by (with_reducible repeat (fail)); exact BK117.out) hg (Kd.R_ne HO_8.out BK117.out (by decide))); have n3_ := Aside0.mk ((by rw [hw]; exact below_set (HB.out) GB42.out : Below w6.heap.size w6 w49)); clear HO_7; clear HO_8; clear BK117; clear HB; have HO_7 := n0_; have HO_8 := n1_; have BK117 := n2_; have HB := n3_; clear n0_ n1_ n2_ n3_; clear hg hw hp_))
              go_roundg k2
              case measure => have := HK1.out; have := HK2.out; omega
              case rel => exact ⟨(y119), (wrap64 (x59_2 + 1)), (by rfl), H', ⟨by have := HK1.out; have := HK2.out; omega⟩, ⟨by (with_reducible repeat (fail)); exact Kd.R_mono HO_7.out (fun _ hk => hk.2)⟩, ⟨by (with_reducible repeat (fail)); exact HO_8.out⟩, ⟨by repeat ((with_reducible exact HB.out))⟩⟩
             ·rw [if_neg c41] at H
              exact absurd H (by simp)
            ·rw [if_neg c40] at H
             have c40b0 : decide ((rd x7_1 x59_2) < ((rd_T45 l0 x59_2).f3)) = false := decide_eq_false c40
             clear c40
             have H' := Aside0.mk H
             clear H
             have p116 : 0 ≤ (x59_2 : Int) := of_decide_eq_true (by (with_reducible assumption))
             have q116 : x59_2 < (l0.length : Int) := of_decide_eq_true (by (with_reducible assumption))
             obtain ⟨ad116, e116, hx116_0, hx116_1, hx116_2, hx116_3⟩ := at_T45 HR0.out x59_2 p116 q116
             cases e116
             replace hx116_0 := (HB.out.cell (World.block_lt_of_cell? w6 _ hx116_0)).trans hx116_0
             replace hx116_1 := (HB.out.cell (World.block_lt_of_cell? w6 _ hx116_1)).trans hx116_1
             replace hx116_2 := (HB.out.cell (World.block_lt_of_cell? w6 _ hx116_2)).trans hx116_2
             replace hx116_3 := (HB.out.cell (World.block_lt_of_cell? w6 _ hx116_3)).trans hx116_3
             replace p116 := eq_true p116
             replace q116 := eq_true q116
             try go_wp2_with (((with_reducible refine gate_dst (N := 14) rfl ?_); refine box_event ?hg (N := 14) ?hd (cs := #[.int .i64 0, .int .i64 0, .int .i64 0, .int .i64 0]) (t := 45) ?hr ?_; (case hd => rfl); (case hg => rfl); (case hr => (go_simp; done)); intro gb117 hg w50 hbox hb; have n0_ := Aside0.mk (Kd.R_below (by (with_reducible repeat (fail)); exact HO_7.out) hb); have n1_ := Aside0.mk (Kd.R_below (by (with_reducible repeat (fail)); exact HO_8.out) hb); have n2_ := Aside0.mk (below_step (by repeat ((with_reducible exact HB.out))) hb); have n3_ := Aside0.mk (hbox); have n4_ := Aside0.mk ((by rw [hg]; exact (below_size (by repeat ((with_reducible exact HB.out)))) : w6.heap.size ≤ gb117)); have n5_ := Aside0.mk ((by rw [hg]; exact (below_size (by repeat ((with_reducible exact HB.out)))) : w6.heap.size ≤ gb117)); clear HO_7; clear HO_8; clear HB; have HO_7 := n0_; have HO_8 := n1_; have HB := n2_; have BK117 := n3_; have GW117 := n4_; have GE117 := n5_; clear n0_ n1_ n2_ n3_ n4_ n5_; clear hb hbox hg; have hcz51_0 : w50.cell? ⟨gb117, 0, none⟩ = some (.int .i64 0) := (blk_cell BK117.out 0).trans rfl; have hcz51_1 : w50.cell? ⟨gb117, 1, none⟩ = some (.int .i64 0) := (blk_cell BK117.out 1).trans rfl; have hcz51_2 : w50.cell? ⟨gb117, 2, none⟩ = some (.int .i64 0) := (blk_cell BK117.out 2).trans rfl; have hcz51_3 : w50.cell? ⟨gb117, 3, none⟩ = some (.int .i64 0) := (blk_cell BK117.out 3).trans rfl; have hfz51_0 := blk_frozen BK117.out 0; have hfz51_1 := blk_frozen BK117.out 1; have hfz51_2 := blk_frozen BK117.out 2; have hfz51_3 := blk_frozen BK117.out 3))
             have n0_ : Aside0 (Kd.R (Kd.int .i64) 3 ((((w50.setCell ⟨gb117, 0, none⟩ (.int .i64 ((rd_T45 l0 x59_2).f0))).setCell ⟨gb117, 1, none⟩ (.int .i64 ((rd_T45 l0 x59_2).f1))).setCell ⟨gb117, 2, none⟩ (.int .i64 ((rd_T45 l0 x59_2).f2))).setCell ⟨gb117, 3, none⟩ (.int .i64 ((rd_T45 l0 x59_2).f3))) w6.heap.size (fun k_ => some k_ ≠ (v107 : Value).ownBlock) v104 x7_1) := ⟨by (with_reducible repeat (fail)); exact Kd.R_mono (Kd.R_far (p := ⟨gb117, 3, none⟩) (Kd.R_far (p := ⟨gb117, 2, none⟩) (Kd.R_far (p := ⟨gb117, 1, none⟩) (Kd.R_far (p := ⟨gb117, 0, none⟩) (Kd.R_types HO_7.out BK117.out (by decide)) (fun _ hk => hk.2) (.int .i64 ((rd_T45 l0 x59_2).f0))) (fun _ hk => hk.2) (.int .i64 ((rd_T45 l0 x59_2).f1))) (fun _ hk => hk.2) (.int .i64 ((rd_T45 l0 x59_2).f2))) (fun _ hk => hk.2) (.int .i64 ((rd_T45 l0 x59_2).f3))) (fun _ hk => hk.1)⟩
             have n1_ : Aside0 (Kd.R (Kd.int .i64) 3 ((((w50.setCell ⟨gb117, 0, none⟩ (.int .i64 ((rd_T45 l0 x59_2).f0))).setCell ⟨gb117, 1, none⟩ (.int .i64 ((rd_T45 l0 x59_2).f1))).setCell ⟨gb117, 2, none⟩ (.int .i64 ((rd_T45 l0 x59_2).f2))).setCell ⟨gb117, 3, none⟩ (.int .i64 ((rd_T45 l0 x59_2).f3))) w6.heap.size (fun k_ => some k_ ≠ (v104 : Value).ownBlock) v107 x8_2) := ⟨by (with_reducible repeat (fail)); exact Kd.R_mono (Kd.R_far (p := ⟨gb117, 3, none⟩) (Kd.R_far (p := ⟨gb117, 2, none⟩) (Kd.R_far (p := ⟨gb117, 1, none⟩) (Kd.R_far (p := ⟨gb117, 0, none⟩) (Kd.R_types HO_8.out BK117.out (by decide)) (fun _ hk => hk.2) (.int .i64 ((rd_T45 l0 x59_2).f0))) (fun _ hk => hk.2) (.int .i64 ((rd_T45 l0 x59_2).f1))) (fun _ hk => hk.2) (.int .i64 ((rd_T45 l0 x59_2).f2))) (fun _ hk => hk.2) (.int .i64 ((rd_T45 l0 x59_2).f3))) (fun _ hk => hk.1)⟩
             have n2_ : Aside0 (((((w50.setCell ⟨gb117, 0, none⟩ (.int .i64 ((rd_T45 l0 x59_2).f0))).setCell ⟨gb117, 1, none⟩ (.int .i64 ((rd_T45 l0 x59_2).f1))).setCell ⟨gb117, 2, none⟩ (.int .i64 ((rd_T45 l0 x59_2).f2))).setCell ⟨gb117, 3, none⟩ (.int .i64 ((rd_T45 l0 x59_2).f3))).heap[gb117]? = some (.cells #[.int .i64 ((rd_T45 l0 x59_2).f0), .int .i64 ((rd_T45 l0 x59_2).f1), .int .i64 ((rd_T45 l0 x59_2).f2), .int .i64 ((rd_T45 l0 x59_2).f3)] 45 (0, 0))) := ⟨by (with_reducible repeat (fail)); refine blk_put (cs := #[.int .i64 ((rd_T45 l0 x59_2).f0), .int .i64 ((rd_T45 l0 x59_2).f1), .int .i64 ((rd_T45 l0 x59_2).f2), .int .i64 0]) ?_ 3 _ rfl; (with_reducible repeat (fail)); refine blk_put (cs := #[.int .i64 ((rd_T45 l0 x59_2).f0), .int .i64 ((rd_T45 l0 x59_2).f1), .int .i64 0, .int .i64 0]) ?_ 2 _ rfl; (with_reducible repeat (fail)); refine blk_put (cs := #[.int .i64 ((rd_T45 l0 x59_2).f0), .int .i64 0, .int .i64 0, .int .i64 0]) ?_ 1 _ rfl; (with_reducible repeat (fail)); refine blk_put (cs := #[.int .i64 0, .int .i64 0, .int .i64 0, .int .i64 0]) ?_ 0 _ rfl; (with_reducible repeat (fail)); exact BK117.out⟩
             have n3_ : Aside0 (Below w6.heap.size w6 ((((w50.setCell ⟨gb117, 0, none⟩ (.int .i64 ((rd_T45 l0 x59_2).f0))).setCell ⟨gb117, 1, none⟩ (.int .i64 ((rd_T45 l0 x59_2).f1))).setCell ⟨gb117, 2, none⟩ (.int .i64 ((rd_T45 l0 x59_2).f2))).setCell ⟨gb117, 3, none⟩ (.int .i64 ((rd_T45 l0 x59_2).f3)))) := ⟨by repeat ((with_reducible first | exact HB.out | refine below_set ?_ GE117.out))⟩
             (try clear HO_7)
             (try clear HO_8)
             (try clear BK117)
             (try clear HB)
             generalize ((((w50.setCell ⟨gb117, 0, none⟩ (.int .i64 ((rd_T45 l0 x59_2).f0))).setCell ⟨gb117, 1, none⟩ (.int .i64 ((rd_T45 l0 x59_2).f1))).setCell ⟨gb117, 2, none⟩ (.int .i64 ((rd_T45 l0 x59_2).f2))).setCell ⟨gb117, 3, none⟩ (.int .i64 ((rd_T45 l0 x59_2).f3))) = w52 at n0_ n1_ n2_ n3_ ⊢
             have HO_7 := n0_
             have HO_8 := n1_
             have BK117 := n2_
             have HB := n3_
             clear n0_ n1_ n2_ n3_
             have n0_ := Aside0.mk (Kd.R_drew HO_7.out)
             have n1_ := Aside0.mk (Kd.R_drew HO_8.out)
             have n2_ := Aside0.mk (blk_drew BK117.out)
             have n3_ := Aside0.mk (below_drew1 HB.out)
             clear HO_7
             clear HO_8
             clear BK117
             clear HB
             have HO_7 := n0_
             have HO_8 := n1_
             have BK117 := n2_
             have HB := n3_
             clear n0_ n1_ n2_ n3_
             obtain ⟨Ao54, co54, eo54⟩ := Kd.R_slice HO_7.out
             (subst eo54)
             have p118 : 0 ≤ (x59_2 : Int) := of_decide_eq_true (by (with_reducible assumption))
             have q118 : x59_2 < (x7_1.length : Int) := of_decide_eq_true (by (with_reducible assumption))
             obtain ⟨ad118, e118, hx118_0⟩ := Kd.at_int (Kd.R_reads' HO_7.out).2.2 x59_2 p118 q118
             cases e118
             replace p118 := eq_true p118
             replace q118 := eq_true q118
             refine start_ (n := 7) (S := fun w' => w'.cell? ⟨gb117, 0, none⟩ = some (.int .i64 ((rd_T45 l0 x59_2).f0)) ∧ w'.cell? ⟨gb117, 1, none⟩ = some (.int .i64 ((rd_T45 l0 x59_2).f1)) ∧ w'.cell? ⟨gb117, 2, none⟩ = some (.int .i64 ((rd_T45 l0 x59_2).f2)) ∧ w'.cell? ⟨gb117, 3, none⟩ = some (.int .i64 ((rd_T45 l0 x59_2).f3)) ∧ w'.cell? (ad118.add (x59_2).toNat) = some (.int .i64 (rd x7_1 x59_2))) (ds := []) #[false, false, false, false, false, false, false] (by kernel_rfl) rfl rfl ⟨(blk_cell BK117.out 0).trans rfl, (blk_cell BK117.out 1).trans rfl, (blk_cell BK117.out 2).trans rfl, (blk_cell BK117.out 3).trans rfl, hx118_0⟩ (fun hHeld => ?_)
             generalize w52.drew = w53 at HO_7 HO_8 BK117 HB hx118_0 hHeld ⊢
             refine pure_ (i := 0) (N := some 64) (v := ?_) (a' := ?_) #[true, false, false, false, false, false, false] rfl rfl (by kernel_rfl) (fun _ _ _ h => h) (Or.inl ⟨by rfl, ?_⟩) ?_ ?_
             rotate_left
             ·intro w'
              go_simp
              with_reducible rfl
             rotate_left
             ·simp only [Act.put, List.setIfInBounds_toArray, List.set_cons_zero, List.set_cons_succ, i64_w, i32_w]
              rfl
             refine pure_ (i := 1) (N := some 65) (v := ?_) (a' := ?_) #[true, true, false, false, false, false, false] rfl rfl (by kernel_rfl) (fun _ _ _ h => h) (Or.inl ⟨by rfl, ?_⟩) ?_ ?_
             rotate_left
             ·intro w'
              go_simp
              with_reducible rfl
             rotate_left
             ·simp only [Act.put, List.setIfInBounds_toArray, List.set_cons_zero, List.set_cons_succ, i64_w, i32_w]
              rfl
             refine pure_ (i := 2) (N := some 66) (v := ?_) (a' := ?_) #[true, true, true, false, false, false, false] rfl rfl (by kernel_rfl) (fun _ _ _ h => h) (Or.inl ⟨by rfl, ?_⟩) ?_ ?_
             rotate_left
             ·intro w'
              go_simp
              with_reducible rfl
             rotate_left
             ·simp only [Act.put, List.setIfInBounds_toArray, List.set_cons_zero, List.set_cons_succ, i64_w, i32_w]
              rfl
             refine pure_ (i := 4) (N := some 68) (v := ?_) (a' := ?_) #[true, true, true, false, true, false, false] rfl rfl (by kernel_rfl) (fun _ _ _ h => h) (Or.inl ⟨by rfl, ?_⟩) ?_ ?_
             rotate_left
             ·intro w'
              go_simp
              with_reducible rfl
             rotate_left
             ·simp only [Act.put, List.setIfInBounds_toArray, List.set_cons_zero, List.set_cons_succ, i64_w, i32_w]
              rfl
             refine take_ (i := 3) (N := some 67) (v := ?_) (a' := ?_) #[true, true, true, true, true, false, false] rfl rfl (by kernel_rfl) (fun _ _ _ h => h) (Or.inl ⟨by rfl, ?_⟩) hHeld ?_ ?_
             rotate_left
             ·rintro w' ⟨s0, s1, s2, s3, s4⟩
              go_simp
              with_reducible rfl
             rotate_left
             ·simp only [Act.put, List.setIfInBounds_toArray, List.set_cons_zero, List.set_cons_succ, i64_w, i32_w]
              rfl
             refine take_ (i := 5) (N := some 69) (v := ?_) (a' := ?_) #[true, true, true, true, true, true, false] rfl rfl (by kernel_rfl) (fun _ _ _ h => h) (Or.inl ⟨by rfl, ?_⟩) hHeld ?_ ?_
             rotate_left
             ·rintro w' ⟨s0, s1, s2, s3, s4⟩
              go_simp
              with_reducible rfl
             rotate_left
             ·simp only [Act.put, List.setIfInBounds_toArray, List.set_cons_zero, List.set_cons_succ, i64_w, i32_w]
              rfl
             refine pure_ (i := 6) (N := some 70) (v := ?_) (a' := ?_) #[true, true, true, true, true, true, true] rfl rfl (by kernel_rfl) (fun _ _ _ h => h) (Or.inl ⟨by rfl, ?_⟩) ?_ ?_
             rotate_left
             ·intro w'
              go_simp
              with_reducible rfl
             rotate_left
             ·simp only [Act.put, List.setIfInBounds_toArray, List.set_cons_zero, List.set_cons_succ, i64_w, i32_w]
              rfl
             refine done_ (by kernel_rfl) ?_
             try go_wp2
             go_roundg k2
             case measure => have := HK1.out; have := HK2.out; omega
             case rel => exact ⟨(x8_2), (wrap64 (x59_2 + 1)), (by rfl), H', ⟨by have := HK1.out; have := HK2.out; omega⟩, ⟨by (with_reducible repeat (fail)); exact HO_7.out⟩, ⟨by (with_reducible repeat (fail)); exact HO_8.out⟩, ⟨by repeat ((with_reducible exact HB.out))⟩⟩
           ·rw [if_neg c39] at H
            exact absurd H (by simp)
          ·rw [if_neg c38] at H
           exact absurd H (by simp)
         ·rw [if_neg c37] at H
          exact absurd H (by simp)
        ·rw [if_neg c36] at H
         have c36b0 : decide (x59_2 < (l0.length : Int)) = false := decide_eq_false c36
         clear c36
         obtain rfl := Option.some.inj H
         go_wp2
         go_ret
         exact end_lift HBW.out ⟨_, by rfl, by (with_reducible repeat (fail)); exact Kd.R_mono HO_8.out (fun _ hk => trivial), by repeat ((with_reducible exact HB.out))⟩
  ·rw [if_neg c5] at H
   exact absurd H (by simp)
 ·rw [if_neg c4] at H
  exact absurd H (by simp)
end Go.Proofs.Ytbnjdlafnejanaa.Pr
namespace Go.Proofs.Ytbnjdlafnejanaa.Pr
open Go.RowKit Go.Proofs.YtbnjdlafnejanaaW.PrintWords Go.Proofs.YtbnjdlafnejanaaW.PrintLast Go.Proofs.YtbnjdlafnejanaaW.PrintMore
theorem toL_next {l : List (S51)} {i : Int} (h0 : 0 ≤ i) (h : i < (l.length : Int)) : (l.map toL).take (i + 1).toNat = (l.map toL).take i.toNat ++ [toL (rd_T51 l i)] := by
  have hn : i.toNat < (l.map toL).length := by simp; omega
  have e : toL (rd_T51 l i) = (l.map toL)[i.toNat] := by
    have hn' : i.toNat < l.length := by omega
    simp [rd_T51, hn']
  rw [show (i + 1).toNat = i.toNat + 1 by omega, List.take_succ_eq_append_getElem hn, e]
theorem rd51_mem {l : List (S51)} {i : Int} (h0 : 0 ≤ i) (h : i < (l.length : Int)) : rd_T51 l i ∈ l := by
  have hn : i.toNat < l.length := by omega
  unfold rd_T51
  rw [List.getD_eq_getElem?_getD, List.getElem?_eq_getElem hn]
  exact List.getElem_mem hn
/-- The row of what f tells of each job. -/
def rowOf (l0 : List (S45)) (f : Sh.Job → Int) : List Int := (l0.map toJ).map f
theorem rowOf_len (l0 : List (S45)) (f : Sh.Job → Int) : (rowOf l0 f).length = l0.length := by simp [rowOf]
theorem rowOf_rd {l0 : List (S45)} {f : Sh.Job → Int} {i : Int} (h0 : 0 ≤ i) (h : i < (l0.length : Int)) : rd (rowOf l0 f) i = f (toJ (rd_T45 l0 i)) := by
  have hn : i.toNat < l0.length := by omega
  simp [rd, rowOf, rd_T45, hn]
theorem rowOf_set {l0 : List (S45)} {f g : Sh.Job → Int} {k : Nat} (hk : k < l0.length) (hJ : Sh.VJ (l0.map toJ)) {v : Int} (h1 : g (toJ l0[k]) = v) (h2 : ∀ x, x.id ≠ (toJ l0[k]).id → g x = f x) :
    (rowOf l0 f).set k v = rowOf l0 g := by
  apply List.ext_getElem
  · simp [rowOf]
  · intro i hi hi2
    have hil : i < l0.length := by simpa [rowOf] using hi2
    by_cases e : k = i
    · subst e
      rw [List.getElem_set_self]
      simp [rowOf, h1]
    · rw [List.getElem_set_ne e]
      simp only [rowOf, List.getElem_map]
      refine (h2 _ ?_).symm
      have hp := List.pairwise_iff_getElem.1 hJ.nod
      intro he
      rcases Nat.lt_or_gt_of_ne e with h | h
      · have := hp k i (by simpa using hk) (by simpa using hil) h
        simp only [List.getElem_map] at this
        exact this he.symm
      · have := hp i k (by simpa using hil) (by simpa using hk) h
        simp only [List.getElem_map] at this
        exact this he
theorem rowOf_zero (l0 : List (S45)) {f : Sh.Job → Int} (h : ∀ x, f x = 0) : List.replicate (l0.length : Int).toNat 0 = rowOf l0 f := by
  apply List.ext_getElem
  · simp [rowOf]
  · intro i _ _
    simp [rowOf, h]
theorem ran_snoc (id : Int) (p : List Sh.Slice) (u : Sh.Slice) : Sh.ran id (p ++ [u]) = Sh.ran id p + if u.job = id then u.to - u.frm else 0 := by
  rw [Sh.ran_append]; simp only [Sh.ran]; omega
theorem lastTo_snoc (id d : Int) (p : List Sh.Slice) (u : Sh.Slice) : Sh.lastTo id d (p ++ [u]) = if u.job = id then u.to else Sh.lastTo id d p := by
  rw [Sh.lastTo_append]; rfl
/-- Slices that are times: for how long a job runs stays within bounds. -/
theorem ran_bd {id : Int} : ∀ {a : List Sh.Slice}, (∀ u ∈ a, 0 ≤ u.frm ∧ u.frm ≤ 1051898399 ∧ 0 ≤ u.to ∧ u.to ≤ 1051898399) → -1051898399 * (a.length : Int) ≤ Sh.ran id a ∧ Sh.ran id a ≤ 1051898399 * (a.length : Int) := by
  intro a
  induction a with
  | nil => intro _; simp [Sh.ran]
  | cons u a ih =>
    intro h
    have h1 := h u (by simp)
    have h2 := ih (fun v hv => h v (by simp [hv]))
    simp only [Sh.ran, List.length_cons]
    split <;> omega
theorem look_some {l0 : List (S45)} {id : Int} (hw : (Lit.int .i64 id).wf = true) : (∃ (k : Nat) (h : k < l0.length), shift_look.f l0 id = some ((k : Int), true) ∧ l0[k].f0 = id) ∨ (shift_look.f l0 id = some (0, false) ∧ ∀ x ∈ l0, x.f0 ≠ id) := by
  unfold shift_look.f
  rw [if_pos hw]
  cases hp : posOf id l0 0 with
  | some i =>
    obtain ⟨k, hk, h1, h2⟩ := posOf_some hp
    exact .inl ⟨k, hk, by simp only; rw [show i = (k : Int) by omega], h2⟩
  | none => exact .inr ⟨rfl, posOf_none hp⟩
/-- The second loop. -/
theorem ends_l1 (l0 : List (S45)) (ra la : Sh.Job → Int) (hl : l0.length ≤ 9223372036854775807) (d : Nat) : ∀ (k : Nat) (i : Int) (x8 : List Int), 0 ≤ i → (l0.length : Int) - i = d → d < k →
    x8.length = l0.length → (∀ (j : Nat) (h : j < x8.length) (h' : j < l0.length), x8[j] = if (j : Int) < i then (if ra (toJ l0[j]) < (toJ l0[j]).min then -1 else la (toJ l0[j])) else la (toJ l0[j])) →
    shift_EndsP.l1 k (rowOf l0 ra) x8 l0 (l0.length : Int) i = some (rowOf l0 fun x => if ra x < x.min then -1 else la x) := by
  induction d with
  | zero =>
    intro k i x8 h0 hd hk h8 hx
    obtain ⟨k, rfl⟩ : ∃ m, k = m + 1 := ⟨k - 1, by omega⟩
    simp only [shift_EndsP.l1]
    rw [if_neg (by omega)]
    congr 1
    apply List.ext_getElem
    · simp [rowOf, h8]
    · intro j h1 h2
      have h3 : j < l0.length := by omega
      rw [hx j h1 h3, if_pos (by omega)]
      simp [rowOf]
  | succ d ih =>
    intro k i x8 h0 hd hk h8 hx
    obtain ⟨k, rfl⟩ : ∃ m, k = m + 1 := ⟨k - 1, by omega⟩
    have hlt : i < (l0.length : Int) := by omega
    have hn : i.toNat < l0.length := by omega
    have ew : wrap64 (i + 1) = i + 1 := by unfold wrap64; omega
    have er : rd_T45 l0 i = l0[i.toNat] := by simp [rd_T45, hn]
    simp only [shift_EndsP.l1]
    rw [if_pos hlt, if_pos h0, if_pos hlt, if_pos (by rw [rowOf_len]; exact hlt), rowOf_rd h0 hlt, er, ew]
    have hmin : (toJ l0[i.toNat]).min = l0[i.toNat].f3 := rfl
    rw [← hmin]
    by_cases c : ra (toJ l0[i.toNat]) < (toJ l0[i.toNat]).min
    · rw [if_pos c, if_pos (by omega)]
      refine ih k (i + 1) _ (by omega) (by omega) (by omega) (by simpa using h8) ?_
      intro j h1 h2
      by_cases e : i.toNat = j
      · subst e
        rw [List.getElem_set_self, if_pos c, if_pos (show ((i.toNat : Nat) : Int) < i + 1 by omega)]
      · rw [List.getElem_set_ne e, hx j (by simpa using h1) h2]
        by_cases c2 : (j : Int) < i
        · rw [if_pos c2, if_pos (show (j : Int) < i + 1 by omega)]
        · rw [if_neg c2, if_neg (show ¬ (j : Int) < i + 1 by omega)]
    · rw [if_neg c]
      refine ih k (i + 1) _ (by omega) (by omega) (by omega) h8 ?_
      intro j h1 h2
      rw [hx j h1 h2]
      by_cases e : i.toNat = j
      · subst e
        rw [if_neg c, if_neg (show ¬ ((i.toNat : Nat) : Int) < i by omega), if_pos (show ((i.toNat : Nat) : Int) < i + 1 by omega)]
      · by_cases c2 : (j : Int) < i
        · rw [if_pos c2, if_pos (show (j : Int) < i + 1 by omega)]
        · rw [if_neg c2, if_neg (show ¬ (j : Int) < i + 1 by omega)]
/-- The first loop, and what follows. -/
theorem ends_l0 (l0 : List (S45)) (l1 : List (S51)) (hl : l0.length ≤ 9223372036854775807) (hJ : Sh.VJ (l0.map toJ)) (hw : wf51 l1 = true) (ht : Sh.timed (l1.map toL) = true) (d : Nat) : ∀ (k : Nat) (i : Int), 0 ≤ i → (l1.length : Int) - i = d → d + l0.length + 1 < k →
    shift_EndsP.l0 k l0 (rowOf l0 fun x => Sh.ran x.id ((l1.map toL).take i.toNat)) (rowOf l0 fun x => Sh.lastTo x.id 0 ((l1.map toL).take i.toNat)) l1 (l1.length : Int) i =
      some (rowOf l0 fun x => if Sh.ran x.id (l1.map toL) < x.min then -1 else Sh.lastTo x.id 0 (l1.map toL)) := by
  obtain ⟨htl, htu⟩ := Sh.timed_iff.1 ht
  rw [List.length_map] at htl
  induction d with
  | zero =>
    intro k i h0 hd hk
    obtain ⟨k, rfl⟩ : ∃ m, k = m + 1 := ⟨k - 1, by omega⟩
    simp only [shift_EndsP.l0]
    rw [if_neg (by omega), List.take_of_length_le (by simp; omega)]
    refine ends_l1 l0 (fun x => Sh.ran x.id (l1.map toL)) (fun x => Sh.lastTo x.id 0 (l1.map toL)) hl l0.length k 0 _ (Int.le_refl 0) (by omega) (by omega) (rowOf_len _ _) ?_
    intro j h1 h2
    rw [if_neg (by omega)]
    simp [rowOf]
  | succ d ih =>
    intro k i h0 hd hk
    obtain ⟨k, rfl⟩ : ∃ m, k = m + 1 := ⟨k - 1, by omega⟩
    have hlt : i < (l1.length : Int) := by omega
    have ew : wrap64 (i + 1) = i + 1 := by unfold wrap64; omega
    have hmem := rd51_mem h0 hlt
    have hwf := List.all_eq_true.1 hw _ hmem
    have hut := htu (toL (rd_T51 l1 i)) (List.mem_map.2 ⟨_, hmem, rfl⟩)
    have ih' := ih k (i + 1) (by omega) (by omega) (by omega)
    rw [toL_next h0 hlt] at ih'
    simp only [ran_snoc, lastTo_snoc] at ih'
    simp only [shift_EndsP.l0]
    rw [if_pos hlt, if_pos h0, if_pos hlt, ew]
    rcases look_some (l0 := l0) hwf with ⟨m, hm, h1, h2⟩ | ⟨h1, h2⟩
    · rw [h1]
      simp only [Option.bind_some, if_true]
      have hm' : (m : Int) < (l0.length : Int) := by omega
      have er : rd_T45 l0 (m : Int) = l0[m] := by simp [rd_T45, hm]
      rw [if_pos (by omega), if_pos (by rw [rowOf_len]; exact hm'), if_pos (by rw [rowOf_len]; exact hm'), rowOf_rd (by omega) hm', er]
      have hbd := ran_bd (id := (toJ l0[m]).id) (a := (l1.map toL).take i.toNat) (fun u hu => htu u (List.mem_of_mem_take hu))
      have hlen : ((l1.map toL).take i.toNat).length ≤ 1000000 := by rw [List.length_take, List.length_map]; omega
      have e1 : wrap64 ((rd_T51 l1 i).f2 - (rd_T51 l1 i).f1) = (toL (rd_T51 l1 i)).to - (toL (rd_T51 l1 i)).frm := by
        simp only [toL] at hut ⊢; unfold wrap64; omega
      have e2 : wrap64 (Sh.ran (toJ l0[m]).id ((l1.map toL).take i.toNat) + ((toL (rd_T51 l1 i)).to - (toL (rd_T51 l1 i)).frm)) = Sh.ran (toJ l0[m]).id ((l1.map toL).take i.toNat) + ((toL (rd_T51 l1 i)).to - (toL (rd_T51 l1 i)).frm) := by
        unfold wrap64; omega
      have hid : (toL (rd_T51 l1 i)).job = (toJ l0[m]).id := h2.symm
      rw [e1, e2]
      simp only [Int.toNat_natCast]
      rw [rowOf_set (g := fun x => Sh.ran x.id ((l1.map toL).take i.toNat) + if (toL (rd_T51 l1 i)).job = x.id then (toL (rd_T51 l1 i)).to - (toL (rd_T51 l1 i)).frm else 0) hm hJ (by rw [if_pos hid]) (fun x hx => by rw [if_neg (by rw [hid]; exact fun e => hx e.symm)]; omega),
        rowOf_set (g := fun x => if (toL (rd_T51 l1 i)).job = x.id then (toL (rd_T51 l1 i)).to else Sh.lastTo x.id 0 ((l1.map toL).take i.toNat)) hm hJ (by rw [if_pos hid]; rfl) (fun x hx => by rw [if_neg (by rw [hid]; exact fun e => hx e.symm)])]
      exact ih'
    · rw [h1]
      simp only [Option.bind_some, Bool.false_eq_true, if_false]
      have hne : ∀ x ∈ l0.map toJ, (toL (rd_T51 l1 i)).job ≠ x.id := by
        intro x hx
        obtain ⟨z, hz, rfl⟩ := List.mem_map.1 hx
        exact fun e => h2 z hz e.symm
      have e1 : (rowOf l0 fun x => Sh.ran x.id ((l1.map toL).take i.toNat) + if (toL (rd_T51 l1 i)).job = x.id then (toL (rd_T51 l1 i)).to - (toL (rd_T51 l1 i)).frm else 0) = rowOf l0 fun x => Sh.ran x.id ((l1.map toL).take i.toNat) := by
        unfold rowOf
        apply List.map_congr_left
        intro x hx
        rw [if_neg (hne x hx)]; omega
      have e2 : (rowOf l0 fun x => if (toL (rd_T51 l1 i)).job = x.id then (toL (rd_T51 l1 i)).to else Sh.lastTo x.id 0 ((l1.map toL).take i.toNat)) = rowOf l0 fun x => Sh.lastTo x.id 0 ((l1.map toL).take i.toNat) := by
        unfold rowOf
        apply List.map_congr_left
        intro x hx
        rw [if_neg (hne x hx)]
      rw [e1, e2] at ih'
      exact ih'
theorem lastTo_any {id d e : Int} {a : List Sh.Slice} (h : Sh.ran id a ≠ 0) : Sh.lastTo id d a = Sh.lastTo id e a := by
  have key : ∀ a : List Sh.Slice, (∃ u ∈ a, u.job = id) → Sh.lastTo id d a = Sh.lastTo id e a := by
    apply Sh.snoc_ind
    · rintro ⟨u, hu, _⟩; cases hu
    · intro a u ih ⟨v, hv, hj⟩
      rw [lastTo_snoc, lastTo_snoc]
      by_cases hu : u.job = id
      · rw [if_pos hu, if_pos hu]
      · rw [if_neg hu, if_neg hu]
        refine ih ⟨v, ?_, hj⟩
        rcases List.mem_append.1 hv with h1 | h1
        · exact h1
        · simp at h1; subst h1; exact absurd hj hu
  apply key
  refine Classical.byContradiction fun hc => h (Sh.ran_none (fun u hu hj => hc ⟨u, hu, hj⟩))
theorem firstJob_BJ {l0 : List (S45)} (h : Sh.firstJob [] (l0.map toJ) 0 = -1) : Sh.BJ (l0.map toJ) := by
  have := Sh.firstJob_none (p := []) (Int.le_refl 0) ⟨⟨fun _ h => absurd h (by simp), List.Pairwise.nil⟩, fun _ h => absurd h (by simp)⟩ h
  simpa using this
theorem ends_f {l0 : List (S45)} {l1 : List (S51)} {r : List Int} (h : shift_Ends.f l0 l1 = some r) : ∃ k, shift_EndsP.f k l0 l1 = some r := by
  unfold shift_Ends.f at h
  split at h
  · rename_i hw
    split at h
    · rename_i hw1
      split at h
      · rename_i hf
        split at h
        · rename_i htl
          obtain ⟨ht, hl⟩ := htl
          have hBJ := firstJob_BJ hf
          refine ⟨l1.length + l0.length + 2, ?_⟩
          unfold shift_EndsP.f shift_index.f
          rw [if_pos hw, if_pos hf]
          simp only [Option.bind_some]
          rw [if_pos (by omega), if_pos (by simp; omega)]
          rw [rowOf_zero l0 (f := fun x => Sh.ran x.id ((l1.map toL).take (0 : Int).toNat)) (fun x => by simp [Sh.ran])]
          have e2 := rowOf_zero l0 (f := fun x => Sh.lastTo x.id 0 ((l1.map toL).take (0 : Int).toNat)) (fun x => by simp [Sh.lastTo])
          have e1 := rowOf_zero l0 (f := fun x => Sh.ran x.id ((l1.map toL).take (0 : Int).toNat)) (fun x => by simp [Sh.ran])
          have e3 : (rowOf l0 fun x => Sh.ran x.id ((l1.map toL).take (0 : Int).toNat)) = (rowOf l0 fun x => Sh.lastTo x.id 0 ((l1.map toL).take (0 : Int).toNat)) := e1.symm.trans e2
          have key := ends_l0 l0 l1 (by omega) hBJ.vj hw1 ht l1.length (l1.length + l0.length + 2) 0 (Int.le_refl 0) (by omega) (by omega)
          rw [← e3] at key
          rw [key, ← Option.some.inj h]
          congr 1
          unfold rowOf
          apply List.map_congr_left
          intro x hx
          unfold Sh.endOf
          split
          · rfl
          · rename_i hc
            have := (hBJ.vj.pos x hx).2.2
            exact lastTo_any (by omega)
        · cases h
      · cases h
    · cases h
  · cases h
theorem shift_Ends.calls (A0 : Option Addr) (c0 : Nat) (l0 : List (S45)) (A1 : Option Addr) (c1 : Nat) (l1 : List (S51)) (r : List Int) (w : World) (hr0 : Kd.C k45 w A0 l0.length l0) (hc0 : l0.length ≤ c0) (hr1 : Kd.C k51 w A1 l1.length l1) (hc1 : l1.length ≤ c1) (h : shift_Ends.f l0 l1 = some r) :
    Calls Try.prog 22 #[.slice A0 l0.length c0, .slice A1 l1.length c1] w fun e w' => ∃ v0_ : Value, e = .returned (v0_) ∧ Kd.R (Kd.int .i64) 3 w' w.heap.size (fun _ => True) v0_ r ∧ Below w.heap.size w w' := by
  obtain ⟨k, hk⟩ := ends_f h
  exact shift_EndsP.calls k A0 c0 l0 A1 c1 l1 r w hr0 hc0 hr1 hc1 hk
end Go.Proofs.Ytbnjdlafnejanaa.Pr
namespace Go.Proofs.Ytbnjdlafnejanaa.Pr
open Go.RowKit Go.Proofs.YtbnjdlafnejanaaW.PrintWords Go.Proofs.YtbnjdlafnejanaaW.PrintLast Go.Proofs.YtbnjdlafnejanaaW.PrintMore
attribute [local go_sem] max2_int min2_int max_two min_two max_three min_three max_four min_four   -- for this text's walks alone
set_option linter.unusedVariables false
set_option linter.unusedSimpArgs false
def shift_Late.l0 : Nat → List (S45) → List Int → List Int → Int → Int → Option (List Int)
 | 0, _, _, _, _, _ => none
 | k + 1, x0, x5, x10, x11, x12 => if x12 < x11 then (if 0 ≤ x12 then (if x12 < (x10.length : Int) then (if (rd x10 x12) < 0 then (if x12 < (x0.length : Int) then (if x5.length < 17592186044416 then (shift_Late.l0 k x0 (x5 ++ [(rd_T45 x0 x12).f0]) x10 x11 (wrap64 (x12 + 1))) else (none)) else (none)) else (if x12 < (x0.length : Int) then (if (rd x10 x12) > ((rd_T45 x0 x12).f2) then (if x5.length < 17592186044416 then (shift_Late.l0 k x0 (x5 ++ [(rd_T45 x0 x12).f0]) x10 x11 (wrap64 (x12 + 1))) else (none)) else (shift_Late.l0 k x0 x5 x10 x11 (wrap64 (x12 + 1)))) else (none))) else (none)) else (none)) else (some x5)
def shift_Late.f (k : Nat) (l0 : List (S45)) (l1 : List (S51)) : Option (List Int) := (shift_Ends.f l0 l1).bind fun t145 => (shift_Late.l0 k l0 ([] : List Int) t145 (t145.length : Int) 0)
theorem shift_Late.mono_l : ∀ k, (∀ y0 y1 y2 y3 y4, LeO (shift_Late.l0 k y0 y1 y2 y3 y4) (shift_Late.l0 (k + 1) y0 y1 y2 y3 y4))
 | 0 => fun _ _ _ _ _ r h => by simp [shift_Late.l0] at h
 | k + 1 => by
  have ih0 := shift_Late.mono_l k
  ·intro y0 y1 y2 y3 y4
   unfold shift_Late.l0
   repeat' first
   | (with_reducible exact ih0 _ _ _ _ _)
   | (with_reducible exact LeO.refl _)
   | (with_reducible exact LeO.none _)
   | (with_reducible refine LeO.ite ?_ ?_)
   | (with_reducible refine LeO.bind ?_ (fun _ => ?_))
   | exact ih0 _ _ _ _ _
   | exact LeO.none _
   | refine LeO.ite ?_ ?_
   | refine LeO.bind ?_ (fun _ => ?_)
theorem shift_Late.mono : ∀ a0 a1 k, LeO (shift_Late.f k a0 a1) (shift_Late.f (k + 1) a0 a1) := by
 intro a0 a1 k
 have ih0 := shift_Late.mono_l k
 unfold shift_Late.f
 repeat' first
  | (with_reducible exact ih0 _ _ _ _ _)
  | (with_reducible exact LeO.refl _)
  | (with_reducible exact LeO.none _)
  | (with_reducible refine LeO.ite ?_ ?_)
  | (with_reducible refine LeO.bind ?_ (fun _ => ?_))
  | exact ih0 _ _ _ _ _
  | exact LeO.none _
  | refine LeO.ite ?_ ?_
  | refine LeO.bind ?_ (fun _ => ?_)
set_option maxHeartbeats 8000000 in
set_option maxRecDepth 100000 in
theorem shift_Late.calls (k : Nat) (A0 : Option Addr) (c0 : Nat) (l0 : List (S45)) (A1 : Option Addr) (c1 : Nat) (l1 : List (S51)) (r : List Int) (w : World) (hr0 : Kd.C k45 w A0 l0.length l0) (hc0 : l0.length ≤ c0) (hr1 : Kd.C k51 w A1 l1.length l1) (hc1 : l1.length ≤ c1) (h : shift_Late.f k l0 l1 = some r) :
  Calls Try.prog 15 #[.slice A0 l0.length c0, .slice A1 l1.length c1] w fun e w' => ∃ v0_ : Value, e = .returned (v0_) ∧ Kd.R (Kd.int .i64) 3 w' w.heap.size (fun _ => True) v0_ r ∧ Below w.heap.size w w' := by
 have HR0 := Aside0.mk hr0
 have HC0 := Aside0.mk hc0
 clear hr0 hc0
 have HR1 := Aside0.mk hr1
 have HC1 := Aside0.mk hc1
 clear hr1 hc1
 have HB := Aside0.mk (Below.refl w.heap.size w)
 have H : ((shift_Ends.f l0 l1).bind fun t145 => (shift_Late.l0 k l0 ([] : List Int) t145 (t145.length : Int) 0)) = some r := h
 clear h
 replace H := Option.bind_eq_some_iff.mp H
 obtain ⟨t145, A30, H⟩ := H
 replace H : (shift_Late.l0 k l0 ([] : List Int) t145 (t145.length : Int) 0) = some r := H
 have A3 := Aside0.mk A30
 clear A30
 have H' := Aside0.mk H
 clear H
 go_enter Try.func15, Try.ntmps15
 go_wp2_with (((with_reducible refine gate_callee (f := 22) rfl ?_); refine goesL_ (some 10) rfl rfl Try.func22 (by kernel_rfl) rfl #[.slice A0 l0.length c0, .slice A1 l1.length c1] rfl (by (try simp only [List.map_toArray, List.map_cons, List.map_nil]); rfl) ?_; (with_reducible refine (shift_Ends.calls _ _ l0 _ _ l1 t145 _ ?side1 ?side2 ?side3 ?side4 A3.out).mono ?_); (case side1 => repeat (exact HR0.out)); (case side2 => exact HC0.out); (case side3 => repeat (exact HR1.out)); (case side4 => exact HC1.out); rintro e w4 ⟨v146, rfl, ho0, hb⟩; refine ⟨_, rfl, ?_⟩; have n0_ := Aside0.mk (Kd.R_lower ho0 (below_size (by repeat ((with_reducible exact HB.out))))); have n1_ := Aside0.mk (below_step (by repeat ((with_reducible exact HB.out))) hb); clear HB; have HO147 := n0_; have HB := n1_; clear n0_ n1_; (try clear hb); (try clear hb2); (try clear hk); (try clear hi); (try clear ho0); obtain ⟨Ao5, co5, eo5⟩ := Kd.R_slice HO147.out; subst eo5))
 go_loopg [5, 12] k (fun kq v5 v12 w' => ∃ (x5_1 : List Int) (x12_1 : Int), v12 = .int .i64 x12_1 ∧ Aside0 (shift_Late.l0 kq l0 x5_1 t145 (t145.length : Int) x12_1 = some r) ∧ Aside0 (kq ≤ k) ∧ Aside0 (Kd.R (Kd.int .i64) 3 w' w.heap.size (fun k_ => some k_ ≠ ((.slice Ao5 t145.length co5) : Value).ownBlock) v5 x5_1) ∧ Aside0 (Kd.R (Kd.int .i64) 3 w' w.heap.size (fun k_ => some k_ ≠ (v5 : Value).ownBlock) (.slice Ao5 t145.length co5) t145) ∧ Aside0 (Below w.heap.size w w'))
 case atStart => exact ⟨(([] : List Int)), (0), (by rfl), H', ⟨Nat.le_refl _⟩, ⟨by exact Kd.R_nil _ _ _ _ _⟩, ⟨by (with_reducible repeat (fail)); exact Kd.R_mono HO147.out (fun _ hk => (by simp [Value.ownBlock]))⟩, ⟨by repeat ((with_reducible exact HB.out))⟩⟩
 case round =>
  clear H'
  try clear c1
  try clear c2
  try clear p2
  obtain ⟨x5_1, x12_1, rfl, HA, HK1, HO_5, HO_10, HB⟩ := hrel
  cases gk with
  | zero => exact absurd HA.out (by simp [shift_Late.l0])
  | succ k1 =>
   have H := HA.out
   clear HA
   simp only [shift_Late.l0] at H
   by_cases c6 : x12_1 < (t145.length : Int)
   ·rw [if_pos c6] at H
    have c6b0 : decide (x12_1 < (t145.length : Int)) = true := decide_eq_true c6
    clear c6
    by_cases c7 : 0 ≤ x12_1
    ·rw [if_pos c7] at H
     have c7b0 : decide (0 ≤ x12_1) = true := decide_eq_true c7
     clear c7
     by_cases c8 : x12_1 < (t145.length : Int)
     ·rw [if_pos c8] at H
      have c8b0 : decide (x12_1 < (t145.length : Int)) = true := decide_eq_true c8
      clear c8
      by_cases c9 : (rd t145 x12_1) < 0
      ·rw [if_pos c9] at H
       have c9b0 : decide ((rd t145 x12_1) < 0) = true := decide_eq_true c9
       clear c9
       by_cases c10 : x12_1 < (l0.length : Int)
       ·rw [if_pos c10] at H
        have c10b0 : decide (x12_1 < (l0.length : Int)) = true := decide_eq_true c10
        clear c10
        by_cases c11 : x5_1.length < 17592186044416
        ·rw [if_pos c11] at H
         have LMc11 := Aside0.mk c11
         clear c11
         obtain ⟨y150, hy150⟩ : ∃ y_ : List Int, y_ = (x5_1 ++ [(rd_T45 l0 x12_1).f0]) := ⟨_, rfl⟩
         replace H : (shift_Late.l0 k1 l0 y150 t145 (t145.length : Int) (wrap64 (x12_1 + 1))) = some r := by (rw [hy150]; with_reducible exact H)
         have Ny150 := Aside0.mk hy150
         clear hy150
         have H' := Aside0.mk H
         clear H
         have p148 : 0 ≤ (x12_1 : Int) := of_decide_eq_true (by (with_reducible assumption))
         have q148 : x12_1 < (t145.length : Int) := of_decide_eq_true (by (with_reducible assumption))
         obtain ⟨ad148, e148, hx148_0⟩ := Kd.at_int (Kd.R_reads' HO_10.out).2.2 x12_1 p148 q148
         cases e148
         replace p148 := eq_true p148
         replace q148 := eq_true q148
         have p149 : 0 ≤ (x12_1 : Int) := of_decide_eq_true (by (with_reducible assumption))
         have q149 : x12_1 < (l0.length : Int) := of_decide_eq_true (by (with_reducible assumption))
         obtain ⟨ad149, e149, hx149_0, hx149_1, hx149_2, hx149_3⟩ := at_T45 HR0.out x12_1 p149 q149
         cases e149
         replace hx149_0 := (HB.out.cell (World.block_lt_of_cell? w _ hx149_0)).trans hx149_0
         replace hx149_1 := (HB.out.cell (World.block_lt_of_cell? w _ hx149_1)).trans hx149_1
         replace hx149_2 := (HB.out.cell (World.block_lt_of_cell? w _ hx149_2)).trans hx149_2
         replace hx149_3 := (HB.out.cell (World.block_lt_of_cell? w _ hx149_3)).trans hx149_3
         replace p149 := eq_true p149
         replace q149 := eq_true q149
         go_wp2_with (((with_reducible refine gate_builtin (b := .append) (xs := #[.tmp 28, .tmp 34]) rfl ?_); at_builtin; refine Kd.R_append (Kd.int .i64) (w0 := w) w.heap.size rfl (.tmp 28) (.tmp 34) 36 3 (.int .i64 0) 8 rfl Try.underlying36 info3 rfl (by decide) (by omega) u5 x5_1 ((rd_T45 l0 x12_1).f0) [.int .i64 ((rd_T45 l0 x12_1).f0)] (fun k_ => some k_ ≠ (.slice (some ad148) t145.length co5 : Value).ownBlock) (fun _ => False) rfl rfl ?aP (fun _ hk => hk.elim) ?aF ?aO ?aB ?aS ?aL ?_; (case aP => exact rfl); (case aB => exact (by repeat ((with_reducible exact HB.out)))); (case aF => exact (fun k_ hk => Kd.fresh' (Kd.R_lt (by (with_reducible repeat (fail)); exact HO_10.out)) k_ hk)); (case aO => exact (by (with_reducible repeat (fail)); exact HO_5.out)); (case aS => exact (below_size (by repeat ((with_reducible exact HB.out))))); (case aL => have := LMc11.out; omega); intro v151 w12 ho hb hg hat; rw [← Ny150.out] at ho; have n0_ := Aside0.mk (Kd.R_after (ok := (fun _ => True)) (by (with_reducible repeat (fail)); exact Kd.R_mono HO_10.out (fun _ hk => ⟨trivial, hk⟩)) hg hat); have n1_ := Aside0.mk (hb); have n2_ := Aside0.mk (ho); clear HO_10; clear HB; clear HO_5; have HO_10 := n0_; have HB := n1_; have HO152 := n2_; clear n0_ n1_ n2_; clear ho hb hg hat))
         go_roundg k1
         case measure => have := HK1.out; omega
         case rel => exact ⟨(y150), (wrap64 (x12_1 + 1)), (by rfl), H', ⟨by have := HK1.out; omega⟩, ⟨by (with_reducible repeat (fail)); exact HO152.out⟩, ⟨by (with_reducible repeat (fail)); exact Kd.R_mono HO_10.out (fun _ hk => hk.2)⟩, ⟨by repeat ((with_reducible exact HB.out))⟩⟩
        ·rw [if_neg c11] at H
         exact absurd H (by simp)
       ·rw [if_neg c10] at H
        exact absurd H (by simp)
      ·rw [if_neg c9] at H
       have c9b0 : decide ((rd t145 x12_1) < 0) = false := decide_eq_false c9
       clear c9
       by_cases c13 : x12_1 < (l0.length : Int)
       ·rw [if_pos c13] at H
        have c13b0 : decide (x12_1 < (l0.length : Int)) = true := decide_eq_true c13
        clear c13
        by_cases c14 : (rd t145 x12_1) > ((rd_T45 l0 x12_1).f2)
        ·rw [if_pos c14] at H
         have c14b0 : decide (((rd_T45 l0 x12_1).f2) < (rd t145 x12_1)) = true := decide_eq_true c14
         clear c14
         by_cases c15 : x5_1.length < 17592186044416
         ·rw [if_pos c15] at H
          have LMc15 := Aside0.mk c15
          clear c15
          obtain ⟨y155, hy155⟩ : ∃ y_ : List Int, y_ = (x5_1 ++ [(rd_T45 l0 x12_1).f0]) := ⟨_, rfl⟩
          replace H : (shift_Late.l0 k1 l0 y155 t145 (t145.length : Int) (wrap64 (x12_1 + 1))) = some r := by (rw [hy155]; with_reducible exact H)
          have Ny155 := Aside0.mk hy155
          clear hy155
          have H' := Aside0.mk H
          clear H
          have p148 : 0 ≤ (x12_1 : Int) := of_decide_eq_true (by (with_reducible assumption))
          have q148 : x12_1 < (t145.length : Int) := of_decide_eq_true (by (with_reducible assumption))
          obtain ⟨ad148, e148, hx148_0⟩ := Kd.at_int (Kd.R_reads' HO_10.out).2.2 x12_1 p148 q148
          cases e148
          replace p148 := eq_true p148
          replace q148 := eq_true q148
          have p153 : 0 ≤ (x12_1 : Int) := of_decide_eq_true (by (with_reducible assumption))
          have q153 : x12_1 < (l0.length : Int) := of_decide_eq_true (by (with_reducible assumption))
          obtain ⟨ad153, e153, hx153_0, hx153_1, hx153_2, hx153_3⟩ := at_T45 HR0.out x12_1 p153 q153
          cases e153
          replace hx153_0 := (HB.out.cell (World.block_lt_of_cell? w _ hx153_0)).trans hx153_0
          replace hx153_1 := (HB.out.cell (World.block_lt_of_cell? w _ hx153_1)).trans hx153_1
          replace hx153_2 := (HB.out.cell (World.block_lt_of_cell? w _ hx153_2)).trans hx153_2
          replace hx153_3 := (HB.out.cell (World.block_lt_of_cell? w _ hx153_3)).trans hx153_3
          replace p153 := eq_true p153
          replace q153 := eq_true q153
          have p154 : 0 ≤ (x12_1 : Int) := of_decide_eq_true (by (with_reducible assumption))
          have q154 : x12_1 < (l0.length : Int) := of_decide_eq_true (by (with_reducible assumption))
          obtain ⟨ad154, e154, hx154_0, hx154_1, hx154_2, hx154_3⟩ := at_T45 HR0.out x12_1 p154 q154
          obtain rfl : ad153 = ad154 := (by injection e154)
          replace hx154_0 := (HB.out.cell (World.block_lt_of_cell? w _ hx154_0)).trans hx154_0
          replace hx154_1 := (HB.out.cell (World.block_lt_of_cell? w _ hx154_1)).trans hx154_1
          replace hx154_2 := (HB.out.cell (World.block_lt_of_cell? w _ hx154_2)).trans hx154_2
          replace hx154_3 := (HB.out.cell (World.block_lt_of_cell? w _ hx154_3)).trans hx154_3
          replace p154 := eq_true p154
          replace q154 := eq_true q154
          go_wp2_with (((with_reducible refine gate_builtin (b := .append) (xs := #[.tmp 28, .tmp 34]) rfl ?_); at_builtin; refine Kd.R_append (Kd.int .i64) (w0 := w) w.heap.size rfl (.tmp 28) (.tmp 34) 36 3 (.int .i64 0) 8 rfl Try.underlying36 info3 rfl (by decide) (by omega) u5 x5_1 ((rd_T45 l0 x12_1).f0) [.int .i64 ((rd_T45 l0 x12_1).f0)] (fun k_ => some k_ ≠ (.slice (some ad148) t145.length co5 : Value).ownBlock) (fun _ => False) rfl rfl ?aP (fun _ hk => hk.elim) ?aF ?aO ?aB ?aS ?aL ?_; (case aP => exact rfl); (case aB => exact (by repeat ((with_reducible exact HB.out)))); (case aF => exact (fun k_ hk => Kd.fresh' (Kd.R_lt (by (with_reducible repeat (fail)); exact HO_10.out)) k_ hk)); (case aO => exact (by (with_reducible repeat (fail)); exact HO_5.out)); (case aS => exact (below_size (by repeat ((with_reducible exact HB.out))))); (case aL => have := LMc15.out; omega); intro v156 w16 ho hb hg hat; rw [← Ny155.out] at ho; have n0_ := Aside0.mk (Kd.R_after (ok := (fun _ => True)) (by (with_reducible repeat (fail)); exact Kd.R_mono HO_10.out (fun _ hk => ⟨trivial, hk⟩)) hg hat); have n1_ := Aside0.mk (hb); have n2_ := Aside0.mk (ho); clear HO_10; clear HB; clear HO_5; have HO_10 := n0_; have HB := n1_; have HO157 := n2_; clear n0_ n1_ n2_; clear ho hb hg hat))
          go_roundg k1
          case measure => have := HK1.out; omega
          case rel => exact ⟨(y155), (wrap64 (x12_1 + 1)), (by rfl), H', ⟨by have := HK1.out; omega⟩, ⟨by (with_reducible repeat (fail)); exact HO157.out⟩, ⟨by (with_reducible repeat (fail)); exact Kd.R_mono HO_10.out (fun _ hk => hk.2)⟩, ⟨by repeat ((with_reducible exact HB.out))⟩⟩
         ·rw [if_neg c15] at H
          exact absurd H (by simp)
        ·rw [if_neg c14] at H
         have c14b0 : decide (((rd_T45 l0 x12_1).f2) < (rd t145 x12_1)) = false := decide_eq_false c14
         clear c14
         have H' := Aside0.mk H
         clear H
         have p148 : 0 ≤ (x12_1 : Int) := of_decide_eq_true (by (with_reducible assumption))
         have q148 : x12_1 < (t145.length : Int) := of_decide_eq_true (by (with_reducible assumption))
         obtain ⟨ad148, e148, hx148_0⟩ := Kd.at_int (Kd.R_reads' HO_10.out).2.2 x12_1 p148 q148
         cases e148
         replace p148 := eq_true p148
         replace q148 := eq_true q148
         have p153 : 0 ≤ (x12_1 : Int) := of_decide_eq_true (by (with_reducible assumption))
         have q153 : x12_1 < (l0.length : Int) := of_decide_eq_true (by (with_reducible assumption))
         obtain ⟨ad153, e153, hx153_0, hx153_1, hx153_2, hx153_3⟩ := at_T45 HR0.out x12_1 p153 q153
         cases e153
         replace hx153_0 := (HB.out.cell (World.block_lt_of_cell? w _ hx153_0)).trans hx153_0
         replace hx153_1 := (HB.out.cell (World.block_lt_of_cell? w _ hx153_1)).trans hx153_1
         replace hx153_2 := (HB.out.cell (World.block_lt_of_cell? w _ hx153_2)).trans hx153_2
         replace hx153_3 := (HB.out.cell (World.block_lt_of_cell? w _ hx153_3)).trans hx153_3
         replace p153 := eq_true p153
         replace q153 := eq_true q153
         go_wp2
         go_roundg k1
         case measure => have := HK1.out; omega
         case rel => exact ⟨(x5_1), (wrap64 (x12_1 + 1)), (by rfl), H', ⟨by have := HK1.out; omega⟩, ⟨by (with_reducible repeat (fail)); exact HO_5.out⟩, ⟨by (with_reducible repeat (fail)); exact HO_10.out⟩, ⟨by repeat ((with_reducible exact HB.out))⟩⟩
       ·rw [if_neg c13] at H
        exact absurd H (by simp)
     ·rw [if_neg c8] at H
      exact absurd H (by simp)
    ·rw [if_neg c7] at H
     exact absurd H (by simp)
   ·rw [if_neg c6] at H
    have c6b0 : decide (x12_1 < (t145.length : Int)) = false := decide_eq_false c6
    clear c6
    obtain rfl := Option.some.inj H
    go_wp2
    go_ret
    exact ⟨_, by rfl, by (with_reducible repeat (fail)); exact Kd.R_mono HO_5.out (fun _ hk => trivial), by repeat ((with_reducible exact HB.out))⟩
mutual
def shift_overfull.l0 : Nat → List (S47) → Int → Int → Int → List (S45) → Int → Int → Option (Bool)
 | 0, _, _, _, _, _, _, _ => none
 | k + 1, x1, x2, x3, x9, x14, x15, x16 => if x16 < x15 then (if 0 ≤ x16 then (if x16 < (x14.length : Int) then (if ((rd_T45 x14 x16).f1) ≥ x2 then (if ((rd_T45 x14 x16).f2) ≤ x3 then (shift_overfull.l0 k x1 x2 x3 (wrap64 (x9 + ((rd_T45 x14 x16).f3))) x14 x15 (wrap64 (x16 + 1))) else (shift_overfull.l0 k x1 x2 x3 x9 x14 x15 (wrap64 (x16 + 1)))) else (shift_overfull.l0 k x1 x2 x3 x9 x14 x15 (wrap64 (x16 + 1)))) else (none)) else (none)) else (shift_overfull.l1 k x2 x3 x9 x1 (x1.length : Int) 0)
def shift_overfull.l1 : Nat → Int → Int → Int → List (S47) → Int → Int → Option (Bool)
 | 0, _, _, _, _, _, _ => none
 | k + 1, x2, x3, x9, x35, x36, x37 => if x37 < x36 then (if 0 ≤ x37 then (if x37 < (x35.length : Int) then (shift_overfull.l1 k x2 x3 (wrap64 (x9 - (mx 0 (wrap64 ((mn ((rd_T47 x35 x37).f1) x3) - (mx ((rd_T47 x35 x37).f0) x2)))))) x35 x36 (wrap64 (x37 + 1))) else (none)) else (none)) else (some (decide (x9 > 0)))
end
def shift_overfull.f (k : Nat) (l0 : List (S45)) (l1 : List (S47)) (a2 : Int) (a3 : Int) : Option (Bool) := shift_overfull.l0 k l1 a2 a3 0 l0 (l0.length : Int) 0
theorem shift_overfull.mono_l : ∀ k, (∀ y0 y1 y2 y3 y4 y5 y6, LeO (shift_overfull.l0 k y0 y1 y2 y3 y4 y5 y6) (shift_overfull.l0 (k + 1) y0 y1 y2 y3 y4 y5 y6)) ∧ (∀ y0 y1 y2 y3 y4 y5, LeO (shift_overfull.l1 k y0 y1 y2 y3 y4 y5) (shift_overfull.l1 (k + 1) y0 y1 y2 y3 y4 y5))
 | 0 => ⟨fun _ _ _ _ _ _ _ r h => by simp [shift_overfull.l0] at h, fun _ _ _ _ _ _ r h => by simp [shift_overfull.l1] at h⟩
 | k + 1 => by
  obtain ⟨ih0, ih1⟩ := shift_overfull.mono_l k
  refine ⟨?_, ?_⟩
  ·intro y0 y1 y2 y3 y4 y5 y6
   unfold shift_overfull.l0
   repeat' first
   | (with_reducible exact ih0 _ _ _ _ _ _ _)
   | (with_reducible exact ih1 _ _ _ _ _ _)
   | (with_reducible exact LeO.refl _)
   | (with_reducible exact LeO.none _)
   | (with_reducible refine LeO.ite ?_ ?_)
   | (with_reducible refine LeO.bind ?_ (fun _ => ?_))
   | exact ih0 _ _ _ _ _ _ _
   | exact ih1 _ _ _ _ _ _
   | exact LeO.none _
   | refine LeO.ite ?_ ?_
   | refine LeO.bind ?_ (fun _ => ?_)
  ·intro y0 y1 y2 y3 y4 y5
   unfold shift_overfull.l1
   repeat' first
   | (with_reducible exact ih0 _ _ _ _ _ _ _)
   | (with_reducible exact ih1 _ _ _ _ _ _)
   | (with_reducible exact LeO.refl _)
   | (with_reducible exact LeO.none _)
   | (with_reducible refine LeO.ite ?_ ?_)
   | (with_reducible refine LeO.bind ?_ (fun _ => ?_))
   | exact ih0 _ _ _ _ _ _ _
   | exact ih1 _ _ _ _ _ _
   | exact LeO.none _
   | refine LeO.ite ?_ ?_
   | refine LeO.bind ?_ (fun _ => ?_)
theorem shift_overfull.mono : ∀ a0 a1 a2 a3 k, LeO (shift_overfull.f k a0 a1 a2 a3) (shift_overfull.f (k + 1) a0 a1 a2 a3) := by
 intro a0 a1 a2 a3 k
 obtain ⟨ih0, ih1⟩ := shift_overfull.mono_l k
 unfold shift_overfull.f
 repeat' first
  | (with_reducible exact ih0 _ _ _ _ _ _ _)
  | (with_reducible exact ih1 _ _ _ _ _ _)
  | (with_reducible exact LeO.refl _)
  | (with_reducible exact LeO.none _)
  | (with_reducible refine LeO.ite ?_ ?_)
  | (with_reducible refine LeO.bind ?_ (fun _ => ?_))
  | exact ih0 _ _ _ _ _ _ _
  | exact ih1 _ _ _ _ _ _
  | exact LeO.none _
  | refine LeO.ite ?_ ?_
  | refine LeO.bind ?_ (fun _ => ?_)
set_option maxHeartbeats 8000000 in
set_option maxRecDepth 100000 in
theorem shift_overfull.calls (k : Nat) (A0 : Option Addr) (c0 : Nat) (l0 : List (S45)) (A1 : Option Addr) (c1 : Nat) (l1 : List (S47)) (a2 : Int) (a3 : Int) (r : Bool) (w : World) (hr0 : Kd.C k45 w A0 l0.length l0) (hc0 : l0.length ≤ c0) (hr1 : Kd.C k47 w A1 l1.length l1) (hc1 : l1.length ≤ c1) (h : shift_overfull.f k l0 l1 a2 a3 = some r) :
  Calls Try.prog 27 #[.slice A0 l0.length c0, .slice A1 l1.length c1, .int .i64 a2, .int .i64 a3] w fun e w' => e = .returned (.bool r) ∧ Below w.heap.size w w' := by
 have hu45 := Try.underlying45
 have hu47 := Try.underlying47
 have HR0 := Aside0.mk hr0
 have HC0 := Aside0.mk hc0
 clear hr0 hc0
 have HR1 := Aside0.mk hr1
 have HC1 := Aside0.mk hc1
 clear hr1 hc1
 have HB := Aside0.mk (Below.refl w.heap.size w)
 have H : (shift_overfull.l0 k l1 a2 a3 0 l0 (l0.length : Int) 0) = some r := h
 clear h
 have H' := Aside0.mk H
 clear H
 go_enter Try.func27, Try.ntmps27
 go_wp2
 go_loopg [9, 16] k (fun kq v9 v16 w' => ∃ (x9_1 : Int) (x16_1 : Int), v9 = .int .i64 x9_1 ∧ v16 = .int .i64 x16_1 ∧ Aside0 (shift_overfull.l0 kq l1 a2 a3 x9_1 l0 (l0.length : Int) x16_1 = some r) ∧ Aside0 (kq ≤ k) ∧ Aside0 (Below w.heap.size w w'))
 case atStart => exact ⟨(0), (0), (by rfl), (by rfl), H', ⟨Nat.le_refl _⟩, ⟨by repeat ((with_reducible exact HB.out))⟩⟩
 case round =>
  clear H'
  try clear c1
  try clear c2
  try clear p2
  obtain ⟨x9_1, x16_1, rfl, rfl, HA, HK1, HB⟩ := hrel
  cases gk with
  | zero => exact absurd HA.out (by simp [shift_overfull.l0])
  | succ k1 =>
   have H := HA.out
   clear HA
   simp only [shift_overfull.l0] at H
   by_cases c5 : x16_1 < (l0.length : Int)
   ·rw [if_pos c5] at H
    have c5b0 : decide (x16_1 < (l0.length : Int)) = true := decide_eq_true c5
    clear c5
    by_cases c6 : 0 ≤ x16_1
    ·rw [if_pos c6] at H
     have c6b0 : decide (0 ≤ x16_1) = true := decide_eq_true c6
     clear c6
     by_cases c7 : x16_1 < (l0.length : Int)
     ·rw [if_pos c7] at H
      have c7b0 : decide (x16_1 < (l0.length : Int)) = true := decide_eq_true c7
      clear c7
      by_cases c8 : ((rd_T45 l0 x16_1).f1) ≥ a2
      ·rw [if_pos c8] at H
       have c8b0 : decide (a2 ≤ ((rd_T45 l0 x16_1).f1)) = true := decide_eq_true c8
       clear c8
       by_cases c9 : ((rd_T45 l0 x16_1).f2) ≤ a3
       ·rw [if_pos c9] at H
        have c9b0 : decide (((rd_T45 l0 x16_1).f2) ≤ a3) = true := decide_eq_true c9
        clear c9
        have H' := Aside0.mk H
        clear H
        have p163 : 0 ≤ (x16_1 : Int) := of_decide_eq_true (by (with_reducible assumption))
        have q163 : x16_1 < (l0.length : Int) := of_decide_eq_true (by (with_reducible assumption))
        obtain ⟨ad163, e163, hx163_0, hx163_1, hx163_2, hx163_3⟩ := at_T45 HR0.out x16_1 p163 q163
        cases e163
        replace hx163_0 := (HB.out.cell (World.block_lt_of_cell? w _ hx163_0)).trans hx163_0
        replace hx163_1 := (HB.out.cell (World.block_lt_of_cell? w _ hx163_1)).trans hx163_1
        replace hx163_2 := (HB.out.cell (World.block_lt_of_cell? w _ hx163_2)).trans hx163_2
        replace hx163_3 := (HB.out.cell (World.block_lt_of_cell? w _ hx163_3)).trans hx163_3
        replace p163 := eq_true p163
        replace q163 := eq_true q163
        go_wp2_with (((with_reducible refine gate_dst (N := 11) rfl ?_); refine box_event ?hg (N := 11) ?hd (cs := #[.int .i64 0, .int .i64 0, .int .i64 0, .int .i64 0]) (t := 45) ?hr ?_; (case hd => rfl); (case hg => rfl); (case hr => (go_simp; done)); intro gb164 hg w10 hbox hb; have n0_ := Aside0.mk (below_step (by repeat ((with_reducible exact HB.out))) hb); have n1_ := Aside0.mk (hbox); have n2_ := Aside0.mk ((by rw [hg]; exact (below_size (by repeat ((with_reducible exact HB.out)))) : w.heap.size ≤ gb164)); have n3_ := Aside0.mk ((by rw [hg]; exact (below_size (by repeat ((with_reducible exact HB.out)))) : w.heap.size ≤ gb164)); clear HB; have HB := n0_; have BK164 := n1_; have GW164 := n2_; have GE164 := n3_; clear n0_ n1_ n2_ n3_; clear hb hbox hg; have hcz11_0 : w10.cell? ⟨gb164, 0, none⟩ = some (.int .i64 0) := (blk_cell BK164.out 0).trans rfl; have hcz11_1 : w10.cell? ⟨gb164, 1, none⟩ = some (.int .i64 0) := (blk_cell BK164.out 1).trans rfl; have hcz11_2 : w10.cell? ⟨gb164, 2, none⟩ = some (.int .i64 0) := (blk_cell BK164.out 2).trans rfl; have hcz11_3 : w10.cell? ⟨gb164, 3, none⟩ = some (.int .i64 0) := (blk_cell BK164.out 3).trans rfl; have hfz11_0 := blk_frozen BK164.out 0; have hfz11_1 := blk_frozen BK164.out 1; have hfz11_2 := blk_frozen BK164.out 2; have hfz11_3 := blk_frozen BK164.out 3))
        go_roundg k1
        case measure => have := HK1.out; omega
        case rel => exact ⟨(wrap64 (x9_1 + ((rd_T45 l0 x16_1).f3))), (wrap64 (x16_1 + 1)), (by rfl), (by rfl), H', ⟨by have := HK1.out; omega⟩, ⟨by repeat ((with_reducible first | exact HB.out | refine below_set ?_ GE164.out))⟩⟩
       ·rw [if_neg c9] at H
        have c9b0 : decide (((rd_T45 l0 x16_1).f2) ≤ a3) = false := decide_eq_false c9
        clear c9
        have H' := Aside0.mk H
        clear H
        have p163 : 0 ≤ (x16_1 : Int) := of_decide_eq_true (by (with_reducible assumption))
        have q163 : x16_1 < (l0.length : Int) := of_decide_eq_true (by (with_reducible assumption))
        obtain ⟨ad163, e163, hx163_0, hx163_1, hx163_2, hx163_3⟩ := at_T45 HR0.out x16_1 p163 q163
        cases e163
        replace hx163_0 := (HB.out.cell (World.block_lt_of_cell? w _ hx163_0)).trans hx163_0
        replace hx163_1 := (HB.out.cell (World.block_lt_of_cell? w _ hx163_1)).trans hx163_1
        replace hx163_2 := (HB.out.cell (World.block_lt_of_cell? w _ hx163_2)).trans hx163_2
        replace hx163_3 := (HB.out.cell (World.block_lt_of_cell? w _ hx163_3)).trans hx163_3
        replace p163 := eq_true p163
        replace q163 := eq_true q163
        go_wp2_with (((with_reducible refine gate_dst (N := 11) rfl ?_); refine box_event ?hg (N := 11) ?hd (cs := #[.int .i64 0, .int .i64 0, .int .i64 0, .int .i64 0]) (t := 45) ?hr ?_; (case hd => rfl); (case hg => rfl); (case hr => (go_simp; done)); intro gb164 hg w12 hbox hb; have n0_ := Aside0.mk (below_step (by repeat ((with_reducible exact HB.out))) hb); have n1_ := Aside0.mk (hbox); have n2_ := Aside0.mk ((by rw [hg]; exact (below_size (by repeat ((with_reducible exact HB.out)))) : w.heap.size ≤ gb164)); have n3_ := Aside0.mk ((by rw [hg]; exact (below_size (by repeat ((with_reducible exact HB.out)))) : w.heap.size ≤ gb164)); clear HB; have HB := n0_; have BK164 := n1_; have GW164 := n2_; have GE164 := n3_; clear n0_ n1_ n2_ n3_; clear hb hbox hg; have hcz13_0 : w12.cell? ⟨gb164, 0, none⟩ = some (.int .i64 0) := (blk_cell BK164.out 0).trans rfl; have hcz13_1 : w12.cell? ⟨gb164, 1, none⟩ = some (.int .i64 0) := (blk_cell BK164.out 1).trans rfl; have hcz13_2 : w12.cell? ⟨gb164, 2, none⟩ = some (.int .i64 0) := (blk_cell BK164.out 2).trans rfl; have hcz13_3 : w12.cell? ⟨gb164, 3, none⟩ = some (.int .i64 0) := (blk_cell BK164.out 3).trans rfl; have hfz13_0 := blk_frozen BK164.out 0; have hfz13_1 := blk_frozen BK164.out 1; have hfz13_2 := blk_frozen BK164.out 2; have hfz13_3 := blk_frozen BK164.out 3))
        go_roundg k1
        case measure => have := HK1.out; omega
        case rel => exact ⟨(x9_1), (wrap64 (x16_1 + 1)), (by rfl), (by rfl), H', ⟨by have := HK1.out; omega⟩, ⟨by repeat ((with_reducible first | exact HB.out | refine below_set ?_ GE164.out))⟩⟩
      ·rw [if_neg c8] at H
       have c8b0 : decide (a2 ≤ ((rd_T45 l0 x16_1).f1)) = false := decide_eq_false c8
       clear c8
       have H' := Aside0.mk H
       clear H
       have p163 : 0 ≤ (x16_1 : Int) := of_decide_eq_true (by (with_reducible assumption))
       have q163 : x16_1 < (l0.length : Int) := of_decide_eq_true (by (with_reducible assumption))
       obtain ⟨ad163, e163, hx163_0, hx163_1, hx163_2, hx163_3⟩ := at_T45 HR0.out x16_1 p163 q163
       cases e163
       replace hx163_0 := (HB.out.cell (World.block_lt_of_cell? w _ hx163_0)).trans hx163_0
       replace hx163_1 := (HB.out.cell (World.block_lt_of_cell? w _ hx163_1)).trans hx163_1
       replace hx163_2 := (HB.out.cell (World.block_lt_of_cell? w _ hx163_2)).trans hx163_2
       replace hx163_3 := (HB.out.cell (World.block_lt_of_cell? w _ hx163_3)).trans hx163_3
       replace p163 := eq_true p163
       replace q163 := eq_true q163
       go_wp2_with (((with_reducible refine gate_dst (N := 11) rfl ?_); refine box_event ?hg (N := 11) ?hd (cs := #[.int .i64 0, .int .i64 0, .int .i64 0, .int .i64 0]) (t := 45) ?hr ?_; (case hd => rfl); (case hg => rfl); (case hr => (go_simp; done)); intro gb164 hg w14 hbox hb; have n0_ := Aside0.mk (below_step (by repeat ((with_reducible exact HB.out))) hb); have n1_ := Aside0.mk (hbox); have n2_ := Aside0.mk ((by rw [hg]; exact (below_size (by repeat ((with_reducible exact HB.out)))) : w.heap.size ≤ gb164)); have n3_ := Aside0.mk ((by rw [hg]; exact (below_size (by repeat ((with_reducible exact HB.out)))) : w.heap.size ≤ gb164)); clear HB; have HB := n0_; have BK164 := n1_; have GW164 := n2_; have GE164 := n3_; clear n0_ n1_ n2_ n3_; clear hb hbox hg; have hcz15_0 : w14.cell? ⟨gb164, 0, none⟩ = some (.int .i64 0) := (blk_cell BK164.out 0).trans rfl; have hcz15_1 : w14.cell? ⟨gb164, 1, none⟩ = some (.int .i64 0) := (blk_cell BK164.out 1).trans rfl; have hcz15_2 : w14.cell? ⟨gb164, 2, none⟩ = some (.int .i64 0) := (blk_cell BK164.out 2).trans rfl; have hcz15_3 : w14.cell? ⟨gb164, 3, none⟩ = some (.int .i64 0) := (blk_cell BK164.out 3).trans rfl; have hfz15_0 := blk_frozen BK164.out 0; have hfz15_1 := blk_frozen BK164.out 1; have hfz15_2 := blk_frozen BK164.out 2; have hfz15_3 := blk_frozen BK164.out 3))
       go_roundg k1
       case measure => have := HK1.out; omega
       case rel => exact ⟨(x9_1), (wrap64 (x16_1 + 1)), (by rfl), (by rfl), H', ⟨by have := HK1.out; omega⟩, ⟨by repeat ((with_reducible first | exact HB.out | refine below_set ?_ GE164.out))⟩⟩
     ·rw [if_neg c7] at H
      exact absurd H (by simp)
    ·rw [if_neg c6] at H
     exact absurd H (by simp)
   ·rw [if_neg c5] at H
    have c5b0 : decide (x16_1 < (l0.length : Int)) = false := decide_eq_false c5
    clear c5
    have H' := Aside0.mk H
    clear H
    go_wp2
    go_loopg [9, 37] k1 (fun kq v9 v37 w' => ∃ (x9_2 : Int) (x37_2 : Int), v9 = .int .i64 x9_2 ∧ v37 = .int .i64 x37_2 ∧ Aside0 (shift_overfull.l1 kq a2 a3 x9_2 l1 (l1.length : Int) x37_2 = some r) ∧ Aside0 (kq ≤ k1) ∧ Aside0 (Below w.heap.size w w'))
    case atStart => exact ⟨(x9_1), (0), (by rfl), (by rfl), H', ⟨Nat.le_refl _⟩, ⟨by repeat ((with_reducible exact HB.out))⟩⟩
    case round =>
     clear H'
     try clear c1
     try clear p1
     try clear q1
     try clear hx1
     try clear c2
     try clear p2
     try clear c5
     try clear c5b0
     try clear c6
     try clear c6b0
     try clear p6
     try clear c7
     try clear c7b0
     try clear c8
     try clear c8b0
     try clear c9
     try clear c9b0
     try clear hcz11_0
     try clear hcz11_1
     try clear hcz11_2
     try clear hcz11_3
     try clear hcz13_0
     try clear hcz13_1
     try clear hcz13_2
     try clear hcz13_3
     try clear hcz15_0
     try clear hcz15_1
     try clear hcz15_2
     try clear hcz15_3
     try clear hfz11_0
     try clear hfz11_1
     try clear hfz11_2
     try clear hfz11_3
     try clear hfz13_0
     try clear hfz13_1
     try clear hfz13_2
     try clear hfz13_3
     try clear hfz15_0
     try clear hfz15_1
     try clear hfz15_2
     try clear hfz15_3
     try clear hx163_0
     try clear hx163_1
     try clear hx163_2
     try clear hx163_3
     try clear p163
     try clear p2
     try clear q163
     obtain ⟨x9_2, x37_2, rfl, rfl, HA, HK2, HB⟩ := hrel
     cases gk with
     | zero => exact absurd HA.out (by simp [shift_overfull.l1])
     | succ k2 =>
      have H := HA.out
      clear HA
      simp only [shift_overfull.l1] at H
      by_cases c16 : x37_2 < (l1.length : Int)
      ·rw [if_pos c16] at H
       have c16b0 : decide (x37_2 < (l1.length : Int)) = true := decide_eq_true c16
       clear c16
       by_cases c17 : 0 ≤ x37_2
       ·rw [if_pos c17] at H
        have c17b0 : decide (0 ≤ x37_2) = true := decide_eq_true c17
        clear c17
        by_cases c18 : x37_2 < (l1.length : Int)
        ·rw [if_pos c18] at H
         have c18b0 : decide (x37_2 < (l1.length : Int)) = true := decide_eq_true c18
         clear c18
         obtain ⟨ji19, hji19⟩ : ∃ j_ : Int, (mn ((rd_T47 l1 x37_2).f1) a3) = j_ := ⟨_, rfl⟩
         replace H : (shift_overfull.l1 k2 a2 a3 (wrap64 (x9_2 - (mx 0 (wrap64 ((ji19) - (mx ((rd_T47 l1 x37_2).f0) a2)))))) l1 (l1.length : Int) (wrap64 (x37_2 + 1))) = some r := by (rw [hji19] at H; exact H)
         have hji19_ : (if a3 < ((rd_T47 l1 x37_2).f1) then a3 else ((rd_T47 l1 x37_2).f1)) = ji19 := hji19
         obtain ⟨ji20, hji20⟩ : ∃ j_ : Int, (mx ((rd_T47 l1 x37_2).f0) a2) = j_ := ⟨_, rfl⟩
         replace H : (shift_overfull.l1 k2 a2 a3 (wrap64 (x9_2 - (mx 0 (wrap64 ((ji19) - (ji20)))))) l1 (l1.length : Int) (wrap64 (x37_2 + 1))) = some r := by (rw [hji20] at H; exact H)
         have hji20_ : (if ((rd_T47 l1 x37_2).f0) < a2 then a2 else ((rd_T47 l1 x37_2).f0)) = ji20 := hji20
         obtain ⟨ji21, hji21⟩ : ∃ j_ : Int, (mx 0 (wrap64 ((ji19) - (ji20)))) = j_ := ⟨_, rfl⟩
         replace H : (shift_overfull.l1 k2 a2 a3 (wrap64 (x9_2 - (ji21))) l1 (l1.length : Int) (wrap64 (x37_2 + 1))) = some r := by (rw [hji21] at H; exact H)
         have hji21_ : (if 0 < (wrap64 ((ji19) - (ji20))) then (wrap64 ((ji19) - (ji20))) else 0) = ji21 := hji21
         have H' := Aside0.mk H
         clear H
         have p165 : 0 ≤ (x37_2 : Int) := of_decide_eq_true (by (with_reducible assumption))
         have q165 : x37_2 < (l1.length : Int) := of_decide_eq_true (by (with_reducible assumption))
         obtain ⟨ad165, e165, hx165_0, hx165_1⟩ := at_T47 HR1.out x37_2 p165 q165
         cases e165
         replace hx165_0 := (HB.out.cell (World.block_lt_of_cell? w _ hx165_0)).trans hx165_0
         replace hx165_1 := (HB.out.cell (World.block_lt_of_cell? w _ hx165_1)).trans hx165_1
         replace p165 := eq_true p165
         replace q165 := eq_true q165
         go_wp2_with (((with_reducible refine gate_dst (N := 13) rfl ?_); refine box_event ?hg (N := 13) ?hd (cs := #[.int .i64 0, .int .i64 0]) (t := 47) ?hr ?_; (case hd => rfl); (case hg => rfl); (case hr => (go_simp; done)); intro gb166 hg w22 hbox hb; have n0_ := Aside0.mk (below_step (by repeat ((with_reducible exact HB.out))) hb); have n1_ := Aside0.mk (hbox); have n2_ := Aside0.mk ((by rw [hg]; exact (below_size (by repeat ((with_reducible exact HB.out)))) : w.heap.size ≤ gb166)); have n3_ := Aside0.mk ((by rw [hg]; exact (below_size (by repeat ((with_reducible exact HB.out)))) : w.heap.size ≤ gb166)); clear HB; have HB := n0_; have BK166 := n1_; have GW166 := n2_; have GE166 := n3_; clear n0_ n1_ n2_ n3_; clear hb hbox hg; have hcz23_0 : w22.cell? ⟨gb166, 0, none⟩ = some (.int .i64 0) := (blk_cell BK166.out 0).trans rfl; have hcz23_1 : w22.cell? ⟨gb166, 1, none⟩ = some (.int .i64 0) := (blk_cell BK166.out 1).trans rfl; have hfz23_0 := blk_frozen BK166.out 0; have hfz23_1 := blk_frozen BK166.out 1))
         go_roundg k2
         case measure => have := HK1.out; have := HK2.out; omega
         case rel => exact ⟨(wrap64 (x9_2 - (ji21))), (wrap64 (x37_2 + 1)), (by rfl), (by rfl), H', ⟨by have := HK1.out; have := HK2.out; omega⟩, ⟨by repeat ((with_reducible first | exact HB.out | refine below_set ?_ GE166.out))⟩⟩
        ·rw [if_neg c18] at H
         exact absurd H (by simp)
       ·rw [if_neg c17] at H
        exact absurd H (by simp)
      ·rw [if_neg c16] at H
       have c16b0 : decide (x37_2 < (l1.length : Int)) = false := decide_eq_false c16
       clear c16
       obtain rfl := Option.some.inj H
       go_wp2
       go_ret
       exact ⟨by rfl, by repeat ((with_reducible exact HB.out))⟩
end Go.Proofs.Ytbnjdlafnejanaa.Pr
