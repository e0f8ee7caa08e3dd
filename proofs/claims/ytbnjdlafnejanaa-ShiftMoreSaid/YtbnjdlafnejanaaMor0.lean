/- ShiftMore: the law returns true at every input that its statement lets in; there is no condition of this session's. (Joined by a program of this session, pack2.py: printed walks, the plain law, the row.) -/
import Derived.Test.YtbnjdlafnejanaaBa
import Derived.Test.YtbnjdlafnejanaaBb
import Derived.Test.YtbnjdlafnejanaaBc
import Derived.Test.YtbnjdlafnejanaaBd
import Derived.Test.YtbnjdlafnejanaaBe
import Derived.Test.YtbnjdlafnejanaaBf
import Derived.Test.YtbnjdlafnejanaaBg
import Derived.Test.YtbnjdlafnejanaaBh
import Derived.Test.YtbnjdlafnejanaaRows
import Derived.WalkKit
import Derived.ProofKit
import Derived.OpenShut
import Derived.ShutString
import Derived.ChangeOld
import Derived.Below
import Derived.SizedLaws
import Derived.Lib.SmallJoins
set_option linter.unusedVariables false
set_option linter.unusedSimpArgs false
namespace Go.Proofs.Ytbnjdlafnejanaa.Pr
open Go.ChangeShapes Go.WideShapes Go.Deep
open Go.RowKit Go.Proofs.YtbnjdlafnejanaaW.PrintWords Go.Proofs.YtbnjdlafnejanaaW.PrintLast Go.Proofs.YtbnjdlafnejanaaW.PrintMore
theorem cells55 : Try.prog.cellsOf 55 = 2 := by kernel_rfl
theorem cells5 : Try.prog.cellsOf 5 = 1 := by kernel_rfl
section
variable {H : Type} {enc : TypeId × Value → H} {w : World} {held : Bool} {spare : Nat → Bool} {base : Nat}
theorem open_gap {r : Reach} {b0 : Nat} {v : Value} {d : DataW H} {ps : List MemPlace} (hval : Value.okWide Try.prog w r b0 55 v) (hd : DataW.Trod enc Try.prog w base spare held 55 v d ps) :
    ∃ x y, v = .agg #[.int .u8 x, .int .u8 y] ∧ d = .agg [.lit (.int .u8 x), .lit (.int .u8 y)] ∧ ps = [] ∧ (Lit.int .u8 x).wf = true ∧ (Lit.int .u8 y).wf = true := by
  obtain ⟨cs, rfl, hsz⟩ := okWide_struct Try.underlying55 hval
  obtain ⟨fuel, hf⟩ := hd
  obtain ⟨y0, y1, n, hx, hl, h0, h1⟩ := trod_struct2 Try.underlying55 hf
  rw [cells55] at hsz
  obtain ⟨l⟩ := cs
  match l, hsz with
  | [c0, c1], _ =>
    obtain ⟨a, g0, e0, w0⟩ := DataW.trod_int Try.underlying5 h0
    obtain ⟨b, g1, e1, w1⟩ := DataW.trod_int Try.underlying5 h1
    simp [Value.cells, cells5] at g0 g1
    subst g0; subst g1; subst e0; subst e1
    simp only [Prod.mk.injEq] at hx
    exact ⟨a, b, rfl, hx.1, hx.2, w0, w1⟩
theorem shut_gap {x y : Int} (wx : (Lit.int .u8 x).wf = true) (wy : (Lit.int .u8 y).wf = true) : DataW.Trod enc Try.prog w base spare held 55 (.agg #[.int .u8 x, .int .u8 y]) (.agg [.lit (.int .u8 x), .lit (.int .u8 y)]) [] :=
  ⟨2, trod_struct2_mk (n := 1) (cs := [.int .u8 x, .int .u8 y]) (y0 := (.lit (.int .u8 x), [])) (y1 := (.lit (.int .u8 y), [])) Try.underlying55 (by rw [cells55]; rfl) (by simpa [cells5] using trod_int_mk 0 Try.underlying5 wx) (by simpa [cells5] using trod_int_mk 0 Try.underlying5 wy)⟩
end
end Go.Proofs.Ytbnjdlafnejanaa.Pr
namespace Go.Proofs.Ytbnjdlafnejanaa.Pr
open Go.RowKit Go.Proofs.YtbnjdlafnejanaaW.PrintWords Go.Proofs.YtbnjdlafnejanaaW.PrintLast Go.Proofs.YtbnjdlafnejanaaW.PrintMore
attribute [local go_sem] max2_int min2_int max_two min_two max_three min_three max_four min_four   -- for this text's walks alone
set_option linter.unusedVariables false
set_option linter.unusedSimpArgs false
mutual
def letterbaglaw30_ShiftMore.j0 : Nat → Int → List (S45) → List (S47) → List (S51) → Bool → Int → Int → Option (Bool)
 | 0, _, _, _, _, _, _, _ => none
 | k + 1, x2, x9, x10, x11, x42, x370000, x370001 => if x42 = true then ((letterbaglaw30_awake.f k).bind fun t383 => (some t383)) else (if (x9.length : Int) = 0 then (none) else ((some (([] : List (S45)) : List (S45))).bind fun y384 => (if 0 ≤ (Int.tmod (wrap64 (x2)) (x9.length : Int)) then (if (Int.tmod (wrap64 (x2)) (x9.length : Int)) ≤ (x9.length : Int) then ((some (x9.take ((Int.tmod (wrap64 (x2)) (x9.length : Int)) : Int).toNat : List (S45))).bind fun y387 => (if y384.length + y387.length < 4398046511104 then ((some (y384 ++ y387 : List (S45))).bind fun y391 => (if 0 ≤ (wrap64 ((Int.tmod (wrap64 (x2)) (x9.length : Int)) + 1)) then (if (wrap64 ((Int.tmod (wrap64 (x2)) (x9.length : Int)) + 1)) ≤ (x9.length : Int) then ((some (x9.drop ((wrap64 ((Int.tmod (wrap64 (x2)) (x9.length : Int)) + 1)) : Int).toNat : List (S45))).bind fun y394 => (if y391.length + y394.length < 4398046511104 then ((some (y391 ++ y394 : List (S45))).bind fun y398 => ((shift_Make.f y398 x10).bind fun bt401 => (if (x10.length : Int) > 0 then (if 0 ≤ (wrap64 ((x10.length : Int) - 1)) then (if (wrap64 ((x10.length : Int) - 1)) < (x10.length : Int) then (letterbaglaw30_ShiftMore.j1 k x9 x10 x11 bt401.2 y398 bt401.1 (wrap64 ((wrap64 (x370000)) + ((rd_T47 x10 (wrap64 ((x10.length : Int) - 1))).f1))) x370000 x370001) else (none)) else (none)) else (letterbaglaw30_ShiftMore.j1 k x9 x10 x11 bt401.2 y398 bt401.1 (wrap64 (x370000)) x370000 x370001)))) else (none))) else (none)) else (none))) else (none))) else (none)) else (none))))
def letterbaglaw30_ShiftMore.j1 : Nat → List (S45) → List (S47) → List (S51) → Int → List (S45) → List (S51) → Int → Int → Int → Option (Bool)
 | 0, _, _, _, _, _, _, _, _, _ => none
 | k + 1, x9, x10, x11, x12, x14, x15, x16, x370000, x370001 => (some (([] : List (S47)) : List (S47))).bind fun y406 => (if y406.length + x10.length < 8796093022208 then ((some (y406 ++ x10 : List (S47))).bind fun y409 => ((some (([(⟨x16, wrap64 ((wrap64 (x16 + 1)) + (wrap64 (x370001)))⟩ : S47)] : List (S47)) : List (S47))).bind fun y412 => (if y409.length + y412.length < 8796093022208 then ((shift_Make.f x9 (y409 ++ y412)).bind fun bt418 => ((some (([] : List (S47)) : List (S47))).bind fun y422 => (if y422.length + x10.length < 8796093022208 then ((shift_Make.f x9 (y422 ++ x10)).bind fun bt428 => (if (wrap64 ((wrap64 (x12 + bt418.2)) + bt428.2)) = 0 then ((shift_Late.f k x14 x15).bind fun t432 => (if (t432.length : Int) = 0 then ((shift_Late.f k x9 bt418.1).bind fun t435 => (if (t435.length : Int) = 0 then ((letterbaglaw30_sliced.f k x11 bt428.1).bind fun t438 => (if t438 = true then ((shift_Ends.f x9 bt418.1).bind fun t439 => ((shift_Ends.f x9 x11).bind fun t442 => ((letterbagkit_SameInts.f k t439 t442).bind fun t445 => (if t445 = true then ((letterbaglaw30_awake.f k).bind fun t446 => (some t446)) else (some false))))) else (some false))) else (some false))) else (some false))) else (some false))) else (none)))) else (none)))) else (none))
end
def letterbaglaw30_ShiftMore.f (k : Nat) (l0 : List (S61)) (l1 : List (S55)) (a2 : Int) (a3_0 : Int) (a3_1 : Int) : Option (Bool) := (letterbaglaw30_work.f k l0).bind fun t370 => ((letterbaglaw30_hours.f k l1).bind fun t373 => ((shift_Make.f t370 t373).bind fun bt376 => (if bt376.2 = 0 then ((shift_Late.f k t370 bt376.1).bind fun t380 => (if (t380.length : Int) > 0 then (letterbaglaw30_ShiftMore.j0 k a2 t370 t373 bt376.1 true a3_0 a3_1) else (letterbaglaw30_ShiftMore.j0 k a2 t370 t373 bt376.1 ((t370.length : Int) == 0) a3_0 a3_1))) else (some false))))
def letterbaglaw30_ShiftMore.T8 : Bool × List (List Nat × List Nat) := (true, [([], []), ([], []), ([], []), ([1, 2], [1, 2]), ([0, 3], [0, 3]), ([], []), ([], []), ([6], [6]), ([5, 7], [5, 7]), ([4, 8, 4], [4, 8]), ([9, 9, 0, 1, 2, 3, 4, 5, 6, 7, 8, 9], [9])])
def letterbaglaw30_ShiftMore.B8 : List Nat := [0, 0, 0, 6, 15, 0, 0, 64, 224, 511, 1023]
theorem letterbaglaw30_ShiftMore.tab8 : rtab .any (opsOf Try.f7 8) = letterbaglaw30_ShiftMore.T8 := by kernel_rfl
theorem letterbaglaw30_ShiftMore.bits8 : waitsOk letterbaglaw30_ShiftMore.T8.2 letterbaglaw30_ShiftMore.B8 = true := by kernel_rfl
def letterbaglaw30_ShiftMore.T13 : Bool × List (List Nat × List Nat) := (true, [([], []), ([], []), ([], []), ([1, 2], [1, 2]), ([], []), ([], []), ([5], [5]), ([], []), ([7], [7]), ([8], [8]), ([6, 9], [6, 9]), ([4, 10], [4, 10]), ([11], [11]), ([3, 12, 3], [3, 12]), ([0, 13, 13], [0, 13]), ([14], [14]), ([15], [15]), ([15], [15]), ([16, 14, 0, 1, 2, 3, 4, 5, 6, 7, 8, 9, 10, 11, 12, 13, 14, 15, 16], [16]), ([17, 18, 0, 1, 2, 3, 4, 5, 6, 7, 8, 9, 10, 11, 12, 13, 14, 15, 16, 17, 18], [17])])
def letterbaglaw30_ShiftMore.B13 : List Nat := [0, 0, 0, 6, 0, 0, 32, 0, 128, 384, 992, 2032, 4080, 8190, 16383, 32767, 65535, 65535, 131071, 524287]
theorem letterbaglaw30_ShiftMore.tab13 : rtab .any (opsOf Try.f7 13) = letterbaglaw30_ShiftMore.T13 := by kernel_rfl
theorem letterbaglaw30_ShiftMore.bits13 : waitsOk letterbaglaw30_ShiftMore.T13.2 letterbaglaw30_ShiftMore.B13 = true := by kernel_rfl
set_option maxHeartbeats 8000000 in
set_option maxRecDepth 100000 in
theorem letterbaglaw30_ShiftMore.calls (k : Nat) (A0 : Option Addr) (c0 : Nat) (l0 : List (S61)) (A1 : Option Addr) (c1 : Nat) (l1 : List (S55)) (a2 : Int) (a3_0 : Int) (a3_1 : Int) (w : World) (hr0 : Kd.C k61 w A0 l0.length l0) (hc0 : l0.length ≤ c0) (hr1 : Kd.C k55 w A1 l1.length l1) (hc1 : l1.length ≤ c1) (h : letterbaglaw30_ShiftMore.f k l0 l1 a2 a3_0 a3_1 = some true) :
  Calls Try.prog 7 #[.slice A0 l0.length c0, .slice A1 l1.length c1, .int .u8 a2, .agg #[.int .u8 a3_0, .int .u8 a3_1]] w fun e w' => e = .returned (.bool true) ∧ Below w.heap.size w w' := by
 have hu55 := Try.underlying55
 have hu47 := Try.underlying47
 have HR0 := Aside0.mk hr0
 have HC0 := Aside0.mk hc0
 clear hr0 hc0
 have HR1 := Aside0.mk hr1
 have HC1 := Aside0.mk hc1
 clear hr1 hc1
 have HB := Aside0.mk (Below.refl w.heap.size w)
 have H : ((letterbaglaw30_work.f k l0).bind fun t370 => ((letterbaglaw30_hours.f k l1).bind fun t373 => ((shift_Make.f t370 t373).bind fun bt376 => (if bt376.2 = 0 then ((shift_Late.f k t370 bt376.1).bind fun t380 => (if (t380.length : Int) > 0 then (letterbaglaw30_ShiftMore.j0 k a2 t370 t373 bt376.1 true a3_0 a3_1) else (letterbaglaw30_ShiftMore.j0 k a2 t370 t373 bt376.1 ((t370.length : Int) == 0) a3_0 a3_1))) else (some false))))) = some true := h
 clear h
 replace H := Option.bind_eq_some_iff.mp H
 obtain ⟨t370, A50, H⟩ := H
 replace H : ((letterbaglaw30_hours.f k l1).bind fun t373 => ((shift_Make.f t370 t373).bind fun bt376 => (if bt376.2 = 0 then ((shift_Late.f k t370 bt376.1).bind fun t380 => (if (t380.length : Int) > 0 then (letterbaglaw30_ShiftMore.j0 k a2 t370 t373 bt376.1 true a3_0 a3_1) else (letterbaglaw30_ShiftMore.j0 k a2 t370 t373 bt376.1 ((t370.length : Int) == 0) a3_0 a3_1))) else (some false)))) = some true := H
 have A5 := Aside0.mk A50
 clear A50
 replace H := Option.bind_eq_some_iff.mp H
 obtain ⟨t373, A60, H⟩ := H
 replace H : ((shift_Make.f t370 t373).bind fun bt376 => (if bt376.2 = 0 then ((shift_Late.f k t370 bt376.1).bind fun t380 => (if (t380.length : Int) > 0 then (letterbaglaw30_ShiftMore.j0 k a2 t370 t373 bt376.1 true a3_0 a3_1) else (letterbaglaw30_ShiftMore.j0 k a2 t370 t373 bt376.1 ((t370.length : Int) == 0) a3_0 a3_1))) else (some false))) = some true := H
 have A6 := Aside0.mk A60
 clear A60
 replace H := Option.bind_eq_some_iff.mp H
 obtain ⟨⟨t376, t377⟩, A70, H⟩ := H
 replace H : (if t377 = 0 then ((shift_Late.f k t370 t376).bind fun t380 => (if (t380.length : Int) > 0 then (letterbaglaw30_ShiftMore.j0 k a2 t370 t373 t376 true a3_0 a3_1) else (letterbaglaw30_ShiftMore.j0 k a2 t370 t373 t376 ((t370.length : Int) == 0) a3_0 a3_1))) else (some false)) = some true := H
 have A7 := Aside0.mk A70
 clear A70
 by_cases c8 : t377 = 0
 ·rw [if_pos c8] at H
  have c8b0 : (t377 == 0) = true := beq_iff_eq.mpr c8
  have c8b1 : (t377 != 0) = false := bne_eq_false_iff_eq.mpr c8
  clear c8
  have HC9 := Aside0.mk H
  clear H
  go_enter Try.func7, Try.ntmps7
  go_upto_region 5 with (first | ((with_reducible refine gate_dst (N := 7) rfl ?_); (try (refine gate_guard (by rfl) ?_; dsimp only)); refine box_event ?hg (N := 7) ?hd (cs := #[.int .u8 a3_0, .int .u8 a3_1]) (t := 55) ?hr ?_; (case hd => rfl); (case hg => rfl); (case hr => (go_simp; done)); intro gb369 hg w10 hbox hb; have n0_ := Aside0.mk (below_step (by repeat ((with_reducible exact HB.out))) hb); have n1_ := Aside0.mk (hbox); have n2_ := Aside0.mk ((by rw [hg]; exact (below_size (by repeat ((with_reducible exact HB.out)))) : w.heap.size ≤ gb369)); have n3_ := Aside0.mk ((by rw [hg]; exact (below_size (by repeat ((with_reducible exact HB.out)))) : w.heap.size ≤ gb369)); clear HB; have HB := n0_; have BK369 := n1_; have GW369 := n2_; have GE369 := n3_; clear n0_ n1_ n2_ n3_; clear hb hbox hg) | ((with_reducible refine gate_callee (f := 10) rfl ?_); refine goesL_ (some 22) rfl rfl Try.func10 (by kernel_rfl) rfl #[.slice A0 l0.length c0] rfl (by (try simp only [List.map_toArray, List.map_cons, List.map_nil]); rfl) ?_; (with_reducible refine (letterbaglaw30_work.calls k _ _ l0 t370 _ ?side1 ?side2 A5.out).mono ?_); (case side1 => repeat (exact (Kd.C_below HR0.out HB.out))); (case side2 => exact HC0.out); rintro e w11 ⟨v371, rfl, ho0, hb⟩; refine ⟨_, rfl, ?_⟩; have n0_ := Aside0.mk (Kd.R_lower ho0 (below_size (by repeat ((with_reducible exact HB.out))))); have n1_ := Aside0.mk (blk_below (g := gb369) (o := .cells #[.int .u8 a3_0, .int .u8 a3_1] 55 (0, 0)) (by (with_reducible repeat (fail)); exact BK369.out) hb); have n2_ := Aside0.mk (below_step (by repeat ((with_reducible exact HB.out))) hb); clear BK369; clear HB; have HO372 := n0_; have BK369 := n1_; have HB := n2_; clear n0_ n1_ n2_; (try clear hb); (try clear hb2); (try clear hk); (try clear hi); (try clear ho0)) | ((with_reducible refine gate_callee (f := 11) rfl ?_); refine goesL_ (some 24) rfl rfl Try.func11 (by kernel_rfl) rfl #[.slice A1 l1.length c1] rfl (by (try simp only [List.map_toArray, List.map_cons, List.map_nil]); rfl) ?_; (with_reducible refine (letterbaglaw30_hours.calls k _ _ l1 t373 _ ?side1 ?side2 A6.out).mono ?_); (case side1 => repeat (exact (Kd.C_below HR1.out HB.out))); (case side2 => exact HC1.out); rintro e w12 ⟨v374, rfl, ho0, hb⟩; refine ⟨_, rfl, ?_⟩; have n0_ := Aside0.mk (Kd.R_below (by (with_reducible repeat (fail)); exact HO372.out) hb); have n1_ := Aside0.mk (Kd.R_lower ho0 (below_size (by repeat ((with_reducible exact HB.out))))); have n2_ := Aside0.mk (blk_below (g := gb369) (o := .cells #[.int .u8 a3_0, .int .u8 a3_1] 55 (0, 0)) (by (with_reducible repeat (fail)); exact BK369.out) hb); have n3_ := Aside0.mk (below_step (by repeat ((with_reducible exact HB.out))) hb); clear HO372; clear BK369; clear HB; have HO372 := n0_; have HO375 := n1_; have BK369 := n2_; have HB := n3_; clear n0_ n1_ n2_ n3_; (try clear hb); (try clear hb2); (try clear hk); (try clear hi); (try clear ho0); obtain ⟨Ao13, co13, eo13⟩ := Kd.R_slice HO372.out; subst eo13; obtain ⟨Ao14, co14, eo14⟩ := Kd.R_slice HO375.out; subst eo14) | ((with_reducible refine gate_callee (f := 12) rfl ?_); refine goesL_ (some 28) rfl rfl Try.func12 (by kernel_rfl) rfl #[.slice Ao13 t370.length co13, .slice Ao14 t373.length co14] rfl (by (try simp only [List.map_toArray, List.map_cons, List.map_nil]); rfl) ?_; (with_reducible refine (shift_Make.calls _ _ t370 _ _ t373 t376 t377 _ ?side1 ?side2 ?side3 ?side4 A7.out).mono ?_); (case side1 => repeat (exact (Kd.R_reads' HO372.out).2.2)); (case side2 => exact (Kd.R_reads' HO372.out).2.1); (case side3 => repeat (exact (Kd.R_reads' HO375.out).2.2)); (case side4 => exact (Kd.R_reads' HO375.out).2.1); rintro e w15 ⟨v378, rfl, ho0, hb⟩; refine ⟨_, rfl, ?_⟩; have n0_ := Aside0.mk (Kd.R_below (by (with_reducible repeat (fail)); exact HO372.out) hb); have n1_ := Aside0.mk (Kd.R_below (by (with_reducible repeat (fail)); exact HO375.out) hb); have n2_ := Aside0.mk (Kd.R_lower ho0 (below_size (by repeat ((with_reducible exact HB.out))))); have n3_ := Aside0.mk (blk_below (g := gb369) (o := .cells #[.int .u8 a3_0, .int .u8 a3_1] 55 (0, 0)) (by (with_reducible repeat (fail)); exact BK369.out) hb); have n4_ := Aside0.mk (below_step (by repeat ((with_reducible exact HB.out))) hb); clear HO372; clear HO375; clear BK369; clear HB; have HO372 := n0_; have HO375 := n1_; have HO379 := n2_; have BK369 := n3_; have HB := n4_; clear n0_ n1_ n2_ n3_ n4_; (try clear hb); (try clear hb2); (try clear hk); (try clear hi); (try clear ho0)))
  (try simp only [Act.put, List.setIfInBounds_toArray, List.set_cons_zero, List.set_cons_succ])
  go_cut [42] (fun v42 wc => ∃ (kq : Nat) (x42_8 : Bool), v42 = .bool x42_8 ∧ Aside0 (letterbaglaw30_ShiftMore.j0 kq a2 t370 t373 t376 x42_8 a3_0 a3_1 = some true) ∧ Aside0 (kq ≤ k) ∧ Aside0 (Kd.R k45 45 wc w.heap.size (fun _ => True) (.slice Ao13 t370.length co13) t370) ∧ Aside0 (Kd.R k47 47 wc w.heap.size (fun _ => True) (.slice Ao14 t373.length co14) t373) ∧ Aside0 (Kd.R k51 51 wc w.heap.size (fun _ => True) v378 t376) ∧ Aside0 (wc.heap[gb369]? = some (.cells #[.int .u8 a3_0, .int .u8 a3_1] 55 (0, 0))) ∧ Aside0 (Below w.heap.size w wc))
  case first => as_aux_lemma =>
   have H := HC9.out
   clear HC9
   replace H := Option.bind_eq_some_iff.mp H
   obtain ⟨t380, A160, H⟩ := H
   replace H : (if (t380.length : Int) > 0 then (letterbaglaw30_ShiftMore.j0 k a2 t370 t373 t376 true a3_0 a3_1) else (letterbaglaw30_ShiftMore.j0 k a2 t370 t373 t376 ((t370.length : Int) == 0) a3_0 a3_1)) = some true := H
   have A16 := Aside0.mk A160
   clear A160
   by_cases c17 : (t380.length : Int) > 0
   ·rw [if_pos c17] at H
    have c17b0 : decide (0 < (t380.length : Int)) = true := decide_eq_true c17
    have c17b1 : decide (0 < t380.length) = true := decide_eq_true (by omega)
    clear c17
    (skip)
    have H' := Aside0.mk H
    clear H
    obtain ⟨Ao18, co18, eo18⟩ := Kd.R_slice HO379.out
    subst eo18
    go_wp2_with (((with_reducible refine gate_callee (f := 15) rfl ?_); refine goesL_ (some 35) rfl rfl Try.func15 (by kernel_rfl) rfl #[.slice Ao13 t370.length co13, .slice Ao18 t376.length co18] rfl (by (try simp only [List.map_toArray, List.map_cons, List.map_nil]); rfl) ?_; (with_reducible refine (shift_Late.calls k _ _ t370 _ _ t376 t380 _ ?side1 ?side2 ?side3 ?side4 A16.out).mono ?_); (case side1 => repeat (exact (Kd.R_reads' HO372.out).2.2)); (case side2 => exact (Kd.R_reads' HO372.out).2.1); (case side3 => repeat (exact (Kd.R_reads' HO379.out).2.2)); (case side4 => exact (Kd.R_reads' HO379.out).2.1); rintro e w19 ⟨v381, rfl, ho0, hb⟩; refine ⟨_, rfl, ?_⟩; have n0_ := Aside0.mk (Kd.R_below (by (with_reducible repeat (fail)); exact HO372.out) hb); have n1_ := Aside0.mk (Kd.R_below (by (with_reducible repeat (fail)); exact HO375.out) hb); have n2_ := Aside0.mk (Kd.R_below (by (with_reducible repeat (fail)); exact HO379.out) hb); have n3_ := Aside0.mk (Kd.R_lower ho0 (below_size (by repeat ((with_reducible exact HB.out))))); have n4_ := Aside0.mk (blk_below (g := gb369) (o := .cells #[.int .u8 a3_0, .int .u8 a3_1] 55 (0, 0)) (by (with_reducible repeat (fail)); exact BK369.out) hb); have n5_ := Aside0.mk (below_step (by repeat ((with_reducible exact HB.out))) hb); clear HO372; clear HO375; clear HO379; clear BK369; clear HB; have HO372 := n0_; have HO375 := n1_; have HO379 := n2_; have HO382 := n3_; have BK369 := n4_; have HB := n5_; clear n0_ n1_ n2_ n3_ n4_ n5_; (try clear hb); (try clear hb2); (try clear hk); (try clear hi); (try clear ho0); obtain ⟨Ao20, co20, eo20⟩ := Kd.R_slice HO382.out; subst eo20))
    go_meet
    case rel => exact ⟨_, (true), (by rfl), H', ⟨by omega⟩, ⟨by (with_reducible repeat (fail)); exact HO372.out⟩, ⟨by (with_reducible repeat (fail)); exact HO375.out⟩, ⟨by (with_reducible repeat (fail)); exact HO379.out⟩, ⟨by (with_reducible repeat (fail)); exact BK369.out⟩, ⟨by repeat ((with_reducible exact HB.out))⟩⟩
   ·rw [if_neg c17] at H
    have c17b0 : decide (0 < (t380.length : Int)) = false := decide_eq_false c17
    have c17b1 : decide (0 < t380.length) = false := decide_eq_false (by omega)
    clear c17
    (skip)
    have H' := Aside0.mk H
    clear H
    obtain ⟨Ao21, co21, eo21⟩ := Kd.R_slice HO379.out
    subst eo21
    go_wp2_with (((with_reducible refine gate_callee (f := 15) rfl ?_); refine goesL_ (some 35) rfl rfl Try.func15 (by kernel_rfl) rfl #[.slice Ao13 t370.length co13, .slice Ao21 t376.length co21] rfl (by (try simp only [List.map_toArray, List.map_cons, List.map_nil]); rfl) ?_; (with_reducible refine (shift_Late.calls k _ _ t370 _ _ t376 t380 _ ?side1 ?side2 ?side3 ?side4 A16.out).mono ?_); (case side1 => repeat (exact (Kd.R_reads' HO372.out).2.2)); (case side2 => exact (Kd.R_reads' HO372.out).2.1); (case side3 => repeat (exact (Kd.R_reads' HO379.out).2.2)); (case side4 => exact (Kd.R_reads' HO379.out).2.1); rintro e w22 ⟨v381, rfl, ho0, hb⟩; refine ⟨_, rfl, ?_⟩; have n0_ := Aside0.mk (Kd.R_below (by (with_reducible repeat (fail)); exact HO372.out) hb); have n1_ := Aside0.mk (Kd.R_below (by (with_reducible repeat (fail)); exact HO375.out) hb); have n2_ := Aside0.mk (Kd.R_below (by (with_reducible repeat (fail)); exact HO379.out) hb); have n3_ := Aside0.mk (Kd.R_lower ho0 (below_size (by repeat ((with_reducible exact HB.out))))); have n4_ := Aside0.mk (blk_below (g := gb369) (o := .cells #[.int .u8 a3_0, .int .u8 a3_1] 55 (0, 0)) (by (with_reducible repeat (fail)); exact BK369.out) hb); have n5_ := Aside0.mk (below_step (by repeat ((with_reducible exact HB.out))) hb); clear HO372; clear HO375; clear HO379; clear BK369; clear HB; have HO372 := n0_; have HO375 := n1_; have HO379 := n2_; have HO382 := n3_; have BK369 := n4_; have HB := n5_; clear n0_ n1_ n2_ n3_ n4_ n5_; (try clear hb); (try clear hb2); (try clear hk); (try clear hi); (try clear ho0); obtain ⟨Ao23, co23, eo23⟩ := Kd.R_slice HO382.out; subst eo23))
    go_meet
    case rel => exact ⟨_, (((t370.length : Int) == 0)), (by rfl), H', ⟨by omega⟩, ⟨by (with_reducible repeat (fail)); exact HO372.out⟩, ⟨by (with_reducible repeat (fail)); exact HO375.out⟩, ⟨by (with_reducible repeat (fail)); exact HO379.out⟩, ⟨by (with_reducible repeat (fail)); exact BK369.out⟩, ⟨by repeat ((with_reducible exact HB.out))⟩⟩
  case rest => as_aux_lemma =>
   clear HC9
   try clear c1
   try clear p2
   try clear c7
   try clear c8
   try clear c8b0
   try clear c8b1
   try clear c10
   try clear c11
   try clear c12
   try clear c15
   try clear c17
   try clear c17b0
   try clear c17b1
   obtain ⟨kq, x42_8, rfl, HA, HJ8, HO_9, HO_10, HO_11, BK369, HB⟩ := hcut
   cases kq with
   | zero => exact absurd HA.out (by simp [letterbaglaw30_ShiftMore.j0])
   | succ kj8 =>
    have H := HA.out
    clear HA
    simp only [letterbaglaw30_ShiftMore.j0] at H
    by_cases c24 : x42_8 = true
    ·subst c24
     have H1 : ((letterbaglaw30_awake.f kj8).bind fun t383 => (some t383)) = some true := by rw [if_pos rfl] at H; exact H
     clear H
     have H := H1
     clear H1
     replace H := Option.bind_eq_some_iff.mp H
     obtain ⟨t383, A250, H⟩ := H
     replace H : (some t383) = some true := H
     have A25 := Aside0.mk A250
     clear A250
     have HT_ := Aside0.mk (Option.some.inj H)
     go_wp2_with (((with_reducible refine gate_callee (f := 17) rfl ?_); refine goesL_ (some 43) rfl rfl Try.func17 (by kernel_rfl) rfl #[] rfl (by (try simp only [List.map_toArray, List.map_cons, List.map_nil]); done) ?_; (with_reducible refine (letterbaglaw30_awake.calls kj8  t383 _ A25.out).mono ?_); rintro e w26 ⟨rfl, hb⟩; refine ⟨_, rfl, ?_⟩; have n0_ := Aside0.mk (Kd.R_below (by (with_reducible repeat (fail)); exact HO_9.out) hb); have n1_ := Aside0.mk (Kd.R_below (by (with_reducible repeat (fail)); exact HO_10.out) hb); have n2_ := Aside0.mk (Kd.R_below (by (with_reducible repeat (fail)); exact HO_11.out) hb); have n3_ := Aside0.mk (blk_below (g := gb369) (o := .cells #[.int .u8 a3_0, .int .u8 a3_1] 55 (0, 0)) (by (with_reducible repeat (fail)); exact BK369.out) hb); have n4_ := Aside0.mk (below_step (by repeat ((with_reducible exact HB.out))) hb); clear HO_9; clear HO_10; clear HO_11; clear BK369; clear HB; have HO_9 := n0_; have HO_10 := n1_; have HO_11 := n2_; have BK369 := n3_; have HB := n4_; clear n0_ n1_ n2_ n3_ n4_; (try clear hb); (try clear hb2); (try clear hk); (try clear hi)))
     go_ret
     exact ⟨by (rw [HT_.out]; rfl), by repeat ((with_reducible exact HB.out))⟩
    ·replace c24 := Bool.eq_false_iff.mpr c24
     subst c24
     have H1 : (if (t370.length : Int) = 0 then (none) else ((some (([] : List (S45)) : List (S45))).bind fun y384 => (if 0 ≤ (Int.tmod (wrap64 (a2)) (t370.length : Int)) then (if (Int.tmod (wrap64 (a2)) (t370.length : Int)) ≤ (t370.length : Int) then ((some (t370.take ((Int.tmod (wrap64 (a2)) (t370.length : Int)) : Int).toNat : List (S45))).bind fun y387 => (if y384.length + y387.length < 4398046511104 then ((some (y384 ++ y387 : List (S45))).bind fun y391 => (if 0 ≤ (wrap64 ((Int.tmod (wrap64 (a2)) (t370.length : Int)) + 1)) then (if (wrap64 ((Int.tmod (wrap64 (a2)) (t370.length : Int)) + 1)) ≤ (t370.length : Int) then ((some (t370.drop ((wrap64 ((Int.tmod (wrap64 (a2)) (t370.length : Int)) + 1)) : Int).toNat : List (S45))).bind fun y394 => (if y391.length + y394.length < 4398046511104 then ((some (y391 ++ y394 : List (S45))).bind fun y398 => ((shift_Make.f y398 t373).bind fun bt401 => (if (t373.length : Int) > 0 then (if 0 ≤ (wrap64 ((t373.length : Int) - 1)) then (if (wrap64 ((t373.length : Int) - 1)) < (t373.length : Int) then (letterbaglaw30_ShiftMore.j1 kj8 t370 t373 t376 bt401.2 y398 bt401.1 (wrap64 ((wrap64 (a3_0)) + ((rd_T47 t373 (wrap64 ((t373.length : Int) - 1))).f1))) a3_0 a3_1) else (none)) else (none)) else (letterbaglaw30_ShiftMore.j1 kj8 t370 t373 t376 bt401.2 y398 bt401.1 (wrap64 (a3_0)) a3_0 a3_1)))) else (none))) else (none)) else (none))) else (none))) else (none)) else (none)))) = some true := by rw [if_neg (show ¬ (false = true) by decide)] at H; exact H
     clear H
     have H := H1
     clear H1
     by_cases c27 : (t370.length : Int) = 0
     ·rw [if_pos c27] at H
      exact absurd H (by simp)
     ·rw [if_neg c27] at H
      have c27b0 : ((t370.length : Int) == 0) = false := beq_eq_false_iff_ne.mpr c27
      have c27b1 : ((t370.length : Int) != 0) = true := bne_iff_ne.mpr c27
      have c27b2 : ¬ (t370 = []) := fun h_ => c27 (by rw [h_]; rfl)
      obtain ⟨y384, hy384⟩ : ∃ y_ : List (S45), y_ = (([] : List (S45))) := ⟨_, rfl⟩
      replace H : (if 0 ≤ (Int.tmod (wrap64 (a2)) (t370.length : Int)) then (if (Int.tmod (wrap64 (a2)) (t370.length : Int)) ≤ (t370.length : Int) then ((some (t370.take ((Int.tmod (wrap64 (a2)) (t370.length : Int)) : Int).toNat : List (S45))).bind fun y387 => (if y384.length + y387.length < 4398046511104 then ((some (y384 ++ y387 : List (S45))).bind fun y391 => (if 0 ≤ (wrap64 ((Int.tmod (wrap64 (a2)) (t370.length : Int)) + 1)) then (if (wrap64 ((Int.tmod (wrap64 (a2)) (t370.length : Int)) + 1)) ≤ (t370.length : Int) then ((some (t370.drop ((wrap64 ((Int.tmod (wrap64 (a2)) (t370.length : Int)) + 1)) : Int).toNat : List (S45))).bind fun y394 => (if y391.length + y394.length < 4398046511104 then ((some (y391 ++ y394 : List (S45))).bind fun y398 => ((shift_Make.f y398 t373).bind fun bt401 => (if (t373.length : Int) > 0 then (if 0 ≤ (wrap64 ((t373.length : Int) - 1)) then (if (wrap64 ((t373.length : Int) - 1)) < (t373.length : Int) then (letterbaglaw30_ShiftMore.j1 kj8 t370 t373 t376 bt401.2 y398 bt401.1 (wrap64 ((wrap64 (a3_0)) + ((rd_T47 t373 (wrap64 ((t373.length : Int) - 1))).f1))) a3_0 a3_1) else (none)) else (none)) else (letterbaglaw30_ShiftMore.j1 kj8 t370 t373 t376 bt401.2 y398 bt401.1 (wrap64 (a3_0)) a3_0 a3_1)))) else (none))) else (none)) else (none))) else (none))) else (none)) else (none)) = some true := by (have H2_ := (Option.bind_some _ _).symm.trans H; rw [hy384]; with_reducible exact H2_)
      have Ny384 := Aside0.mk hy384
      clear hy384
      obtain ⟨ji28, hji28⟩ : ∃ j_ : Int, (Int.tmod (wrap64 (a2)) (t370.length : Int)) = j_ := ⟨_, rfl⟩
      replace H : (if 0 ≤ (ji28) then (if (ji28) ≤ (t370.length : Int) then ((some (t370.take ((ji28) : Int).toNat : List (S45))).bind fun y387 => (if y384.length + y387.length < 4398046511104 then ((some (y384 ++ y387 : List (S45))).bind fun y391 => (if 0 ≤ (wrap64 ((ji28) + 1)) then (if (wrap64 ((ji28) + 1)) ≤ (t370.length : Int) then ((some (t370.drop ((wrap64 ((ji28) + 1)) : Int).toNat : List (S45))).bind fun y394 => (if y391.length + y394.length < 4398046511104 then ((some (y391 ++ y394 : List (S45))).bind fun y398 => ((shift_Make.f y398 t373).bind fun bt401 => (if (t373.length : Int) > 0 then (if 0 ≤ (wrap64 ((t373.length : Int) - 1)) then (if (wrap64 ((t373.length : Int) - 1)) < (t373.length : Int) then (letterbaglaw30_ShiftMore.j1 kj8 t370 t373 t376 bt401.2 y398 bt401.1 (wrap64 ((wrap64 (a3_0)) + ((rd_T47 t373 (wrap64 ((t373.length : Int) - 1))).f1))) a3_0 a3_1) else (none)) else (none)) else (letterbaglaw30_ShiftMore.j1 kj8 t370 t373 t376 bt401.2 y398 bt401.1 (wrap64 (a3_0)) a3_0 a3_1)))) else (none))) else (none)) else (none))) else (none))) else (none)) else (none)) = some true := by (rw [hji28] at H; exact H)
      by_cases c29 : 0 ≤ (ji28)
      ·rw [if_pos c29] at H
       have c29b0 := eq_true c29
       have c29b1 : decide (0 ≤ (ji28)) = true := decide_eq_true c29
       clear c29
       by_cases c30 : (ji28) ≤ (t370.length : Int)
       ·rw [if_pos c30] at H
        have c30b0 := eq_true c30
        have c30b1 : decide ((ji28) ≤ (t370.length : Int)) = true := decide_eq_true c30
        clear c30
        obtain ⟨y387, hy387⟩ : ∃ y_ : List (S45), y_ = (t370.take ((ji28) : Int).toNat) := ⟨_, rfl⟩
        replace H : (if y384.length + y387.length < 4398046511104 then ((some (y384 ++ y387 : List (S45))).bind fun y391 => (if 0 ≤ (wrap64 ((ji28) + 1)) then (if (wrap64 ((ji28) + 1)) ≤ (t370.length : Int) then ((some (t370.drop ((wrap64 ((ji28) + 1)) : Int).toNat : List (S45))).bind fun y394 => (if y391.length + y394.length < 4398046511104 then ((some (y391 ++ y394 : List (S45))).bind fun y398 => ((shift_Make.f y398 t373).bind fun bt401 => (if (t373.length : Int) > 0 then (if 0 ≤ (wrap64 ((t373.length : Int) - 1)) then (if (wrap64 ((t373.length : Int) - 1)) < (t373.length : Int) then (letterbaglaw30_ShiftMore.j1 kj8 t370 t373 t376 bt401.2 y398 bt401.1 (wrap64 ((wrap64 (a3_0)) + ((rd_T47 t373 (wrap64 ((t373.length : Int) - 1))).f1))) a3_0 a3_1) else (none)) else (none)) else (letterbaglaw30_ShiftMore.j1 kj8 t370 t373 t376 bt401.2 y398 bt401.1 (wrap64 (a3_0)) a3_0 a3_1)))) else (none))) else (none)) else (none))) else (none)) = some true := by (have H2_ := (Option.bind_some _ _).symm.trans H; rw [hy387]; with_reducible exact H2_)
        have Ny387 := Aside0.mk hy387
        clear hy387
        by_cases c31 : y384.length + y387.length < 4398046511104
        ·rw [if_pos c31] at H
         have LMc31 := Aside0.mk c31
         clear c31
         obtain ⟨y391, hy391⟩ : ∃ y_ : List (S45), y_ = (y384 ++ y387) := ⟨_, rfl⟩
         replace H : (if 0 ≤ (wrap64 ((ji28) + 1)) then (if (wrap64 ((ji28) + 1)) ≤ (t370.length : Int) then ((some (t370.drop ((wrap64 ((ji28) + 1)) : Int).toNat : List (S45))).bind fun y394 => (if y391.length + y394.length < 4398046511104 then ((some (y391 ++ y394 : List (S45))).bind fun y398 => ((shift_Make.f y398 t373).bind fun bt401 => (if (t373.length : Int) > 0 then (if 0 ≤ (wrap64 ((t373.length : Int) - 1)) then (if (wrap64 ((t373.length : Int) - 1)) < (t373.length : Int) then (letterbaglaw30_ShiftMore.j1 kj8 t370 t373 t376 bt401.2 y398 bt401.1 (wrap64 ((wrap64 (a3_0)) + ((rd_T47 t373 (wrap64 ((t373.length : Int) - 1))).f1))) a3_0 a3_1) else (none)) else (none)) else (letterbaglaw30_ShiftMore.j1 kj8 t370 t373 t376 bt401.2 y398 bt401.1 (wrap64 (a3_0)) a3_0 a3_1)))) else (none))) else (none)) else (none)) = some true := by (have H2_ := (Option.bind_some _ _).symm.trans H; rw [hy391]; with_reducible exact H2_)
         have Ny391 := Aside0.mk hy391
         clear hy391
         obtain ⟨ji32, hji32⟩ : ∃ j_ : Int, (wrap64 ((ji28) + 1)) = j_ := ⟨_, rfl⟩
         replace H : (if 0 ≤ (ji32) then (if (ji32) ≤ (t370.length : Int) then ((some (t370.drop ((ji32) : Int).toNat : List (S45))).bind fun y394 => (if y391.length + y394.length < 4398046511104 then ((some (y391 ++ y394 : List (S45))).bind fun y398 => ((shift_Make.f y398 t373).bind fun bt401 => (if (t373.length : Int) > 0 then (if 0 ≤ (wrap64 ((t373.length : Int) - 1)) then (if (wrap64 ((t373.length : Int) - 1)) < (t373.length : Int) then (letterbaglaw30_ShiftMore.j1 kj8 t370 t373 t376 bt401.2 y398 bt401.1 (wrap64 ((wrap64 (a3_0)) + ((rd_T47 t373 (wrap64 ((t373.length : Int) - 1))).f1))) a3_0 a3_1) else (none)) else (none)) else (letterbaglaw30_ShiftMore.j1 kj8 t370 t373 t376 bt401.2 y398 bt401.1 (wrap64 (a3_0)) a3_0 a3_1)))) else (none))) else (none)) else (none)) = some true := by (rw [hji32] at H; exact H)
         have hji32w : (IntKind.i64.wrap ((ji28) + 1)) = ji32 := (i64_w _).trans hji32
         by_cases c33 : 0 ≤ (ji32)
         ·rw [if_pos c33] at H
          have c33b0 := eq_true c33
          have c33b1 : decide (0 ≤ (ji32)) = true := decide_eq_true c33
          clear c33
          by_cases c34 : (ji32) ≤ (t370.length : Int)
          ·rw [if_pos c34] at H
           have c34b0 := eq_true c34
           have c34b1 : decide ((ji32) ≤ (t370.length : Int)) = true := decide_eq_true c34
           clear c34
           obtain ⟨y394, hy394⟩ : ∃ y_ : List (S45), y_ = (t370.drop ((ji32) : Int).toNat) := ⟨_, rfl⟩
           replace H : (if y391.length + y394.length < 4398046511104 then ((some (y391 ++ y394 : List (S45))).bind fun y398 => ((shift_Make.f y398 t373).bind fun bt401 => (if (t373.length : Int) > 0 then (if 0 ≤ (wrap64 ((t373.length : Int) - 1)) then (if (wrap64 ((t373.length : Int) - 1)) < (t373.length : Int) then (letterbaglaw30_ShiftMore.j1 kj8 t370 t373 t376 bt401.2 y398 bt401.1 (wrap64 ((wrap64 (a3_0)) + ((rd_T47 t373 (wrap64 ((t373.length : Int) - 1))).f1))) a3_0 a3_1) else (none)) else (none)) else (letterbaglaw30_ShiftMore.j1 kj8 t370 t373 t376 bt401.2 y398 bt401.1 (wrap64 (a3_0)) a3_0 a3_1)))) else (none)) = some true := by (have H2_ := (Option.bind_some _ _).symm.trans H; rw [hy394]; with_reducible exact H2_)
           have Ny394 := Aside0.mk hy394
           clear hy394
           by_cases c35 : y391.length + y394.length < 4398046511104
           ·rw [if_pos c35] at H
            have LMc35 := Aside0.mk c35
            clear c35
            obtain ⟨y398, hy398⟩ : ∃ y_ : List (S45), y_ = (y391 ++ y394) := ⟨_, rfl⟩
            replace H : ((shift_Make.f y398 t373).bind fun bt401 => (if (t373.length : Int) > 0 then (if 0 ≤ (wrap64 ((t373.length : Int) - 1)) then (if (wrap64 ((t373.length : Int) - 1)) < (t373.length : Int) then (letterbaglaw30_ShiftMore.j1 kj8 t370 t373 t376 bt401.2 y398 bt401.1 (wrap64 ((wrap64 (a3_0)) + ((rd_T47 t373 (wrap64 ((t373.length : Int) - 1))).f1))) a3_0 a3_1) else (none)) else (none)) else (letterbaglaw30_ShiftMore.j1 kj8 t370 t373 t376 bt401.2 y398 bt401.1 (wrap64 (a3_0)) a3_0 a3_1))) = some true := by (have H2_ := (Option.bind_some _ _).symm.trans H; rw [hy398]; with_reducible exact H2_)
            have Ny398 := Aside0.mk hy398
            clear hy398
            replace H := Option.bind_eq_some_iff.mp H
            obtain ⟨⟨t401, t402⟩, A360, H⟩ := H
            replace H : (if (t373.length : Int) > 0 then (if 0 ≤ (wrap64 ((t373.length : Int) - 1)) then (if (wrap64 ((t373.length : Int) - 1)) < (t373.length : Int) then (letterbaglaw30_ShiftMore.j1 kj8 t370 t373 t376 t402 y398 t401 (wrap64 ((wrap64 (a3_0)) + ((rd_T47 t373 (wrap64 ((t373.length : Int) - 1))).f1))) a3_0 a3_1) else (none)) else (none)) else (letterbaglaw30_ShiftMore.j1 kj8 t370 t373 t376 t402 y398 t401 (wrap64 (a3_0)) a3_0 a3_1)) = some true := H
            have A36 := Aside0.mk A360
            clear A360
            have HC37 := Aside0.mk H
            clear H
            try go_wp2
            have n0_ := Aside0.mk (Kd.R_drew HO_9.out)
            have n1_ := Aside0.mk (Kd.R_drew HO_10.out)
            have n2_ := Aside0.mk (Kd.R_drew HO_11.out)
            have n3_ := Aside0.mk (blk_drew BK369.out)
            have n4_ := Aside0.mk (below_drew1 HB.out)
            clear HO_9
            clear HO_10
            clear HO_11
            clear BK369
            clear HB
            have HO_9 := n0_
            have HO_10 := n1_
            have HO_11 := n2_
            have BK369 := n3_
            have HB := n4_
            clear n0_ n1_ n2_ n3_ n4_
            have q39 : ((ji28) : Int) ≤ ((t370.length : Int) : Int) := of_decide_eq_true (by (with_reducible assumption))
            obtain ⟨i039, hi039, _, hsz39, _⟩ := info_parts info45
            have hroom39 : t370.length ≤ co13 := (Kd.R_reads' HO_9.out).2.1
            have hC39 : Kd.C k45 _ Ao13 t370.length t370 := (Kd.R_reads' HO_9.out).2.2
            have hcut39 := cut_to (P := Try.prog) 25 45 .i64 Try.underlying25 hi039 Ao13 t370.length co13 (ji28) (of_decide_eq_true (by (with_reducible assumption))) q39 hroom39
            have hr39 := Kd.C_take (m := ((ji28) : Int).toNat) hC39 (by omega)
            have hy39 : y387.length = ((ji28) : Int).toNat := (by rw [Ny387.out, List.length_take]; omega)
            rw [← Ny387.out] at hr39
            rw [← hy39] at hcut39
            have HR390 := Aside0.mk hr39
            have HC390 := Aside0.mk (show y387.length ≤ co13 from by omega)
            clear hr39 hC39 hroom39 hi039 hsz39
            have KY39 := Aside0.mk hy39
            clear hy39
            have KL39 := Aside0.mk (show ((ji28) : Int).toNat ≤ t370.length from by omega)
            replace q39 := eq_true q39
            have q40 : ((ji32) : Int) ≤ ((t370.length : Int) : Int) := of_decide_eq_true (by (with_reducible assumption))
            obtain ⟨i040, hi040, _, hsz40, _⟩ := info_parts info45
            have hroom40 : t370.length ≤ co13 := (Kd.R_reads' HO_9.out).2.1
            have hC40 : Kd.C k45 _ Ao13 t370.length t370 := (Kd.R_reads' HO_9.out).2.2
            have q040 : (0 : Int) ≤ ((ji32) : Int) := of_decide_eq_true (by (with_reducible assumption))
            have hcut40 := cut_from (P := Try.prog) 25 45 .i64 Try.underlying25 hi040 4 hsz40 Ao13 t370.length co13 (ji32) q040 q40
            have hr40 := Kd.C_drop (m := ((ji32) : Int).toNat) (c := co13) hC40 (by omega) hroom40
            obtain ⟨A40, hA40⟩ : ∃ A1, A1 = (if co13 = ((ji32) : Int).toNat then Ao13 else (Ao13 : Option Addr).map (·.add (((ji32) : Int).toNat * 4))) := ⟨_, rfl⟩
            obtain ⟨c40, hc40⟩ : ∃ c1, c1 = co13 - ((ji32) : Int).toNat := ⟨_, rfl⟩
            have hy40 : y394.length = t370.length - ((ji32) : Int).toNat := (by rw [Ny394.out, List.length_drop] <;> omega)
            rw [show (t370).drop ((ji32) : Int).toNat = y394 from Ny394.out.symm] at hr40
            replace hr40 : Kd.C k45 _ A40 y394.length y394 := (by rw [hA40]; exact hr40)
            rw [← hy40, ← hA40, ← hc40] at hcut40
            have HR397 := Aside0.mk hr40
            have HC397 := Aside0.mk (show y394.length ≤ c40 from by rw [hy40, hc40]; exact Nat.sub_le_sub_right hroom40 _)
            clear hr40 hC40 hroom40 hi040 hsz40 hc40
            have KY40 := Aside0.mk hy40
            have KA40 := Aside0.mk hA40
            clear hy40 hA40
            have KL40 := Aside0.mk (show ((ji32) : Int).toNat ≤ t370.length from by omega)
            replace q40 := eq_true q40
            refine start_ (n := 11) (S := fun w' => True) (ds := []) #[false, false, false, false, false, false, false, false, false, false, false] (by kernel_rfl) rfl rfl trivial (fun hHeld => ?_); refine with_tabW letterbaglaw30_ShiftMore.tab8 letterbaglaw30_ShiftMore.bits8 (fun HT_ HW_ => ?_)
            generalize wc.drew = w38 at HO_9 HO_10 HO_11 BK369 HB HR390 HR397 hHeld ⊢
            refine pure_ (i := 1) (N := some 50) (v := ?_) (a' := ?_) #[false, true, false, false, false, false, false, false, false, false, false] rfl rfl (any_of HT_.out (by kernel_rfl)) (fun _ _ _ h => h) (Or.inl ⟨by rfl, ?_⟩) ?_ ?_
            rotate_left
            ·intro w'
             go_simp
             with_reducible rfl
            rotate_left
            ·simp only [Act.put, List.setIfInBounds_toArray, List.set_cons_zero, List.set_cons_succ, i64_w, i32_w]
             rfl
            refine pure_ (i := 2) (N := some 51) (v := ?_) (a' := ?_) #[false, true, true, false, false, false, false, false, false, false, false] rfl rfl (any_of HT_.out (by kernel_rfl)) (fun _ _ _ h => h) (Or.inl ⟨by rfl, ?_⟩) ?_ ?_
            rotate_left
            ·intro w'
             go_simp
             with_reducible rfl
            rotate_left
            ·simp only [Act.put, List.setIfInBounds_toArray, List.set_cons_zero, List.set_cons_succ, i64_w, i32_w]
             rfl
            refine pure_ (i := 3) (N := some 52) (v := ?_) (a' := ?_) #[false, true, true, true, false, false, false, false, false, false, false] rfl rfl (any_of HT_.out (by kernel_rfl)) (fun _ _ _ h => h) (Or.inl ⟨by rfl, ?_⟩) ?_ ?_
            rotate_left
            ·intro w'
             go_simp
             with_reducible rfl
            rotate_left
            ·simp only [Act.put, List.setIfInBounds_toArray, List.set_cons_zero, List.set_cons_succ, i64_w, i32_w]
             rfl
            refine pure_ (i := 5) (N := some 54) (v := ?_) (a' := ?_) #[false, true, true, true, false, true, false, false, false, false, false] rfl rfl (any_of HT_.out (by kernel_rfl)) (fun _ _ _ h => h) (Or.inl ⟨by rfl, ?_⟩) ?_ ?_
            rotate_left
            ·intro w'
             go_simp
             with_reducible rfl
            rotate_left
            ·simp only [Act.put, List.setIfInBounds_toArray, List.set_cons_zero, List.set_cons_succ, i64_w, i32_w]
             rfl
            refine pure_ (i := 6) (N := some 55) (v := ?_) (a' := ?_) #[false, true, true, true, false, true, true, false, false, false, false] rfl rfl (any_of HT_.out (by kernel_rfl)) (fun _ _ _ h => h) (Or.inl ⟨by rfl, ?_⟩) ?_ ?_
            rotate_left
            ·intro w'
             go_simp
             with_reducible rfl
            rotate_left
            ·simp only [Act.put, List.setIfInBounds_toArray, List.set_cons_zero, List.set_cons_succ, i64_w, i32_w]
             rfl
            refine pure_ (i := 7) (N := some 56) (v := ?_) (a' := ?_) #[false, true, true, true, false, true, true, true, false, false, false] rfl rfl (any_of HT_.out (by kernel_rfl)) (fun _ _ _ h => h) (Or.inl ⟨by rfl, ?_⟩) ?_ ?_
            rotate_left
            ·intro w'
             go_simp
             with_reducible rfl
            rotate_left
            ·simp only [Act.put, List.setIfInBounds_toArray, List.set_cons_zero, List.set_cons_succ, i64_w, i32_w]
             rfl
            refine pure_ (i := 8) (N := some 57) (v := ?_) (a' := ?_) #[false, true, true, true, false, true, true, true, true, false, false] rfl rfl (any_of HT_.out (by kernel_rfl)) (fun _ _ _ h => h) (Or.inl ⟨by rfl, ?_⟩) ?_ ?_
            rotate_left
            ·intro w'
             go_simp
             with_reducible rfl
            rotate_left
            ·simp only [Act.put, List.setIfInBounds_toArray, List.set_cons_zero, List.set_cons_succ, i64_w, i32_w]
             rfl
            refine one_ (i := 0) (N := some 49) #[true, true, true, true, false, true, true, true, true, false, false] rfl rfl (one_of HT_.out (by kernel_rfl)) (by decide) (fun K hK => ?_)
            refine Kd.R_lit_step k45 _ 45 ?hg (N := 49) ?hd (xs := ([] : List (S45))) (inner := []) (ok := fun _ => True) (okp := fun _ => True) ?hr ?hp (fun _ hk => hk) trivial (Below.refl _ _) (Nat.le_refl _) (by simp) ?_; (case hd => rfl); (case hg => rfl); (case hr => (go_simp; done)); (case hp => exact (Reps.none _ _))
            intro v385 w41 ho42 hb hg_ hnew_
            clear hg_ hnew_
            (rw [← Ny384.out] at ho42)
            have n0_ := Aside0.mk (Kd.R_elder' (by (with_reducible repeat (fail)); exact HO_9.out) (Kd.R_base ho42) hb)
            have n1_ := Aside0.mk (Kd.R_below (by (with_reducible repeat (fail)); exact HO_10.out) hb)
            have n2_ := Aside0.mk (Kd.R_below (by (with_reducible repeat (fail)); exact HO_11.out) hb)
            have n3_ := Aside0.mk (Kd.R_lower (Kd.R_new' ho42 (Kd.R_lt (by (with_reducible repeat (fail)); exact HO_9.out))) (below_size (by repeat ((with_reducible exact HB.out)))))
            have n4_ := Aside0.mk (blk_below (g := gb369) (o := .cells #[.int .u8 a3_0, .int .u8 a3_1] 55 (0, 0)) (by (with_reducible repeat (fail)); exact BK369.out) hb)
            have n5_ := Aside0.mk (Kd.C_below (by repeat ((with_reducible exact HR390.out))) hb)
            have n6_ := Aside0.mk (Kd.C_below (by repeat ((with_reducible exact HR397.out))) hb)
            have n7_ := Aside0.mk (below_step (by repeat ((with_reducible exact HB.out))) hb)
            clear HO_9
            clear HO_10
            clear HO_11
            clear BK369
            clear HR390
            clear HR397
            clear HB
            have HO_9 := n0_
            have HO_10 := n1_
            have HO_11 := n2_
            have HO386 := n3_
            have BK369 := n4_
            have HR390 := n5_
            have HR397 := n6_
            have HB := n7_
            clear n0_ n1_ n2_ n3_ n4_ n5_ n6_ n7_
            clear hb ho42
            refine hK.out _ _ trivial (fun hHeld => ?_)
            clear hK K
            refine norm_ (a' := ?_) ?_ ?_
            rotate_left
            ·show Act.put _ (some 49) _ = _
             simp only [Act.put, List.setIfInBounds_toArray, List.set_cons_zero, List.set_cons_succ, i64_w, i32_w]
             rfl
            refine one_ (i := 4) (N := some 53) #[true, true, true, true, true, true, true, true, true, false, false] rfl rfl (one_of HT_.out (by kernel_rfl)) (by decide) (fun K hK => ?_)
            refine Kd.R_append_rows_step k45 (w0 := w) w.heap.size (by rfl) (.tmp 49) (.tmp 52) 25 45 (.agg #[(.int .i64 0), (.int .i64 0), (.int .i64 0), (.int .i64 0)]) 32 rfl Try.underlying25 info45 rfl (by decide) (by omega) v385 y384 y387 _ _ _ (fun k_ => some k_ ≠ (.slice Ao13 t370.length co13 : Value).ownBlock) (fun _ => False) rfl rfl ?aO ?aR (fun _ _ h => h) (fun _ h => h.elim) ?aF ?aB ?aS ?aL ?_
            (case aR => repeat (exact (by repeat (exact HR390.out))))
            (case aB => exact (by repeat ((with_reducible exact HB.out))))
            (case aF => exact (fun k_ hk => Kd.fresh' (Kd.R_lt (by (with_reducible repeat (fail)); exact HO_9.out)) k_ hk))
            (case aO => exact (by (with_reducible repeat (fail)); exact Kd.R_mono HO386.out (fun _ hk => hk.2)))
            (case aS => exact (below_size (by repeat ((with_reducible exact HB.out)))))
            (case aL => have := LMc31.out; omega)
            intro v392 w43 ho hb hg hat
            rw [← Ny391.out] at ho
            have n0_ := Aside0.mk (Kd.R_after (ok := (fun _ => True)) (by (with_reducible repeat (fail)); exact HO_9.out) hg hat)
            have n1_ := Aside0.mk (Kd.R_over' (by (with_reducible repeat (fail)); exact HO_10.out) (Kd.R_typed (by (with_reducible repeat (fail)); exact HO386.out)) (by decide) hg)
            have n2_ := Aside0.mk (Kd.R_over' (by (with_reducible repeat (fail)); exact HO_11.out) (Kd.R_typed (by (with_reducible repeat (fail)); exact HO386.out)) (by decide) hg)
            have n3_ := Aside0.mk (blk_grown (g := gb369) (o := .cells #[.int .u8 a3_0, .int .u8 a3_1] 55 (0, 0)) (by (with_reducible repeat (fail)); exact BK369.out) hg (Kd.R_ne HO386.out BK369.out (by decide)))
            have n4_ := Aside0.mk (hb)
            have n5_ := Aside0.mk ((show Kd.C k45 w43 Ao13 y387.length y387 from by rw [Ny387.out]; exact Kd.C_take (m := ((ji28) : Int).toNat) ((Kd.R_reads' (Kd.R_after (ok := (fun _ => True)) (by (with_reducible repeat (fail)); exact HO_9.out) hg hat)).2.2) KL39.out))
            have n6_ := Aside0.mk ((show Kd.C k45 w43 A40 y394.length y394 from by rw [Ny394.out, KA40.out]; exact Kd.C_drop (m := ((ji32) : Int).toNat) (c := co13) ((Kd.R_reads' (Kd.R_after (ok := (fun _ => True)) (by (with_reducible repeat (fail)); exact HO_9.out) hg hat)).2.2) KL40.out ((Kd.R_reads' (Kd.R_after (ok := (fun _ => True)) (by (with_reducible repeat (fail)); exact HO_9.out) hg hat)).2.1)))
            have n7_ := Aside0.mk (ho)
            clear HO_9
            clear HO_10
            clear HO_11
            clear BK369
            clear HB
            clear HR390
            clear HR397
            clear HO386
            have HO_9 := n0_
            have HO_10 := n1_
            have HO_11 := n2_
            have BK369 := n3_
            have HB := n4_
            have HR390 := n5_
            have HR397 := n6_
            have HO393 := n7_
            clear n0_ n1_ n2_ n3_ n4_ n5_ n6_ n7_
            clear ho hb hg hat
            refine hK.out _ _ trivial (fun hHeld => ?_)
            clear hK K
            refine norm_ (a' := ?_) ?_ ?_
            rotate_left
            ·show Act.put _ (some 53) _ = _
             simp only [Act.put, List.setIfInBounds_toArray, List.set_cons_zero, List.set_cons_succ, i64_w, i32_w]
             rfl
            refine one_ (i := 9) (N := some 58) #[true, true, true, true, true, true, true, true, true, true, false] rfl rfl (one_of HT_.out (by kernel_rfl)) (by decide) (fun K hK => ?_)
            refine Kd.R_append_rows_step k45 (w0 := w) w.heap.size (by rfl) (.tmp 53) (.tmp 57) 25 45 (.agg #[(.int .i64 0), (.int .i64 0), (.int .i64 0), (.int .i64 0)]) 32 rfl Try.underlying25 info45 rfl (by decide) (by omega) v392 y391 y394 _ _ _ (fun k_ => some k_ ≠ (.slice Ao13 t370.length co13 : Value).ownBlock) (fun _ => False) rfl rfl ?aO ?aR (fun _ _ h => h) (fun _ h => h.elim) ?aF ?aB ?aS ?aL ?_
            (case aR => repeat (exact (by repeat (exact HR397.out))))
            (case aB => exact (by repeat ((with_reducible exact HB.out))))
            (case aF => exact (fun k_ hk => Kd.fresh' (Kd.R_lt (by (with_reducible repeat (fail)); exact HO_9.out)) k_ hk))
            (case aO => exact (by (with_reducible repeat (fail)); exact HO393.out))
            (case aS => exact (below_size (by repeat ((with_reducible exact HB.out)))))
            (case aL => have := LMc35.out; omega)
            intro v399 w44 ho hb hg hat
            rw [← Ny398.out] at ho
            have n0_ := Aside0.mk (Kd.R_after (ok := (fun _ => True)) (by (with_reducible repeat (fail)); exact HO_9.out) hg hat)
            have n1_ := Aside0.mk (Kd.R_over' (by (with_reducible repeat (fail)); exact HO_10.out) (Kd.R_typed (by (with_reducible repeat (fail)); exact HO393.out)) (by decide) hg)
            have n2_ := Aside0.mk (Kd.R_over' (by (with_reducible repeat (fail)); exact HO_11.out) (Kd.R_typed (by (with_reducible repeat (fail)); exact HO393.out)) (by decide) hg)
            have n3_ := Aside0.mk (blk_grown (g := gb369) (o := .cells #[.int .u8 a3_0, .int .u8 a3_1] 55 (0, 0)) (by (with_reducible repeat (fail)); exact BK369.out) hg (Kd.R_ne HO393.out BK369.out (by decide)))
            have n4_ := Aside0.mk (hb)
            have n5_ := Aside0.mk ((show Kd.C k45 w44 Ao13 y387.length y387 from by rw [Ny387.out]; exact Kd.C_take (m := ((ji28) : Int).toNat) ((Kd.R_reads' (Kd.R_after (ok := (fun _ => True)) (by (with_reducible repeat (fail)); exact HO_9.out) hg hat)).2.2) KL39.out))
            have n6_ := Aside0.mk ((show Kd.C k45 w44 A40 y394.length y394 from by rw [Ny394.out, KA40.out]; exact Kd.C_drop (m := ((ji32) : Int).toNat) (c := co13) ((Kd.R_reads' (Kd.R_after (ok := (fun _ => True)) (by (with_reducible repeat (fail)); exact HO_9.out) hg hat)).2.2) KL40.out ((Kd.R_reads' (Kd.R_after (ok := (fun _ => True)) (by (with_reducible repeat (fail)); exact HO_9.out) hg hat)).2.1)))
            have n7_ := Aside0.mk (ho)
            clear HO_9
            clear HO_10
            clear HO_11
            clear BK369
            clear HB
            clear HR390
            clear HR397
            clear HO393
            have HO_9 := n0_
            have HO_10 := n1_
            have HO_11 := n2_
            have BK369 := n3_
            have HB := n4_
            have HR390 := n5_
            have HR397 := n6_
            have HO400 := n7_
            clear n0_ n1_ n2_ n3_ n4_ n5_ n6_ n7_
            clear ho hb hg hat
            refine hK.out _ _ trivial (fun hHeld => ?_)
            clear hK K
            refine norm_ (a' := ?_) ?_ ?_
            rotate_left
            ·show Act.put _ (some 58) _ = _
             simp only [Act.put, List.setIfInBounds_toArray, List.set_cons_zero, List.set_cons_succ, i64_w, i32_w]
             rfl
            refine pure_ (i := 10) (N := some 14) (v := ?_) (a' := ?_) #[true, true, true, true, true, true, true, true, true, true, true] rfl rfl (any_of HT_.out (by kernel_rfl)) (fun _ _ _ h => h) (Or.inl ⟨by rfl, ?_⟩) ?_ ?_
            rotate_left
            ·intro w'
             go_simp
             with_reducible rfl
            rotate_left
            ·simp only [Act.put, List.setIfInBounds_toArray, List.set_cons_zero, List.set_cons_succ, i64_w, i32_w]
             rfl
            refine done_ (done_of HT_.out (by kernel_rfl)) ?_
            obtain ⟨Ao45, co45, eo45⟩ := Kd.R_slice HO400.out
            subst eo45
            go_upto_if 70 with (((with_reducible refine gate_callee (f := 12) rfl ?_); refine goesL_ (some 62) rfl rfl Try.func12 (by kernel_rfl) rfl #[.slice Ao45 y398.length co45, .slice Ao14 t373.length co14] rfl (by (try simp only [List.map_toArray, List.map_cons, List.map_nil]); rfl) ?_; (with_reducible refine (shift_Make.calls _ _ y398 _ _ t373 t401 t402 _ ?side1 ?side2 ?side3 ?side4 A36.out).mono ?_); (case side1 => repeat (exact (Kd.R_reads' HO400.out).2.2)); (case side2 => exact (Kd.R_reads' HO400.out).2.1); (case side3 => repeat (exact (Kd.R_reads' HO_10.out).2.2)); (case side4 => exact (Kd.R_reads' HO_10.out).2.1); rintro e w46 ⟨v403, rfl, ho0, hb⟩; refine ⟨_, rfl, ?_⟩; have n0_ := Aside0.mk (Kd.R_below (by (with_reducible repeat (fail)); exact HO_9.out) hb); have n1_ := Aside0.mk (Kd.R_below (by (with_reducible repeat (fail)); exact HO_10.out) hb); have n2_ := Aside0.mk (Kd.R_elder' (by (with_reducible repeat (fail)); exact HO_11.out) (Kd.R_base ho0) hb); have n3_ := Aside0.mk (Kd.R_below (by (with_reducible repeat (fail)); exact HO400.out) hb); have n4_ := Aside0.mk (Kd.R_lower (Kd.R_new' ho0 (Kd.R_lt (by (with_reducible repeat (fail)); exact HO_11.out))) (below_size (by repeat ((with_reducible exact HB.out))))); have n5_ := Aside0.mk (blk_below (g := gb369) (o := .cells #[.int .u8 a3_0, .int .u8 a3_1] 55 (0, 0)) (by (with_reducible repeat (fail)); exact BK369.out) hb); have n6_ := Aside0.mk (Kd.C_below (by repeat ((with_reducible exact HR390.out))) hb); have n7_ := Aside0.mk (Kd.C_below (by repeat ((with_reducible exact HR397.out))) hb); have n8_ := Aside0.mk (below_step (by repeat ((with_reducible exact HB.out))) hb); clear HO_9; clear HO_10; clear HO_11; clear HO400; clear BK369; clear HR390; clear HR397; clear HB; have HO_9 := n0_; have HO_10 := n1_; have HO_11 := n2_; have HO400 := n3_; have HO404 := n4_; have BK369 := n5_; have HR390 := n6_; have HR397 := n7_; have HB := n8_; clear n0_ n1_ n2_ n3_ n4_ n5_ n6_ n7_ n8_; (try clear hb); (try clear hb2); (try clear hk); (try clear hi); (try clear ho0); have hcz47_0 : w46.cell? ⟨gb369, 0, none⟩ = some (.int .u8 a3_0) := (blk_cell BK369.out 0).trans rfl; have hcz47_1 : w46.cell? ⟨gb369, 1, none⟩ = some (.int .u8 a3_1) := (blk_cell BK369.out 1).trans rfl; have hfz47_0 := blk_frozen BK369.out 0; have hfz47_1 := blk_frozen BK369.out 1))
            (try simp only [Act.put, List.setIfInBounds_toArray, List.set_cons_zero, List.set_cons_succ])
            go_cut [16] (fun v16 wc => ∃ (kq : Nat) (x16_36 : Int), v16 = .int .i64 x16_36 ∧ Aside0 (letterbaglaw30_ShiftMore.j1 kq t370 t373 t376 t402 y398 t401 x16_36 a3_0 a3_1 = some true) ∧ Aside0 (kq ≤ kj8) ∧ Aside0 (Kd.R k45 45 wc w.heap.size (fun k_ => some k_ ≠ ((.slice Ao45 y398.length co45) : Value).ownBlock) (.slice Ao13 t370.length co13) t370) ∧ Aside0 (Kd.R k47 47 wc w.heap.size (fun _ => True) (.slice Ao14 t373.length co14) t373) ∧ Aside0 (Kd.R k51 51 wc w.heap.size (fun k_ => some k_ ≠ (v403 : Value).ownBlock) v378 t376) ∧ Aside0 (Kd.R k45 45 wc w.heap.size (fun k_ => some k_ ≠ ((.slice Ao13 t370.length co13) : Value).ownBlock) (.slice Ao45 y398.length co45) y398) ∧ Aside0 (Kd.R k51 51 wc w.heap.size (fun k_ => some k_ ≠ (v378 : Value).ownBlock) v403 t401) ∧ Aside0 (wc.heap[gb369]? = some (.cells #[.int .u8 a3_0, .int .u8 a3_1] 55 (0, 0))) ∧ Aside0 (Kd.C k45 wc Ao13 y387.length y387) ∧ Aside0 (Below w.heap.size w wc))
            case first => as_aux_lemma =>
             have H := HC37.out
             clear HC37
             by_cases c48 : (t373.length : Int) > 0
             ·rw [if_pos c48] at H
              have c48b0 : decide (0 < (t373.length : Int)) = true := decide_eq_true c48
              have c48b1 : decide (0 < t373.length) = true := decide_eq_true (by omega)
              clear c48
              (rw [c48b1])
              obtain ⟨ji49, hji49⟩ : ∃ j_ : Int, (wrap64 ((t373.length : Int) - 1)) = j_ := ⟨_, rfl⟩
              replace H : (if 0 ≤ (ji49) then (if (ji49) < (t373.length : Int) then (letterbaglaw30_ShiftMore.j1 kj8 t370 t373 t376 t402 y398 t401 (wrap64 ((wrap64 (a3_0)) + ((rd_T47 t373 (ji49)).f1))) a3_0 a3_1) else (none)) else (none)) = some true := by (rw [hji49] at H; exact H)
              have hji49w : (IntKind.i64.wrap ((t373.length : Int) - 1)) = ji49 := (i64_w _).trans hji49
              by_cases c50 : 0 ≤ (ji49)
              ·rw [if_pos c50] at H
               have c50b0 : decide (0 ≤ (ji49)) = true := decide_eq_true c50
               clear c50
               by_cases c51 : (ji49) < (t373.length : Int)
               ·rw [if_pos c51] at H
                have c51b0 : decide ((ji49) < (t373.length : Int)) = true := decide_eq_true c51
                clear c51
                have H' := Aside0.mk H
                clear H
                have p405 : 0 ≤ ((ji49) : Int) := of_decide_eq_true (by (with_reducible assumption))
                have q405 : (ji49) < (t373.length : Int) := of_decide_eq_true (by (with_reducible assumption))
                obtain ⟨ad405, e405, hx405_0, hx405_1⟩ := at_T47 (Kd.R_reads' HO_10.out).2.2 (ji49) p405 q405
                cases e405
                replace p405 := eq_true p405
                replace q405 := eq_true q405
                go_wp2
                go_meet
                case rel => exact ⟨_, (wrap64 ((wrap64 (a3_0)) + ((rd_T47 t373 (ji49)).f1))), (by rfl), H', ⟨by have := HJ8.out; omega⟩, ⟨by (with_reducible repeat (fail)); exact Kd.R_mono HO_9.out (fun _ hk => hk.2)⟩, ⟨by (with_reducible repeat (fail)); exact HO_10.out⟩, ⟨by (with_reducible repeat (fail)); exact Kd.R_mono HO_11.out (fun _ hk => hk.2)⟩, ⟨by (with_reducible repeat (fail)); exact HO400.out⟩, ⟨by (with_reducible repeat (fail)); exact Kd.R_mono HO404.out (fun _ hk => hk.2)⟩, ⟨by (with_reducible repeat (fail)); exact BK369.out⟩, ⟨by repeat ((with_reducible exact HR390.out))⟩, ⟨by repeat ((with_reducible exact HB.out))⟩⟩
               ·rw [if_neg c51] at H
                exact absurd H (by simp)
              ·rw [if_neg c50] at H
               exact absurd H (by simp)
             ·rw [if_neg c48] at H
              have c48b0 : decide (0 < (t373.length : Int)) = false := decide_eq_false c48
              have c48b1 : decide (0 < t373.length) = false := decide_eq_false (by omega)
              clear c48
              (rw [c48b1])
              have H' := Aside0.mk H
              clear H
              go_wp2
              go_meet
              case rel => exact ⟨_, (wrap64 (a3_0)), (by rfl), H', ⟨by have := HJ8.out; omega⟩, ⟨by (with_reducible repeat (fail)); exact Kd.R_mono HO_9.out (fun _ hk => hk.2)⟩, ⟨by (with_reducible repeat (fail)); exact HO_10.out⟩, ⟨by (with_reducible repeat (fail)); exact Kd.R_mono HO_11.out (fun _ hk => hk.2)⟩, ⟨by (with_reducible repeat (fail)); exact HO400.out⟩, ⟨by (with_reducible repeat (fail)); exact Kd.R_mono HO404.out (fun _ hk => hk.2)⟩, ⟨by (with_reducible repeat (fail)); exact BK369.out⟩, ⟨by repeat ((with_reducible exact HR390.out))⟩, ⟨by repeat ((with_reducible exact HB.out))⟩⟩
            case rest => as_aux_lemma =>
             clear HC37
             try clear c1
             try clear c2
             try clear p2
             try clear c3
             try clear q3
             try clear c4
             try clear p4
             try clear q4
             try clear hx4
             try clear c5
             try clear p6
             try clear c7
             try clear c8
             try clear c8b0
             try clear c8b1
             try clear c10
             try clear c11
             try clear c12
             try clear c15
             try clear c17
             try clear c17b0
             try clear c17b1
             try clear c24
             try clear c27
             try clear c27b0
             try clear c27b1
             try clear c27b2
             try clear c29
             try clear c29b0
             try clear c29b1
             try clear c30
             try clear c30b0
             try clear c30b1
             try clear c31
             try clear c33
             try clear c33b0
             try clear c33b1
             try clear c34
             try clear c34b0
             try clear c34b1
             try clear c35
             try clear q39
             try clear c40
             try clear p40
             try clear q40
             try clear hx40
             try clear c48
             try clear c48b0
             try clear c48b1
             try clear c50
             try clear c50b0
             try clear c51
             try clear c51b0
             try clear hcz47_0
             try clear hcz47_1
             try clear hfz47_0
             try clear hfz47_1
             try clear hx405_0
             try clear hx405_1
             try clear p2
             try clear p405
             try clear q040
             try clear q39
             try clear q40
             try clear q405
             obtain ⟨kq, x16_36, rfl, HA, HJ36, HO_9, HO_10, HO_11, HO_14, HO_15, BK369, HR390, HB⟩ := hcut
             have HR397 := Aside0.mk (show Kd.C k45 wc none ([] : List S45).length [] from ⟨rfl, by decide, fun h => absurd h (by decide)⟩)
             cases kq with
             | zero => exact absurd HA.out (by simp [letterbaglaw30_ShiftMore.j1])
             | succ kj36 =>
              have H := HA.out
              clear HA
              simp only [letterbaglaw30_ShiftMore.j1] at H
              obtain ⟨y406, hy406⟩ : ∃ y_ : List (S47), y_ = (([] : List (S47))) := ⟨_, rfl⟩
              replace H : (if y406.length + t373.length < 8796093022208 then ((some (y406 ++ t373 : List (S47))).bind fun y409 => ((some (([(⟨x16_36, wrap64 ((wrap64 (x16_36 + 1)) + (wrap64 (a3_1)))⟩ : S47)] : List (S47)) : List (S47))).bind fun y412 => (if y409.length + y412.length < 8796093022208 then ((shift_Make.f t370 (y409 ++ y412)).bind fun bt418 => ((some (([] : List (S47)) : List (S47))).bind fun y422 => (if y422.length + t373.length < 8796093022208 then ((shift_Make.f t370 (y422 ++ t373)).bind fun bt428 => (if (wrap64 ((wrap64 (t402 + bt418.2)) + bt428.2)) = 0 then ((shift_Late.f kj36 y398 t401).bind fun t432 => (if (t432.length : Int) = 0 then ((shift_Late.f kj36 t370 bt418.1).bind fun t435 => (if (t435.length : Int) = 0 then ((letterbaglaw30_sliced.f kj36 t376 bt428.1).bind fun t438 => (if t438 = true then ((shift_Ends.f t370 bt418.1).bind fun t439 => ((shift_Ends.f t370 t376).bind fun t442 => ((letterbagkit_SameInts.f kj36 t439 t442).bind fun t445 => (if t445 = true then ((letterbaglaw30_awake.f kj36).bind fun t446 => (some t446)) else (some false))))) else (some false))) else (some false))) else (some false))) else (some false))) else (none)))) else (none)))) else (none)) = some true := by (have H2_ := (Option.bind_some _ _).symm.trans H; rw [hy406]; with_reducible exact H2_)
              have Ny406 := Aside0.mk hy406
              clear hy406
              by_cases c52 : y406.length + t373.length < 8796093022208
              ·rw [if_pos c52] at H
               have LMc52 := Aside0.mk c52
               clear c52
               obtain ⟨y409, hy409⟩ : ∃ y_ : List (S47), y_ = (y406 ++ t373) := ⟨_, rfl⟩
               replace H : ((some (([(⟨x16_36, wrap64 ((wrap64 (x16_36 + 1)) + (wrap64 (a3_1)))⟩ : S47)] : List (S47)) : List (S47))).bind fun y412 => (if y409.length + y412.length < 8796093022208 then ((shift_Make.f t370 (y409 ++ y412)).bind fun bt418 => ((some (([] : List (S47)) : List (S47))).bind fun y422 => (if y422.length + t373.length < 8796093022208 then ((shift_Make.f t370 (y422 ++ t373)).bind fun bt428 => (if (wrap64 ((wrap64 (t402 + bt418.2)) + bt428.2)) = 0 then ((shift_Late.f kj36 y398 t401).bind fun t432 => (if (t432.length : Int) = 0 then ((shift_Late.f kj36 t370 bt418.1).bind fun t435 => (if (t435.length : Int) = 0 then ((letterbaglaw30_sliced.f kj36 t376 bt428.1).bind fun t438 => (if t438 = true then ((shift_Ends.f t370 bt418.1).bind fun t439 => ((shift_Ends.f t370 t376).bind fun t442 => ((letterbagkit_SameInts.f kj36 t439 t442).bind fun t445 => (if t445 = true then ((letterbaglaw30_awake.f kj36).bind fun t446 => (some t446)) else (some false))))) else (some false))) else (some false))) else (some false))) else (some false))) else (none)))) else (none))) = some true := by (have H2_ := (Option.bind_some _ _).symm.trans H; rw [hy409]; with_reducible exact H2_)
               have Ny409 := Aside0.mk hy409
               clear hy409
               obtain ⟨y412, hy412⟩ : ∃ y_ : List (S47), y_ = (([(⟨x16_36, wrap64 ((wrap64 (x16_36 + 1)) + (wrap64 (a3_1)))⟩ : S47)] : List (S47))) := ⟨_, rfl⟩
               replace H : (if y409.length + y412.length < 8796093022208 then ((shift_Make.f t370 (y409 ++ y412)).bind fun bt418 => ((some (([] : List (S47)) : List (S47))).bind fun y422 => (if y422.length + t373.length < 8796093022208 then ((shift_Make.f t370 (y422 ++ t373)).bind fun bt428 => (if (wrap64 ((wrap64 (t402 + bt418.2)) + bt428.2)) = 0 then ((shift_Late.f kj36 y398 t401).bind fun t432 => (if (t432.length : Int) = 0 then ((shift_Late.f kj36 t370 bt418.1).bind fun t435 => (if (t435.length : Int) = 0 then ((letterbaglaw30_sliced.f kj36 t376 bt428.1).bind fun t438 => (if t438 = true then ((shift_Ends.f t370 bt418.1).bind fun t439 => ((shift_Ends.f t370 t376).bind fun t442 => ((letterbagkit_SameInts.f kj36 t439 t442).bind fun t445 => (if t445 = true then ((letterbaglaw30_awake.f kj36).bind fun t446 => (some t446)) else (some false))))) else (some false))) else (some false))) else (some false))) else (some false))) else (none)))) else (none)) = some true := by (have H2_ := (Option.bind_some _ _).symm.trans H; rw [hy412]; with_reducible exact H2_)
               have Ny412 := Aside0.mk hy412
               clear hy412
               by_cases c53 : y409.length + y412.length < 8796093022208
               ·rw [if_pos c53] at H
                have LMc53 := Aside0.mk c53
                clear c53
                obtain ⟨y415, hy415⟩ : ∃ y_ : List (S47), y_ = (y409 ++ y412) := ⟨_, rfl⟩
                replace H : ((shift_Make.f t370 y415).bind fun bt418 => ((some (([] : List (S47)) : List (S47))).bind fun y422 => (if y422.length + t373.length < 8796093022208 then ((shift_Make.f t370 (y422 ++ t373)).bind fun bt428 => (if (wrap64 ((wrap64 (t402 + bt418.2)) + bt428.2)) = 0 then ((shift_Late.f kj36 y398 t401).bind fun t432 => (if (t432.length : Int) = 0 then ((shift_Late.f kj36 t370 bt418.1).bind fun t435 => (if (t435.length : Int) = 0 then ((letterbaglaw30_sliced.f kj36 t376 bt428.1).bind fun t438 => (if t438 = true then ((shift_Ends.f t370 bt418.1).bind fun t439 => ((shift_Ends.f t370 t376).bind fun t442 => ((letterbagkit_SameInts.f kj36 t439 t442).bind fun t445 => (if t445 = true then ((letterbaglaw30_awake.f kj36).bind fun t446 => (some t446)) else (some false))))) else (some false))) else (some false))) else (some false))) else (some false))) else (none)))) = some true := by (rw [hy415]; with_reducible exact H)
                have Ny415 := Aside0.mk hy415
                clear hy415
                replace H := Option.bind_eq_some_iff.mp H
                obtain ⟨⟨t418, t419⟩, A540, H⟩ := H
                replace H : ((some (([] : List (S47)) : List (S47))).bind fun y422 => (if y422.length + t373.length < 8796093022208 then ((shift_Make.f t370 (y422 ++ t373)).bind fun bt428 => (if (wrap64 ((wrap64 (t402 + t419)) + bt428.2)) = 0 then ((shift_Late.f kj36 y398 t401).bind fun t432 => (if (t432.length : Int) = 0 then ((shift_Late.f kj36 t370 t418).bind fun t435 => (if (t435.length : Int) = 0 then ((letterbaglaw30_sliced.f kj36 t376 bt428.1).bind fun t438 => (if t438 = true then ((shift_Ends.f t370 t418).bind fun t439 => ((shift_Ends.f t370 t376).bind fun t442 => ((letterbagkit_SameInts.f kj36 t439 t442).bind fun t445 => (if t445 = true then ((letterbaglaw30_awake.f kj36).bind fun t446 => (some t446)) else (some false))))) else (some false))) else (some false))) else (some false))) else (some false))) else (none))) = some true := H
                have A54 := Aside0.mk A540
                clear A540
                obtain ⟨y422, hy422⟩ : ∃ y_ : List (S47), y_ = (([] : List (S47))) := ⟨_, rfl⟩
                replace H : (if y422.length + t373.length < 8796093022208 then ((shift_Make.f t370 (y422 ++ t373)).bind fun bt428 => (if (wrap64 ((wrap64 (t402 + t419)) + bt428.2)) = 0 then ((shift_Late.f kj36 y398 t401).bind fun t432 => (if (t432.length : Int) = 0 then ((shift_Late.f kj36 t370 t418).bind fun t435 => (if (t435.length : Int) = 0 then ((letterbaglaw30_sliced.f kj36 t376 bt428.1).bind fun t438 => (if t438 = true then ((shift_Ends.f t370 t418).bind fun t439 => ((shift_Ends.f t370 t376).bind fun t442 => ((letterbagkit_SameInts.f kj36 t439 t442).bind fun t445 => (if t445 = true then ((letterbaglaw30_awake.f kj36).bind fun t446 => (some t446)) else (some false))))) else (some false))) else (some false))) else (some false))) else (some false))) else (none)) = some true := by (have H2_ := (Option.bind_some _ _).symm.trans H; rw [hy422]; with_reducible exact H2_)
                have Ny422 := Aside0.mk hy422
                clear hy422
                by_cases c55 : y422.length + t373.length < 8796093022208
                ·rw [if_pos c55] at H
                 have LMc55 := Aside0.mk c55
                 clear c55
                 obtain ⟨y425, hy425⟩ : ∃ y_ : List (S47), y_ = (y422 ++ t373) := ⟨_, rfl⟩
                 replace H : ((shift_Make.f t370 y425).bind fun bt428 => (if (wrap64 ((wrap64 (t402 + t419)) + bt428.2)) = 0 then ((shift_Late.f kj36 y398 t401).bind fun t432 => (if (t432.length : Int) = 0 then ((shift_Late.f kj36 t370 t418).bind fun t435 => (if (t435.length : Int) = 0 then ((letterbaglaw30_sliced.f kj36 t376 bt428.1).bind fun t438 => (if t438 = true then ((shift_Ends.f t370 t418).bind fun t439 => ((shift_Ends.f t370 t376).bind fun t442 => ((letterbagkit_SameInts.f kj36 t439 t442).bind fun t445 => (if t445 = true then ((letterbaglaw30_awake.f kj36).bind fun t446 => (some t446)) else (some false))))) else (some false))) else (some false))) else (some false))) else (some false))) = some true := by (rw [hy425]; with_reducible exact H)
                 have Ny425 := Aside0.mk hy425
                 clear hy425
                 replace H := Option.bind_eq_some_iff.mp H
                 obtain ⟨⟨t428, t429⟩, A560, H⟩ := H
                 replace H : (if (wrap64 ((wrap64 (t402 + t419)) + t429)) = 0 then ((shift_Late.f kj36 y398 t401).bind fun t432 => (if (t432.length : Int) = 0 then ((shift_Late.f kj36 t370 t418).bind fun t435 => (if (t435.length : Int) = 0 then ((letterbaglaw30_sliced.f kj36 t376 t428).bind fun t438 => (if t438 = true then ((shift_Ends.f t370 t418).bind fun t439 => ((shift_Ends.f t370 t376).bind fun t442 => ((letterbagkit_SameInts.f kj36 t439 t442).bind fun t445 => (if t445 = true then ((letterbaglaw30_awake.f kj36).bind fun t446 => (some t446)) else (some false))))) else (some false))) else (some false))) else (some false))) else (some false)) = some true := H
                 have A56 := Aside0.mk A560
                 clear A560
                 by_cases c57 : (wrap64 ((wrap64 (t402 + t419)) + t429)) = 0
                 ·rw [if_pos c57] at H
                  have c57b0 : ((wrap64 ((wrap64 (t402 + t419)) + t429)) == 0) = true := beq_iff_eq.mpr c57
                  have c57b1 : ((wrap64 ((wrap64 (t402 + t419)) + t429)) != 0) = false := bne_eq_false_iff_eq.mpr c57
                  clear c57
                  replace H := Option.bind_eq_some_iff.mp H
                  obtain ⟨t432, A580, H⟩ := H
                  replace H : (if (t432.length : Int) = 0 then ((shift_Late.f kj36 t370 t418).bind fun t435 => (if (t435.length : Int) = 0 then ((letterbaglaw30_sliced.f kj36 t376 t428).bind fun t438 => (if t438 = true then ((shift_Ends.f t370 t418).bind fun t439 => ((shift_Ends.f t370 t376).bind fun t442 => ((letterbagkit_SameInts.f kj36 t439 t442).bind fun t445 => (if t445 = true then ((letterbaglaw30_awake.f kj36).bind fun t446 => (some t446)) else (some false))))) else (some false))) else (some false))) else (some false)) = some true := H
                  have A58 := Aside0.mk A580
                  clear A580
                  by_cases c59 : (t432.length : Int) = 0
                  ·rw [if_pos c59] at H
                   have c59b0 : ((t432.length : Int) == 0) = true := beq_iff_eq.mpr c59
                   have c59b1 : ((t432.length : Int) != 0) = false := bne_eq_false_iff_eq.mpr c59
                   clear c59
                   replace H := Option.bind_eq_some_iff.mp H
                   obtain ⟨t435, A600, H⟩ := H
                   replace H : (if (t435.length : Int) = 0 then ((letterbaglaw30_sliced.f kj36 t376 t428).bind fun t438 => (if t438 = true then ((shift_Ends.f t370 t418).bind fun t439 => ((shift_Ends.f t370 t376).bind fun t442 => ((letterbagkit_SameInts.f kj36 t439 t442).bind fun t445 => (if t445 = true then ((letterbaglaw30_awake.f kj36).bind fun t446 => (some t446)) else (some false))))) else (some false))) else (some false)) = some true := H
                   have A60 := Aside0.mk A600
                   clear A600
                   by_cases c61 : (t435.length : Int) = 0
                   ·rw [if_pos c61] at H
                    have c61b0 : ((t435.length : Int) == 0) = true := beq_iff_eq.mpr c61
                    have c61b1 : ((t435.length : Int) != 0) = false := bne_eq_false_iff_eq.mpr c61
                    clear c61
                    replace H := Option.bind_eq_some_iff.mp H
                    obtain ⟨t438, A620, H⟩ := H
                    replace H : (if t438 = true then ((shift_Ends.f t370 t418).bind fun t439 => ((shift_Ends.f t370 t376).bind fun t442 => ((letterbagkit_SameInts.f kj36 t439 t442).bind fun t445 => (if t445 = true then ((letterbaglaw30_awake.f kj36).bind fun t446 => (some t446)) else (some false))))) else (some false)) = some true := H
                    have A62 := Aside0.mk A620
                    clear A620
                    by_cases c63 : t438 = true
                    ·subst c63
                     have H1 : ((shift_Ends.f t370 t418).bind fun t439 => ((shift_Ends.f t370 t376).bind fun t442 => ((letterbagkit_SameInts.f kj36 t439 t442).bind fun t445 => (if t445 = true then ((letterbaglaw30_awake.f kj36).bind fun t446 => (some t446)) else (some false))))) = some true := by rw [if_pos rfl] at H; exact H
                     clear H
                     have H := H1
                     clear H1
                     replace H := Option.bind_eq_some_iff.mp H
                     obtain ⟨t439, A640, H⟩ := H
                     replace H : ((shift_Ends.f t370 t376).bind fun t442 => ((letterbagkit_SameInts.f kj36 t439 t442).bind fun t445 => (if t445 = true then ((letterbaglaw30_awake.f kj36).bind fun t446 => (some t446)) else (some false)))) = some true := H
                     have A64 := Aside0.mk A640
                     clear A640
                     replace H := Option.bind_eq_some_iff.mp H
                     obtain ⟨t442, A650, H⟩ := H
                     replace H : ((letterbagkit_SameInts.f kj36 t439 t442).bind fun t445 => (if t445 = true then ((letterbaglaw30_awake.f kj36).bind fun t446 => (some t446)) else (some false))) = some true := H
                     have A65 := Aside0.mk A650
                     clear A650
                     replace H := Option.bind_eq_some_iff.mp H
                     obtain ⟨t445, A660, H⟩ := H
                     replace H : (if t445 = true then ((letterbaglaw30_awake.f kj36).bind fun t446 => (some t446)) else (some false)) = some true := H
                     have A66 := Aside0.mk A660
                     clear A660
                     by_cases c67 : t445 = true
                     ·subst c67
                      have H1 : ((letterbaglaw30_awake.f kj36).bind fun t446 => (some t446)) = some true := by rw [if_pos rfl] at H; exact H
                      clear H
                      have H := H1
                      clear H1
                      replace H := Option.bind_eq_some_iff.mp H
                      obtain ⟨t446, A680, H⟩ := H
                      replace H : (some t446) = some true := H
                      have A68 := Aside0.mk A680
                      clear A680
                      have HT_ := Aside0.mk (Option.some.inj H)
                      try go_wp2
                      have n0_ := Aside0.mk (Kd.R_drew HO_9.out)
                      have n1_ := Aside0.mk (Kd.R_drew HO_10.out)
                      have n2_ := Aside0.mk (Kd.R_drew HO_11.out)
                      have n3_ := Aside0.mk (Kd.R_drew HO_14.out)
                      have n4_ := Aside0.mk (Kd.R_drew HO_15.out)
                      have n5_ := Aside0.mk (blk_drew BK369.out)
                      have n6_ := Aside0.mk (Kd.C_drew HR390.out)
                      have n7_ := Aside0.mk (Kd.C_drew HR397.out)
                      have n8_ := Aside0.mk (below_drew1 HB.out)
                      clear HO_9
                      clear HO_10
                      clear HO_11
                      clear HO_14
                      clear HO_15
                      clear BK369
                      clear HR390
                      clear HR397
                      clear HB
                      have HO_9 := n0_
                      have HO_10 := n1_
                      have HO_11 := n2_
                      have HO_14 := n3_
                      have HO_15 := n4_
                      have BK369 := n5_
                      have HR390 := n6_
                      have HR397 := n7_
                      have HB := n8_
                      clear n0_ n1_ n2_ n3_ n4_ n5_ n6_ n7_ n8_
                      refine start_ (n := 20) (S := fun w' => w'.cell? ⟨gb369, 0, none⟩ = some (.int .u8 a3_0) ∧ w'.cell? ⟨gb369, 1, none⟩ = some (.int .u8 a3_1)) (ds := []) #[false, false, false, false, false, false, false, false, false, false, false, false, false, false, false, false, false, false, false, false] (by kernel_rfl) rfl rfl ⟨(blk_cell BK369.out 0).trans rfl, (blk_cell BK369.out 1).trans rfl⟩ (fun hHeld => ?_); refine with_tabW letterbaglaw30_ShiftMore.tab13 letterbaglaw30_ShiftMore.bits13 (fun HT_ HW_ => ?_)
                      generalize wc.drew = w69 at HO_9 HO_10 HO_11 HO_14 HO_15 BK369 HR390 HR397 HB hHeld ⊢
                      refine pure_ (i := 0) (N := some 81) (v := ?_) (a' := ?_) #[true, false, false, false, false, false, false, false, false, false, false, false, false, false, false, false, false, false, false, false] rfl rfl (any_of HT_.out (by kernel_rfl)) (fun _ _ _ h => h) (Or.inl ⟨by rfl, ?_⟩) ?_ ?_
                      rotate_left
                      ·intro w'
                       go_simp
                       with_reducible rfl
                      rotate_left
                      ·simp only [Act.put, List.setIfInBounds_toArray, List.set_cons_zero, List.set_cons_succ, i64_w, i32_w]
                       rfl
                      refine pure_ (i := 2) (N := some 83) (v := ?_) (a' := ?_) #[true, false, true, false, false, false, false, false, false, false, false, false, false, false, false, false, false, false, false, false] rfl rfl (any_of HT_.out (by kernel_rfl)) (fun _ _ _ h => h) (Or.inl ⟨by rfl, ?_⟩) ?_ ?_
                      rotate_left
                      ·intro w'
                       go_simp
                       with_reducible rfl
                      rotate_left
                      ·simp only [Act.put, List.setIfInBounds_toArray, List.set_cons_zero, List.set_cons_succ, i64_w, i32_w]
                       rfl
                      refine pure_ (i := 4) (N := some 85) (v := ?_) (a' := ?_) #[true, false, true, false, true, false, false, false, false, false, false, false, false, false, false, false, false, false, false, false] rfl rfl (any_of HT_.out (by kernel_rfl)) (fun _ _ _ h => h) (Or.inl ⟨by rfl, ?_⟩) ?_ ?_
                      rotate_left
                      ·intro w'
                       go_simp
                       with_reducible rfl
                      rotate_left
                      ·simp only [Act.put, List.setIfInBounds_toArray, List.set_cons_zero, List.set_cons_succ, i64_w, i32_w]
                       rfl
                      refine pure_ (i := 5) (N := some 86) (v := ?_) (a' := ?_) #[true, false, true, false, true, true, false, false, false, false, false, false, false, false, false, false, false, false, false, false] rfl rfl (any_of HT_.out (by kernel_rfl)) (fun _ _ _ h => h) (Or.inl ⟨by rfl, ?_⟩) ?_ ?_
                      rotate_left
                      ·intro w'
                       go_simp
                       with_reducible rfl
                      rotate_left
                      ·simp only [Act.put, List.setIfInBounds_toArray, List.set_cons_zero, List.set_cons_succ, i64_w, i32_w]
                       rfl
                      refine pure_ (i := 6) (N := some 87) (v := ?_) (a' := ?_) #[true, false, true, false, true, true, true, false, false, false, false, false, false, false, false, false, false, false, false, false] rfl rfl (any_of HT_.out (by kernel_rfl)) (fun _ _ _ h => h) (Or.inl ⟨by rfl, ?_⟩) ?_ ?_
                      rotate_left
                      ·intro w'
                       go_simp
                       with_reducible rfl
                      rotate_left
                      ·simp only [Act.put, List.setIfInBounds_toArray, List.set_cons_zero, List.set_cons_succ, i64_w, i32_w]
                       rfl
                      refine pure_ (i := 7) (N := some 88) (v := ?_) (a' := ?_) #[true, false, true, false, true, true, true, true, false, false, false, false, false, false, false, false, false, false, false, false] rfl rfl (any_of HT_.out (by kernel_rfl)) (fun _ _ _ h => h) (Or.inl ⟨by rfl, ?_⟩) ?_ ?_
                      rotate_left
                      ·intro w'
                       go_simp
                       with_reducible rfl
                      rotate_left
                      ·simp only [Act.put, List.setIfInBounds_toArray, List.set_cons_zero, List.set_cons_succ, i64_w, i32_w]
                       rfl
                      refine take_ (i := 8) (N := some 89) (v := ?_) (a' := ?_) #[true, false, true, false, true, true, true, true, true, false, false, false, false, false, false, false, false, false, false, false] rfl rfl (take_ofW HT_.out HW_.out (by kernel_rfl)) (fun _ _ _ h => h) (Or.inl ⟨by rfl, ?_⟩) hHeld ?_ ?_
                      rotate_left
                      ·rintro w' ⟨s0, s1⟩
                       go_simp
                       with_reducible rfl
                      rotate_left
                      ·simp only [Act.put, List.setIfInBounds_toArray, List.set_cons_zero, List.set_cons_succ, i64_w, i32_w]
                       rfl
                      refine pure_ (i := 9) (N := some 90) (v := ?_) (a' := ?_) #[true, false, true, false, true, true, true, true, true, true, false, false, false, false, false, false, false, false, false, false] rfl rfl (any_of HT_.out (by kernel_rfl)) (fun _ _ _ h => h) (Or.inl ⟨by rfl, ?_⟩) ?_ ?_
                      rotate_left
                      ·intro w'
                       go_simp
                       with_reducible rfl
                      rotate_left
                      ·simp only [Act.put, List.setIfInBounds_toArray, List.set_cons_zero, List.set_cons_succ, i64_w, i32_w]
                       rfl
                      refine pure_ (i := 10) (N := some 91) (v := ?_) (a' := ?_) #[true, false, true, false, true, true, true, true, true, true, true, false, false, false, false, false, false, false, false, false] rfl rfl (any_of HT_.out (by kernel_rfl)) (fun _ _ _ h => h) (Or.inl ⟨by rfl, ?_⟩) ?_ ?_
                      rotate_left
                      ·intro w'
                       go_simp
                       with_reducible rfl
                      rotate_left
                      ·simp only [Act.put, List.setIfInBounds_toArray, List.set_cons_zero, List.set_cons_succ, i64_w, i32_w]
                       rfl
                      refine pure_ (i := 11) (N := some 92) (v := ?_) (a' := ?_) #[true, false, true, false, true, true, true, true, true, true, true, true, false, false, false, false, false, false, false, false] rfl rfl (any_of HT_.out (by kernel_rfl)) (fun _ _ _ h => h) (Or.inl ⟨by rfl, ?_⟩) ?_ ?_
                      rotate_left
                      ·intro w'
                       go_simp
                       with_reducible rfl
                      rotate_left
                      ·simp only [Act.put, List.setIfInBounds_toArray, List.set_cons_zero, List.set_cons_succ, i64_w, i32_w]
                       rfl
                      refine join_ (σ := Value × Value × Value) 7 #[true, true, true, true, true, true, true, true, true, true, true, true, true, false, false, false, false, false, false, false] (fun s_ => [(82, s_.1), (84, s_.2.1), (93, s_.2.2)]) (fun s_ w' => (w'.cell? ⟨gb369, 0, none⟩ = some (.int .u8 a3_0) ∧ w'.cell? ⟨gb369, 1, none⟩ = some (.int .u8 a3_1)) ∧ (Kd.R k47 47 w' w.heap.size (fun k_ => some k_ ≠ (s_.2.2 : Value).ownBlock ∧ some k_ ≠ (.slice Ao14 t373.length co14 : Value).ownBlock) s_.2.1 y409) ∧ (Kd.R k47 47 w' w.heap.size (fun k_ => some k_ ≠ (s_.2.1 : Value).ownBlock ∧ some k_ ≠ (.slice Ao14 t373.length co14 : Value).ownBlock) s_.2.2 y412) ∧ (Kd.R k47 47 w' w.heap.size (fun k_ => some k_ ≠ (s_.2.1 : Value).ownBlock ∧ some k_ ≠ (s_.2.2 : Value).ownBlock) (.slice Ao14 t373.length co14) t373) ∧ (Kd.R k51 51 w' w.heap.size (fun k_ => some k_ ≠ (v403 : Value).ownBlock) v378 t376) ∧ (Kd.R k45 45 w' w.heap.size (fun k_ => some k_ ≠ (.slice Ao13 t370.length co13 : Value).ownBlock) (.slice Ao45 y398.length co45) y398) ∧ (Kd.R k51 51 w' w.heap.size (fun k_ => some k_ ≠ (v378 : Value).ownBlock) v403 t401) ∧ (Kd.R k45 45 w' w.heap.size (fun k_ => some k_ ≠ (.slice Ao45 y398.length co45 : Value).ownBlock) (.slice Ao13 t370.length co13) t370) ∧ (w'.heap[gb369]? = some (.cells #[.int .u8 a3_0, .int .u8 a3_1] 55 (0, 0))) ∧ (Below w.heap.size w w')) ?_ ?_
                      rotate_left
                      ·intro hCont
                       refine two_ (i := 1) (j := 12) (Ni := some 82) (Nj := some 93) #[true, true, true, false, true, true, true, true, true, true, true, true, false, false, false, false, false, false, false, false] #[true, false, true, false, true, true, true, true, true, true, true, true, true, false, false, false, false, false, false, false] rfl rfl rfl rfl (two_of HT_.out (by kernel_rfl)) (by decide) (by decide) (fun K hK => ?_) (fun K hK => ?_)
                       ·skip
                        refine Kd.R_lit_step k47 _ 47 ?hg (N := 82) ?hd (xs := ([] : List (S47))) (inner := []) (ok := fun _ => True) (okp := fun _ => True) ?hr ?hp (fun _ hk => hk) trivial (Below.refl _ _) (Nat.le_refl _) (by simp) ?_; (case hd => rfl); (case hg => rfl); (case hr => (go_simp; done)); (case hp => exact (Reps.none _ _))
                        intro v407 w70 ho71 hb hg_ hnew_
                        clear hg_ hnew_
                        (rw [← Ny406.out] at ho71)
                        have n0_ := Aside0.mk (Kd.R_below (by (with_reducible repeat (fail)); exact HO_9.out) hb)
                        have n1_ := Aside0.mk (Kd.R_elder' (by (with_reducible repeat (fail)); exact HO_10.out) (Kd.R_base ho71) hb)
                        have n2_ := Aside0.mk (Kd.R_below (by (with_reducible repeat (fail)); exact HO_11.out) hb)
                        have n3_ := Aside0.mk (Kd.R_below (by (with_reducible repeat (fail)); exact HO_14.out) hb)
                        have n4_ := Aside0.mk (Kd.R_below (by (with_reducible repeat (fail)); exact HO_15.out) hb)
                        have n5_ := Aside0.mk (Kd.R_lower (Kd.R_new' ho71 (Kd.R_lt (by (with_reducible repeat (fail)); exact HO_10.out))) (below_size (by repeat ((with_reducible exact HB.out)))))
                        have n6_ := Aside0.mk (blk_below (g := gb369) (o := .cells #[.int .u8 a3_0, .int .u8 a3_1] 55 (0, 0)) (by (with_reducible repeat (fail)); exact BK369.out) hb)
                        have n7_ := Aside0.mk (Kd.C_below (by repeat ((with_reducible exact HR390.out))) hb)
                        have n8_ := Aside0.mk (Kd.C_below (by repeat ((with_reducible exact HR397.out))) hb)
                        have n9_ := Aside0.mk (below_step (by repeat ((with_reducible exact HB.out))) hb)
                        clear HO_9
                        clear HO_10
                        clear HO_11
                        clear HO_14
                        clear HO_15
                        clear BK369
                        clear HR390
                        clear HR397
                        clear HB
                        have HO_9 := n0_
                        have HO_10 := n1_
                        have HO_11 := n2_
                        have HO_14 := n3_
                        have HO_15 := n4_
                        have HO408 := n5_
                        have BK369 := n6_
                        have HR390 := n7_
                        have HR397 := n8_
                        have HB := n9_
                        clear n0_ n1_ n2_ n3_ n4_ n5_ n6_ n7_ n8_ n9_
                        clear hb ho71
                        refine hK.out _ _ ⟨(blk_cell BK369.out 0).trans rfl, (blk_cell BK369.out 1).trans rfl⟩ (fun hHeld => ?_)
                        clear hK K
                        refine norm_ (a' := ?_) ?_ ?_
                        rotate_left
                        ·show Act.put _ (some 82) _ = _
                         simp only [Act.put, List.setIfInBounds_toArray, List.set_cons_zero, List.set_cons_succ, i64_w, i32_w]
                         rfl
                        refine two_ (i := 3) (j := 12) (Ni := some 84) (Nj := some 93) #[true, true, true, true, true, true, true, true, true, true, true, true, false, false, false, false, false, false, false, false] #[true, true, true, false, true, true, true, true, true, true, true, true, true, false, false, false, false, false, false, false] rfl rfl rfl rfl (two_of HT_.out (by kernel_rfl)) (by decide) (by decide) (fun K hK => ?_) (fun K hK => ?_)
                        ·skip
                         refine Kd.R_append_rows_step k47 (w0 := w) w.heap.size (by rfl) (.tmp 82) (.tmp 83) 27 47 (.agg #[(.int .i64 0), (.int .i64 0)]) 16 rfl Try.underlying27 info47 rfl (by decide) (by omega) v407 y406 t373 _ _ _ (fun k_ => some k_ ≠ (.slice Ao14 t373.length co14 : Value).ownBlock) (fun _ => False) rfl rfl ?aO ?aR (fun _ _ h => h) (fun _ h => h.elim) ?aF ?aB ?aS ?aL ?_
                         (case aR => repeat (exact (Kd.R_reads' HO_10.out).2.2))
                         (case aB => exact (by repeat ((with_reducible exact HB.out))))
                         (case aF => exact (fun k_ hk => Kd.fresh' (Kd.R_lt (by (with_reducible repeat (fail)); exact HO_10.out)) k_ hk))
                         (case aO => exact (by (with_reducible repeat (fail)); exact Kd.R_mono HO408.out (fun _ hk => hk.2)))
                         (case aS => exact (below_size (by repeat ((with_reducible exact HB.out)))))
                         (case aL => have := LMc52.out; omega)
                         intro v410 w72 ho hb hg hat
                         rw [← Ny409.out] at ho
                         have n0_ := Aside0.mk (Kd.R_over' (by (with_reducible repeat (fail)); exact HO_9.out) (Kd.R_typed (by (with_reducible repeat (fail)); exact HO408.out)) (by decide) hg)
                         have n1_ := Aside0.mk (Kd.R_after (ok := (fun _ => True)) (by (with_reducible repeat (fail)); exact HO_10.out) hg hat)
                         have n2_ := Aside0.mk (Kd.R_over' (by (with_reducible repeat (fail)); exact HO_11.out) (Kd.R_typed (by (with_reducible repeat (fail)); exact HO408.out)) (by decide) hg)
                         have n3_ := Aside0.mk (Kd.R_over' (by (with_reducible repeat (fail)); exact HO_14.out) (Kd.R_typed (by (with_reducible repeat (fail)); exact HO408.out)) (by decide) hg)
                         have n4_ := Aside0.mk (Kd.R_over' (by (with_reducible repeat (fail)); exact HO_15.out) (Kd.R_typed (by (with_reducible repeat (fail)); exact HO408.out)) (by decide) hg)
                         have n5_ := Aside0.mk (blk_grown (g := gb369) (o := .cells #[.int .u8 a3_0, .int .u8 a3_1] 55 (0, 0)) (by (with_reducible repeat (fail)); exact BK369.out) hg (Kd.R_ne HO408.out BK369.out (by decide)))
                         have n6_ := Aside0.mk (hb)
                         have n7_ := Aside0.mk ((show Kd.C k45 w72 Ao13 y387.length y387 from by rw [Ny387.out]; exact Kd.C_take (m := ((ji28) : Int).toNat) ((Kd.R_reads' (Kd.R_over' (by (with_reducible repeat (fail)); exact HO_9.out) (Kd.R_typed (by (with_reducible repeat (fail)); exact HO408.out)) (by decide) hg)).2.2) KL39.out))
                         have n8_ := Aside0.mk ((show Kd.C k45 w72 A40 y394.length y394 from by rw [Ny394.out, KA40.out]; exact Kd.C_drop (m := ((ji32) : Int).toNat) (c := co13) ((Kd.R_reads' (Kd.R_over' (by (with_reducible repeat (fail)); exact HO_9.out) (Kd.R_typed (by (with_reducible repeat (fail)); exact HO408.out)) (by decide) hg)).2.2) KL40.out ((Kd.R_reads' (Kd.R_over' (by (with_reducible repeat (fail)); exact HO_9.out) (Kd.R_typed (by (with_reducible repeat (fail)); exact HO408.out)) (by decide) hg)).2.1)))
                         have n9_ := Aside0.mk (ho)
                         clear HO_9
                         clear HO_10
                         clear HO_11
                         clear HO_14
                         clear HO_15
                         clear BK369
                         clear HB
                         clear HR390
                         clear HR397
                         clear HO408
                         have HO_9 := n0_
                         have HO_10 := n1_
                         have HO_11 := n2_
                         have HO_14 := n3_
                         have HO_15 := n4_
                         have BK369 := n5_
                         have HB := n6_
                         have HR390 := n7_
                         have HR397 := n8_
                         have HO411 := n9_
                         clear n0_ n1_ n2_ n3_ n4_ n5_ n6_ n7_ n8_ n9_
                         clear ho hb hg hat
                         refine hK.out _ _ ⟨(blk_cell BK369.out 0).trans rfl, (blk_cell BK369.out 1).trans rfl⟩ (fun hHeld => ?_)
                         clear hK K
                         refine norm_ (a' := ?_) ?_ ?_
                         rotate_left
                         ·show Act.put _ (some 84) _ = _
                          simp only [Act.put, List.setIfInBounds_toArray, List.set_cons_zero, List.set_cons_succ, i64_w, i32_w]
                          rfl
                         refine one_ (i := 12) (N := some 93) #[true, true, true, true, true, true, true, true, true, true, true, true, true, false, false, false, false, false, false, false] rfl rfl (one_of HT_.out (by kernel_rfl)) (by decide) (fun K hK => ?_)
                         refine Kd.R_lit_step k47 _ 47 ?hg (N := 93) ?hd (xs := ([(⟨x16_36, wrap64 ((wrap64 (x16_36 + 1)) + (wrap64 (a3_1)))⟩ : S47)] : List (S47))) (inner := [.int .i64 x16_36, .int .i64 (wrap64 ((wrap64 (x16_36 + 1)) + (wrap64 (a3_1))))]) (ok := fun _ => True) (okp := fun _ => True) ?hr ?hp (fun _ hk => hk) trivial (Below.refl _ _) (Nat.le_refl _) (by simp) ?_; (case hd => rfl); (case hg => rfl); (case hr => (go_simp; done)); (case hp => exact (Reps.c2 (show Kd.M k47 _ _ _ (⟨x16_36, wrap64 ((wrap64 (x16_36 + 1)) + (wrap64 (a3_1)))⟩ : S47) [.int .i64 x16_36, .int .i64 (wrap64 ((wrap64 (x16_36 + 1)) + (wrap64 (a3_1))))] from (k47_mkM _ _ _ (⟨x16_36, wrap64 ((wrap64 (x16_36 + 1)) + (wrap64 (a3_1)))⟩ : S47) )) (Reps.none _ _)))
                         intro v413 w73 ho74 hb hg_ hnew_
                         clear hg_ hnew_
                         (rw [← Ny412.out] at ho74)
                         have n0_ := Aside0.mk (Kd.R_below (by (with_reducible repeat (fail)); exact HO_9.out) hb)
                         have n1_ := Aside0.mk (Kd.R_elder' (by (with_reducible repeat (fail)); exact HO_10.out) (Kd.R_base ho74) hb)
                         have n2_ := Aside0.mk (Kd.R_below (by (with_reducible repeat (fail)); exact HO_11.out) hb)
                         have n3_ := Aside0.mk (Kd.R_below (by (with_reducible repeat (fail)); exact HO_14.out) hb)
                         have n4_ := Aside0.mk (Kd.R_below (by (with_reducible repeat (fail)); exact HO_15.out) hb)
                         have n5_ := Aside0.mk (Kd.R_elder' (by (with_reducible repeat (fail)); exact HO411.out) (Kd.R_base ho74) hb)
                         have n6_ := Aside0.mk (Kd.R_lower (Kd.R_new' (Kd.R_new' ho74 (Kd.R_lt (by (with_reducible repeat (fail)); exact HO_10.out))) (Kd.R_lt (by (with_reducible repeat (fail)); exact HO411.out))) (below_size (by repeat ((with_reducible exact HB.out)))))
                         have n7_ := Aside0.mk (blk_below (g := gb369) (o := .cells #[.int .u8 a3_0, .int .u8 a3_1] 55 (0, 0)) (by (with_reducible repeat (fail)); exact BK369.out) hb)
                         have n8_ := Aside0.mk (Kd.C_below (by repeat ((with_reducible exact HR390.out))) hb)
                         have n9_ := Aside0.mk (Kd.C_below (by repeat ((with_reducible exact HR397.out))) hb)
                         have n10_ := Aside0.mk (below_step (by repeat ((with_reducible exact HB.out))) hb)
                         clear HO_9
                         clear HO_10
                         clear HO_11
                         clear HO_14
                         clear HO_15
                         clear HO411
                         clear BK369
                         clear HR390
                         clear HR397
                         clear HB
                         have HO_9 := n0_
                         have HO_10 := n1_
                         have HO_11 := n2_
                         have HO_14 := n3_
                         have HO_15 := n4_
                         have HO411 := n5_
                         have HO414 := n6_
                         have BK369 := n7_
                         have HR390 := n8_
                         have HR397 := n9_
                         have HB := n10_
                         clear n0_ n1_ n2_ n3_ n4_ n5_ n6_ n7_ n8_ n9_ n10_
                         clear hb ho74
                         refine hK.out _ _ ⟨(blk_cell BK369.out 0).trans rfl, (blk_cell BK369.out 1).trans rfl⟩ (fun hHeld => ?_)
                         clear hK K
                         refine norm_ (a' := ?_) ?_ ?_
                         rotate_left
                         ·show Act.put _ (some 93) _ = _
                          simp only [Act.put, List.setIfInBounds_toArray, List.set_cons_zero, List.set_cons_succ, i64_w, i32_w]
                          rfl
                         exact norm_ (by simp only [putAll, Act.put, List.setIfInBounds_toArray, List.set_cons_zero, List.set_cons_succ]) (hCont (v407, v410, v413) _ ⟨hHeld, (by (with_reducible repeat (fail)); exact Kd.R_mono HO411.out (fun _ hk => ⟨hk.2, hk.1⟩)), (by (with_reducible repeat (fail)); exact Kd.R_mono HO414.out (fun _ hk => ⟨hk.2, hk.1.2⟩)), (by (with_reducible repeat (fail)); exact Kd.R_mono HO_10.out (fun _ hk => ⟨hk.1.2, hk.2⟩)), (by (with_reducible repeat (fail)); exact HO_11.out), (by (with_reducible repeat (fail)); exact HO_14.out), (by (with_reducible repeat (fail)); exact HO_15.out), (by (with_reducible repeat (fail)); exact HO_9.out), (by (with_reducible repeat (fail)); exact BK369.out), (by repeat ((with_reducible exact HB.out)))⟩)
                        ·skip
                         refine Kd.R_lit_step k47 _ 47 ?hg (N := 93) ?hd (xs := ([(⟨x16_36, wrap64 ((wrap64 (x16_36 + 1)) + (wrap64 (a3_1)))⟩ : S47)] : List (S47))) (inner := [.int .i64 x16_36, .int .i64 (wrap64 ((wrap64 (x16_36 + 1)) + (wrap64 (a3_1))))]) (ok := fun _ => True) (okp := fun _ => True) ?hr ?hp (fun _ hk => hk) trivial (Below.refl _ _) (Nat.le_refl _) (by simp) ?_; (case hd => rfl); (case hg => rfl); (case hr => (go_simp; done)); (case hp => exact (Reps.c2 (show Kd.M k47 _ _ _ (⟨x16_36, wrap64 ((wrap64 (x16_36 + 1)) + (wrap64 (a3_1)))⟩ : S47) [.int .i64 x16_36, .int .i64 (wrap64 ((wrap64 (x16_36 + 1)) + (wrap64 (a3_1))))] from (k47_mkM _ _ _ (⟨x16_36, wrap64 ((wrap64 (x16_36 + 1)) + (wrap64 (a3_1)))⟩ : S47) )) (Reps.none _ _)))
                         intro v413 w72 ho73 hb hg_ hnew_
                         clear hg_ hnew_
                         (rw [← Ny412.out] at ho73)
                         have n0_ := Aside0.mk (Kd.R_below (by (with_reducible repeat (fail)); exact HO_9.out) hb)
                         have n1_ := Aside0.mk (Kd.R_elder' (by (with_reducible repeat (fail)); exact HO_10.out) (Kd.R_base ho73) hb)
                         have n2_ := Aside0.mk (Kd.R_below (by (with_reducible repeat (fail)); exact HO_11.out) hb)
                         have n3_ := Aside0.mk (Kd.R_below (by (with_reducible repeat (fail)); exact HO_14.out) hb)
                         have n4_ := Aside0.mk (Kd.R_below (by (with_reducible repeat (fail)); exact HO_15.out) hb)
                         have n5_ := Aside0.mk (Kd.R_elder' (by (with_reducible repeat (fail)); exact HO408.out) (Kd.R_base ho73) hb)
                         have n6_ := Aside0.mk (Kd.R_lower (Kd.R_new' (Kd.R_new' ho73 (Kd.R_lt (by (with_reducible repeat (fail)); exact HO_10.out))) (Kd.R_lt (by (with_reducible repeat (fail)); exact HO408.out))) (below_size (by repeat ((with_reducible exact HB.out)))))
                         have n7_ := Aside0.mk (blk_below (g := gb369) (o := .cells #[.int .u8 a3_0, .int .u8 a3_1] 55 (0, 0)) (by (with_reducible repeat (fail)); exact BK369.out) hb)
                         have n8_ := Aside0.mk (Kd.C_below (by repeat ((with_reducible exact HR390.out))) hb)
                         have n9_ := Aside0.mk (Kd.C_below (by repeat ((with_reducible exact HR397.out))) hb)
                         have n10_ := Aside0.mk (below_step (by repeat ((with_reducible exact HB.out))) hb)
                         clear HO_9
                         clear HO_10
                         clear HO_11
                         clear HO_14
                         clear HO_15
                         clear HO408
                         clear BK369
                         clear HR390
                         clear HR397
                         clear HB
                         have HO_9 := n0_
                         have HO_10 := n1_
                         have HO_11 := n2_
                         have HO_14 := n3_
                         have HO_15 := n4_
                         have HO408 := n5_
                         have HO414 := n6_
                         have BK369 := n7_
                         have HR390 := n8_
                         have HR397 := n9_
                         have HB := n10_
                         clear n0_ n1_ n2_ n3_ n4_ n5_ n6_ n7_ n8_ n9_ n10_
                         clear hb ho73
                         refine hK.out _ _ ⟨(blk_cell BK369.out 0).trans rfl, (blk_cell BK369.out 1).trans rfl⟩ (fun hHeld => ?_)
                         clear hK K
                         refine norm_ (a' := ?_) ?_ ?_
                         rotate_left
                         ·show Act.put _ (some 93) _ = _
                          simp only [Act.put, List.setIfInBounds_toArray, List.set_cons_zero, List.set_cons_succ, i64_w, i32_w]
                          rfl
                         refine one_ (i := 3) (N := some 84) #[true, true, true, true, true, true, true, true, true, true, true, true, true, false, false, false, false, false, false, false] rfl rfl (one_of HT_.out (by kernel_rfl)) (by decide) (fun K hK => ?_)
                         refine Kd.R_append_rows_step k47 (w0 := w) w.heap.size (by rfl) (.tmp 82) (.tmp 83) 27 47 (.agg #[(.int .i64 0), (.int .i64 0)]) 16 rfl Try.underlying27 info47 rfl (by decide) (by omega) v407 y406 t373 _ _ _ (fun k_ => some k_ ≠ (.slice Ao14 t373.length co14 : Value).ownBlock ∧ some k_ ≠ (v413 : Value).ownBlock) (fun _ => False) rfl rfl ?aO ?aR (fun _ _ h => h) (fun _ h => h.elim) ?aF ?aB ?aS ?aL ?_
                         (case aR => repeat (exact (Kd.R_reads' HO_10.out).2.2))
                         (case aB => exact (by repeat ((with_reducible exact HB.out))))
                         (case aF => exact (fun k_ hk => ⟨Kd.fresh' (Kd.R_lt (by (with_reducible repeat (fail)); exact HO_10.out)) k_ hk, Kd.fresh' (Kd.R_lt (by (with_reducible repeat (fail)); exact HO414.out)) k_ hk⟩))
                         (case aO => exact (by (with_reducible repeat (fail)); exact Kd.R_mono HO408.out (fun _ hk => ⟨hk.1.2, hk.2⟩)))
                         (case aS => exact (below_size (by repeat ((with_reducible exact HB.out)))))
                         (case aL => have := LMc52.out; omega)
                         intro v410 w74 ho hb hg hat
                         rw [← Ny409.out] at ho
                         have n0_ := Aside0.mk (Kd.R_over' (by (with_reducible repeat (fail)); exact HO_9.out) (Kd.R_typed (by (with_reducible repeat (fail)); exact HO408.out)) (by decide) hg)
                         have n1_ := Aside0.mk (Kd.R_after (ok := (fun k_ => some k_ ≠ (v413 : Value).ownBlock)) (by (with_reducible repeat (fail)); exact Kd.R_mono HO_10.out (fun _ hk => ⟨hk.2, hk.1.2⟩)) hg hat)
                         have n2_ := Aside0.mk (Kd.R_over' (by (with_reducible repeat (fail)); exact HO_11.out) (Kd.R_typed (by (with_reducible repeat (fail)); exact HO408.out)) (by decide) hg)
                         have n3_ := Aside0.mk (Kd.R_over' (by (with_reducible repeat (fail)); exact HO_14.out) (Kd.R_typed (by (with_reducible repeat (fail)); exact HO408.out)) (by decide) hg)
                         have n4_ := Aside0.mk (Kd.R_over' (by (with_reducible repeat (fail)); exact HO_15.out) (Kd.R_typed (by (with_reducible repeat (fail)); exact HO408.out)) (by decide) hg)
                         have n5_ := Aside0.mk (blk_grown (g := gb369) (o := .cells #[.int .u8 a3_0, .int .u8 a3_1] 55 (0, 0)) (by (with_reducible repeat (fail)); exact BK369.out) hg (Kd.R_ne HO408.out BK369.out (by decide)))
                         have n6_ := Aside0.mk (Kd.R_after (ok := (fun k_ => some k_ ≠ (.slice Ao14 t373.length co14 : Value).ownBlock)) (by (with_reducible repeat (fail)); exact Kd.R_mono HO414.out (fun _ hk => ⟨hk.1.2, hk.2⟩)) hg hat)
                         have n7_ := Aside0.mk (hb)
                         have n8_ := Aside0.mk ((show Kd.C k45 w74 Ao13 y387.length y387 from by rw [Ny387.out]; exact Kd.C_take (m := ((ji28) : Int).toNat) ((Kd.R_reads' (Kd.R_over' (by (with_reducible repeat (fail)); exact HO_9.out) (Kd.R_typed (by (with_reducible repeat (fail)); exact HO408.out)) (by decide) hg)).2.2) KL39.out))
                         have n9_ := Aside0.mk ((show Kd.C k45 w74 A40 y394.length y394 from by rw [Ny394.out, KA40.out]; exact Kd.C_drop (m := ((ji32) : Int).toNat) (c := co13) ((Kd.R_reads' (Kd.R_over' (by (with_reducible repeat (fail)); exact HO_9.out) (Kd.R_typed (by (with_reducible repeat (fail)); exact HO408.out)) (by decide) hg)).2.2) KL40.out ((Kd.R_reads' (Kd.R_over' (by (with_reducible repeat (fail)); exact HO_9.out) (Kd.R_typed (by (with_reducible repeat (fail)); exact HO408.out)) (by decide) hg)).2.1)))
                         have n10_ := Aside0.mk (ho)
                         clear HO_9
                         clear HO_10
                         clear HO_11
                         clear HO_14
                         clear HO_15
                         clear BK369
                         clear HO414
                         clear HB
                         clear HR390
                         clear HR397
                         clear HO408
                         have HO_9 := n0_
                         have HO_10 := n1_
                         have HO_11 := n2_
                         have HO_14 := n3_
                         have HO_15 := n4_
                         have BK369 := n5_
                         have HO414 := n6_
                         have HB := n7_
                         have HR390 := n8_
                         have HR397 := n9_
                         have HO411 := n10_
                         clear n0_ n1_ n2_ n3_ n4_ n5_ n6_ n7_ n8_ n9_ n10_
                         clear ho hb hg hat
                         refine hK.out _ _ ⟨(blk_cell BK369.out 0).trans rfl, (blk_cell BK369.out 1).trans rfl⟩ (fun hHeld => ?_)
                         clear hK K
                         refine norm_ (a' := ?_) ?_ ?_
                         rotate_left
                         ·show Act.put _ (some 84) _ = _
                          simp only [Act.put, List.setIfInBounds_toArray, List.set_cons_zero, List.set_cons_succ, i64_w, i32_w]
                          rfl
                         exact norm_ (by simp only [putAll, Act.put, List.setIfInBounds_toArray, List.set_cons_zero, List.set_cons_succ]) (hCont (v407, v410, v413) _ ⟨hHeld, (by (with_reducible repeat (fail)); exact Kd.R_mono HO411.out (fun _ hk => ⟨hk.2, hk.1⟩)), (by (with_reducible repeat (fail)); exact Kd.R_mono HO414.out (fun _ hk => ⟨hk.2, hk.1⟩)), (by (with_reducible repeat (fail)); exact Kd.R_mono HO_10.out (fun _ hk => ⟨hk.2, hk.1⟩)), (by (with_reducible repeat (fail)); exact HO_11.out), (by (with_reducible repeat (fail)); exact HO_14.out), (by (with_reducible repeat (fail)); exact HO_15.out), (by (with_reducible repeat (fail)); exact HO_9.out), (by (with_reducible repeat (fail)); exact BK369.out), (by repeat ((with_reducible exact HB.out)))⟩)
                       ·skip
                        refine Kd.R_lit_step k47 _ 47 ?hg (N := 93) ?hd (xs := ([(⟨x16_36, wrap64 ((wrap64 (x16_36 + 1)) + (wrap64 (a3_1)))⟩ : S47)] : List (S47))) (inner := [.int .i64 x16_36, .int .i64 (wrap64 ((wrap64 (x16_36 + 1)) + (wrap64 (a3_1))))]) (ok := fun _ => True) (okp := fun _ => True) ?hr ?hp (fun _ hk => hk) trivial (Below.refl _ _) (Nat.le_refl _) (by simp) ?_; (case hd => rfl); (case hg => rfl); (case hr => (go_simp; done)); (case hp => exact (Reps.c2 (show Kd.M k47 _ _ _ (⟨x16_36, wrap64 ((wrap64 (x16_36 + 1)) + (wrap64 (a3_1)))⟩ : S47) [.int .i64 x16_36, .int .i64 (wrap64 ((wrap64 (x16_36 + 1)) + (wrap64 (a3_1))))] from (k47_mkM _ _ _ (⟨x16_36, wrap64 ((wrap64 (x16_36 + 1)) + (wrap64 (a3_1)))⟩ : S47) )) (Reps.none _ _)))
                        intro v413 w70 ho71 hb hg_ hnew_
                        clear hg_ hnew_
                        (rw [← Ny412.out] at ho71)
                        have n0_ := Aside0.mk (Kd.R_below (by (with_reducible repeat (fail)); exact HO_9.out) hb)
                        have n1_ := Aside0.mk (Kd.R_elder' (by (with_reducible repeat (fail)); exact HO_10.out) (Kd.R_base ho71) hb)
                        have n2_ := Aside0.mk (Kd.R_below (by (with_reducible repeat (fail)); exact HO_11.out) hb)
                        have n3_ := Aside0.mk (Kd.R_below (by (with_reducible repeat (fail)); exact HO_14.out) hb)
                        have n4_ := Aside0.mk (Kd.R_below (by (with_reducible repeat (fail)); exact HO_15.out) hb)
                        have n5_ := Aside0.mk (Kd.R_lower (Kd.R_new' ho71 (Kd.R_lt (by (with_reducible repeat (fail)); exact HO_10.out))) (below_size (by repeat ((with_reducible exact HB.out)))))
                        have n6_ := Aside0.mk (blk_below (g := gb369) (o := .cells #[.int .u8 a3_0, .int .u8 a3_1] 55 (0, 0)) (by (with_reducible repeat (fail)); exact BK369.out) hb)
                        have n7_ := Aside0.mk (Kd.C_below (by repeat ((with_reducible exact HR390.out))) hb)
                        have n8_ := Aside0.mk (Kd.C_below (by repeat ((with_reducible exact HR397.out))) hb)
                        have n9_ := Aside0.mk (below_step (by repeat ((with_reducible exact HB.out))) hb)
                        clear HO_9
                        clear HO_10
                        clear HO_11
                        clear HO_14
                        clear HO_15
                        clear BK369
                        clear HR390
                        clear HR397
                        clear HB
                        have HO_9 := n0_
                        have HO_10 := n1_
                        have HO_11 := n2_
                        have HO_14 := n3_
                        have HO_15 := n4_
                        have HO414 := n5_
                        have BK369 := n6_
                        have HR390 := n7_
                        have HR397 := n8_
                        have HB := n9_
                        clear n0_ n1_ n2_ n3_ n4_ n5_ n6_ n7_ n8_ n9_
                        clear hb ho71
                        refine hK.out _ _ ⟨(blk_cell BK369.out 0).trans rfl, (blk_cell BK369.out 1).trans rfl⟩ (fun hHeld => ?_)
                        clear hK K
                        refine norm_ (a' := ?_) ?_ ?_
                        rotate_left
                        ·show Act.put _ (some 93) _ = _
                         simp only [Act.put, List.setIfInBounds_toArray, List.set_cons_zero, List.set_cons_succ, i64_w, i32_w]
                         rfl
                        refine one_ (i := 1) (N := some 82) #[true, true, true, false, true, true, true, true, true, true, true, true, true, false, false, false, false, false, false, false] rfl rfl (one_of HT_.out (by kernel_rfl)) (by decide) (fun K hK => ?_)
                        refine Kd.R_lit_step k47 _ 47 ?hg (N := 82) ?hd (xs := ([] : List (S47))) (inner := []) (ok := fun _ => True) (okp := fun _ => True) ?hr ?hp (fun _ hk => hk) trivial (Below.refl _ _) (Nat.le_refl _) (by simp) ?_; (case hd => rfl); (case hg => rfl); (case hr => (go_simp; done)); (case hp => exact (Reps.none _ _))
                        intro v407 w72 ho73 hb hg_ hnew_
                        clear hg_ hnew_
                        (rw [← Ny406.out] at ho73)
                        have n0_ := Aside0.mk (Kd.R_below (by (with_reducible repeat (fail)); exact HO_9.out) hb)
                        have n1_ := Aside0.mk (Kd.R_elder' (by (with_reducible repeat (fail)); exact HO_10.out) (Kd.R_base ho73) hb)
                        have n2_ := Aside0.mk (Kd.R_below (by (with_reducible repeat (fail)); exact HO_11.out) hb)
                        have n3_ := Aside0.mk (Kd.R_below (by (with_reducible repeat (fail)); exact HO_14.out) hb)
                        have n4_ := Aside0.mk (Kd.R_below (by (with_reducible repeat (fail)); exact HO_15.out) hb)
                        have n5_ := Aside0.mk (Kd.R_elder' (by (with_reducible repeat (fail)); exact HO414.out) (Kd.R_base ho73) hb)
                        have n6_ := Aside0.mk (Kd.R_lower (Kd.R_new' (Kd.R_new' ho73 (Kd.R_lt (by (with_reducible repeat (fail)); exact HO_10.out))) (Kd.R_lt (by (with_reducible repeat (fail)); exact HO414.out))) (below_size (by repeat ((with_reducible exact HB.out)))))
                        have n7_ := Aside0.mk (blk_below (g := gb369) (o := .cells #[.int .u8 a3_0, .int .u8 a3_1] 55 (0, 0)) (by (with_reducible repeat (fail)); exact BK369.out) hb)
                        have n8_ := Aside0.mk (Kd.C_below (by repeat ((with_reducible exact HR390.out))) hb)
                        have n9_ := Aside0.mk (Kd.C_below (by repeat ((with_reducible exact HR397.out))) hb)
                        have n10_ := Aside0.mk (below_step (by repeat ((with_reducible exact HB.out))) hb)
                        clear HO_9
                        clear HO_10
                        clear HO_11
                        clear HO_14
                        clear HO_15
                        clear HO414
                        clear BK369
                        clear HR390
                        clear HR397
                        clear HB
                        have HO_9 := n0_
                        have HO_10 := n1_
                        have HO_11 := n2_
                        have HO_14 := n3_
                        have HO_15 := n4_
                        have HO414 := n5_
                        have HO408 := n6_
                        have BK369 := n7_
                        have HR390 := n8_
                        have HR397 := n9_
                        have HB := n10_
                        clear n0_ n1_ n2_ n3_ n4_ n5_ n6_ n7_ n8_ n9_ n10_
                        clear hb ho73
                        refine hK.out _ _ ⟨(blk_cell BK369.out 0).trans rfl, (blk_cell BK369.out 1).trans rfl⟩ (fun hHeld => ?_)
                        clear hK K
                        refine norm_ (a' := ?_) ?_ ?_
                        rotate_left
                        ·show Act.put _ (some 82) _ = _
                         simp only [Act.put, List.setIfInBounds_toArray, List.set_cons_zero, List.set_cons_succ, i64_w, i32_w]
                         rfl
                        refine one_ (i := 3) (N := some 84) #[true, true, true, true, true, true, true, true, true, true, true, true, true, false, false, false, false, false, false, false] rfl rfl (one_of HT_.out (by kernel_rfl)) (by decide) (fun K hK => ?_)
                        refine Kd.R_append_rows_step k47 (w0 := w) w.heap.size (by rfl) (.tmp 82) (.tmp 83) 27 47 (.agg #[(.int .i64 0), (.int .i64 0)]) 16 rfl Try.underlying27 info47 rfl (by decide) (by omega) v407 y406 t373 _ _ _ (fun k_ => some k_ ≠ (.slice Ao14 t373.length co14 : Value).ownBlock ∧ some k_ ≠ (v413 : Value).ownBlock) (fun _ => False) rfl rfl ?aO ?aR (fun _ _ h => h) (fun _ h => h.elim) ?aF ?aB ?aS ?aL ?_
                        (case aR => repeat (exact (Kd.R_reads' HO_10.out).2.2))
                        (case aB => exact (by repeat ((with_reducible exact HB.out))))
                        (case aF => exact (fun k_ hk => ⟨Kd.fresh' (Kd.R_lt (by (with_reducible repeat (fail)); exact HO_10.out)) k_ hk, Kd.fresh' (Kd.R_lt (by (with_reducible repeat (fail)); exact HO414.out)) k_ hk⟩))
                        (case aO => exact (by (with_reducible repeat (fail)); exact Kd.R_mono HO408.out (fun _ hk => ⟨hk.1.2, hk.2⟩)))
                        (case aS => exact (below_size (by repeat ((with_reducible exact HB.out)))))
                        (case aL => have := LMc52.out; omega)
                        intro v410 w74 ho hb hg hat
                        rw [← Ny409.out] at ho
                        have n0_ := Aside0.mk (Kd.R_over' (by (with_reducible repeat (fail)); exact HO_9.out) (Kd.R_typed (by (with_reducible repeat (fail)); exact HO408.out)) (by decide) hg)
                        have n1_ := Aside0.mk (Kd.R_after (ok := (fun k_ => some k_ ≠ (v413 : Value).ownBlock)) (by (with_reducible repeat (fail)); exact Kd.R_mono HO_10.out (fun _ hk => ⟨hk.1.2, hk.2⟩)) hg hat)
                        have n2_ := Aside0.mk (Kd.R_over' (by (with_reducible repeat (fail)); exact HO_11.out) (Kd.R_typed (by (with_reducible repeat (fail)); exact HO408.out)) (by decide) hg)
                        have n3_ := Aside0.mk (Kd.R_over' (by (with_reducible repeat (fail)); exact HO_14.out) (Kd.R_typed (by (with_reducible repeat (fail)); exact HO408.out)) (by decide) hg)
                        have n4_ := Aside0.mk (Kd.R_over' (by (with_reducible repeat (fail)); exact HO_15.out) (Kd.R_typed (by (with_reducible repeat (fail)); exact HO408.out)) (by decide) hg)
                        have n5_ := Aside0.mk (blk_grown (g := gb369) (o := .cells #[.int .u8 a3_0, .int .u8 a3_1] 55 (0, 0)) (by (with_reducible repeat (fail)); exact BK369.out) hg (Kd.R_ne HO408.out BK369.out (by decide)))
                        have n6_ := Aside0.mk (Kd.R_after (ok := (fun k_ => some k_ ≠ (.slice Ao14 t373.length co14 : Value).ownBlock)) (by (with_reducible repeat (fail)); exact Kd.R_mono HO414.out (fun _ hk => ⟨hk.1.2, hk.2⟩)) hg hat)
                        have n7_ := Aside0.mk (hb)
                        have n8_ := Aside0.mk ((show Kd.C k45 w74 Ao13 y387.length y387 from by rw [Ny387.out]; exact Kd.C_take (m := ((ji28) : Int).toNat) ((Kd.R_reads' (Kd.R_over' (by (with_reducible repeat (fail)); exact HO_9.out) (Kd.R_typed (by (with_reducible repeat (fail)); exact HO408.out)) (by decide) hg)).2.2) KL39.out))
                        have n9_ := Aside0.mk ((show Kd.C k45 w74 A40 y394.length y394 from by rw [Ny394.out, KA40.out]; exact Kd.C_drop (m := ((ji32) : Int).toNat) (c := co13) ((Kd.R_reads' (Kd.R_over' (by (with_reducible repeat (fail)); exact HO_9.out) (Kd.R_typed (by (with_reducible repeat (fail)); exact HO408.out)) (by decide) hg)).2.2) KL40.out ((Kd.R_reads' (Kd.R_over' (by (with_reducible repeat (fail)); exact HO_9.out) (Kd.R_typed (by (with_reducible repeat (fail)); exact HO408.out)) (by decide) hg)).2.1)))
                        have n10_ := Aside0.mk (ho)
                        clear HO_9
                        clear HO_10
                        clear HO_11
                        clear HO_14
                        clear HO_15
                        clear BK369
                        clear HO414
                        clear HB
                        clear HR390
                        clear HR397
                        clear HO408
                        have HO_9 := n0_
                        have HO_10 := n1_
                        have HO_11 := n2_
                        have HO_14 := n3_
                        have HO_15 := n4_
                        have BK369 := n5_
                        have HO414 := n6_
                        have HB := n7_
                        have HR390 := n8_
                        have HR397 := n9_
                        have HO411 := n10_
                        clear n0_ n1_ n2_ n3_ n4_ n5_ n6_ n7_ n8_ n9_ n10_
                        clear ho hb hg hat
                        refine hK.out _ _ ⟨(blk_cell BK369.out 0).trans rfl, (blk_cell BK369.out 1).trans rfl⟩ (fun hHeld => ?_)
                        clear hK K
                        refine norm_ (a' := ?_) ?_ ?_
                        rotate_left
                        ·show Act.put _ (some 84) _ = _
                         simp only [Act.put, List.setIfInBounds_toArray, List.set_cons_zero, List.set_cons_succ, i64_w, i32_w]
                         rfl
                        exact norm_ (by simp only [putAll, Act.put, List.setIfInBounds_toArray, List.set_cons_zero, List.set_cons_succ]) (hCont (v407, v410, v413) _ ⟨hHeld, (by (with_reducible repeat (fail)); exact Kd.R_mono HO411.out (fun _ hk => ⟨hk.2, hk.1⟩)), (by (with_reducible repeat (fail)); exact Kd.R_mono HO414.out (fun _ hk => ⟨hk.2, hk.1⟩)), (by (with_reducible repeat (fail)); exact Kd.R_mono HO_10.out (fun _ hk => ⟨hk.2, hk.1⟩)), (by (with_reducible repeat (fail)); exact HO_11.out), (by (with_reducible repeat (fail)); exact HO_14.out), (by (with_reducible repeat (fail)); exact HO_15.out), (by (with_reducible repeat (fail)); exact HO_9.out), (by (with_reducible repeat (fail)); exact BK369.out), (by repeat ((with_reducible exact HB.out)))⟩)
                      rintro ⟨v407, v410, v413⟩ w75 ⟨hS_, h0_, h1_, h2_, h3_, h4_, h5_, h6_, h7_, h8_⟩
                      have n0_ : Aside0 (Kd.R k47 47 w75 w.heap.size (fun k_ => some k_ ≠ (v413 : Value).ownBlock ∧ some k_ ≠ (.slice Ao14 t373.length co14 : Value).ownBlock) v410 y409) := ⟨h0_⟩
                      have n1_ : Aside0 (Kd.R k47 47 w75 w.heap.size (fun k_ => some k_ ≠ (v410 : Value).ownBlock ∧ some k_ ≠ (.slice Ao14 t373.length co14 : Value).ownBlock) v413 y412) := ⟨h1_⟩
                      have n2_ : Aside0 (Kd.R k47 47 w75 w.heap.size (fun k_ => some k_ ≠ (v410 : Value).ownBlock ∧ some k_ ≠ (v413 : Value).ownBlock) (.slice Ao14 t373.length co14) t373) := ⟨h2_⟩
                      have n3_ : Aside0 (Kd.R k51 51 w75 w.heap.size (fun k_ => some k_ ≠ (v403 : Value).ownBlock) v378 t376) := ⟨h3_⟩
                      have n4_ : Aside0 (Kd.R k45 45 w75 w.heap.size (fun k_ => some k_ ≠ (.slice Ao13 t370.length co13 : Value).ownBlock) (.slice Ao45 y398.length co45) y398) := ⟨h4_⟩
                      have n5_ : Aside0 (Kd.R k51 51 w75 w.heap.size (fun k_ => some k_ ≠ (v378 : Value).ownBlock) v403 t401) := ⟨h5_⟩
                      have n6_ : Aside0 (Kd.R k45 45 w75 w.heap.size (fun k_ => some k_ ≠ (.slice Ao45 y398.length co45 : Value).ownBlock) (.slice Ao13 t370.length co13) t370) := ⟨h6_⟩
                      have n7_ : Aside0 (w75.heap[gb369]? = some (.cells #[.int .u8 a3_0, .int .u8 a3_1] 55 (0, 0))) := ⟨h7_⟩
                      have n8_ : Aside0 (Below w.heap.size w w75) := ⟨h8_⟩
                      clear HO_9
                      clear HO_10
                      clear HO_11
                      clear HO_14
                      clear HO_15
                      clear BK369
                      clear HR390
                      clear HR397
                      clear HB
                      clear h0_ h1_ h2_ h3_ h4_ h5_ h6_ h7_ h8_
                      have HO411 := n0_
                      have HO414 := n1_
                      have HO_10 := n2_
                      have HO_11 := n3_
                      have HO_14 := n4_
                      have HO_15 := n5_
                      have HO_9 := n6_
                      have BK369 := n7_
                      have HB := n8_
                      clear n0_ n1_ n2_ n3_ n4_ n5_ n6_ n7_ n8_
                      have hHeld : w75.cell? ⟨gb369, 0, none⟩ = some (.int .u8 a3_0) ∧ w75.cell? ⟨gb369, 1, none⟩ = some (.int .u8 a3_1) := hS_
                      obtain ⟨Ao77, co77, eo77⟩ := Kd.R_slice HO414.out
                      (subst eo77)
                      refine norm_ (a' := ?_) ?_ ?_
                      rotate_left
                      ·simp only [putAll, Act.put, List.setIfInBounds_toArray, List.set_cons_zero, List.set_cons_succ]
                       rfl
                      refine one_ (i := 13) (N := some 94) #[true, true, true, true, true, true, true, true, true, true, true, true, true, true, false, false, false, false, false, false] rfl rfl (one_of HT_.out (by kernel_rfl)) (by decide) (fun K hK => ?_)
                      refine Kd.R_append_rows_step k47 (w0 := w) w.heap.size (by rfl) (.tmp 84) (.tmp 93) 27 47 (.agg #[(.int .i64 0), (.int .i64 0)]) 16 rfl Try.underlying27 info47 rfl (by decide) (by omega) v410 y409 y412 _ _ _ (fun k_ => some k_ ≠ (.slice Ao14 t373.length co14 : Value).ownBlock ∧ some k_ ≠ (.slice Ao77 y412.length co77 : Value).ownBlock) (fun _ => False) rfl rfl ?aO ?aR (fun _ _ h => h) (fun _ h => h.elim) ?aF ?aB ?aS ?aL ?_
                      (case aR => repeat (exact (Kd.R_reads' HO414.out).2.2))
                      (case aB => exact (by repeat ((with_reducible exact HB.out))))
                      (case aF => exact (fun k_ hk => ⟨Kd.fresh' (Kd.R_lt (by (with_reducible repeat (fail)); exact HO_10.out)) k_ hk, Kd.fresh' (Kd.R_lt (by (with_reducible repeat (fail)); exact HO414.out)) k_ hk⟩))
                      (case aO => exact (by (with_reducible repeat (fail)); exact Kd.R_mono HO411.out (fun _ hk => ⟨hk.2, hk.1⟩)))
                      (case aS => exact (below_size (by repeat ((with_reducible exact HB.out)))))
                      (case aL => have := LMc53.out; omega)
                      intro v416 w76 ho hb hg hat
                      rw [← Ny415.out] at ho
                      have n0_ := Aside0.mk (Kd.R_over' (by (with_reducible repeat (fail)); exact HO_9.out) (Kd.R_typed (by (with_reducible repeat (fail)); exact HO411.out)) (by decide) hg)
                      have n1_ := Aside0.mk (Kd.R_after (ok := (fun k_ => some k_ ≠ (.slice Ao77 y412.length co77 : Value).ownBlock)) (by (with_reducible repeat (fail)); exact Kd.R_mono HO_10.out (fun _ hk => ⟨hk.2, hk.1⟩)) hg hat)
                      have n2_ := Aside0.mk (Kd.R_over' (by (with_reducible repeat (fail)); exact HO_11.out) (Kd.R_typed (by (with_reducible repeat (fail)); exact HO411.out)) (by decide) hg)
                      have n3_ := Aside0.mk (Kd.R_over' (by (with_reducible repeat (fail)); exact HO_14.out) (Kd.R_typed (by (with_reducible repeat (fail)); exact HO411.out)) (by decide) hg)
                      have n4_ := Aside0.mk (Kd.R_over' (by (with_reducible repeat (fail)); exact HO_15.out) (Kd.R_typed (by (with_reducible repeat (fail)); exact HO411.out)) (by decide) hg)
                      have n5_ := Aside0.mk (blk_grown (g := gb369) (o := .cells #[.int .u8 a3_0, .int .u8 a3_1] 55 (0, 0)) (by (with_reducible repeat (fail)); exact BK369.out) hg (Kd.R_ne HO411.out BK369.out (by decide)))
                      have n6_ := Aside0.mk (Kd.R_after (ok := (fun k_ => some k_ ≠ (.slice Ao14 t373.length co14 : Value).ownBlock)) (by (with_reducible repeat (fail)); exact Kd.R_mono HO414.out (fun _ hk => ⟨hk.2, hk.1⟩)) hg hat)
                      have n7_ := Aside0.mk (hb)
                      have n8_ := Aside0.mk (ho)
                      clear HO_9
                      clear HO_10
                      clear HO_11
                      clear HO_14
                      clear HO_15
                      clear BK369
                      clear HO414
                      clear HB
                      clear HO411
                      have HO_9 := n0_
                      have HO_10 := n1_
                      have HO_11 := n2_
                      have HO_14 := n3_
                      have HO_15 := n4_
                      have BK369 := n5_
                      have HO414 := n6_
                      have HB := n7_
                      have HO417 := n8_
                      clear n0_ n1_ n2_ n3_ n4_ n5_ n6_ n7_ n8_
                      clear ho hb hg hat
                      obtain ⟨Ao78, co78, eo78⟩ := Kd.R_slice HO417.out
                      (subst eo78)
                      refine hK.out _ _ ⟨(blk_cell BK369.out 0).trans rfl, (blk_cell BK369.out 1).trans rfl⟩ (fun hHeld => ?_)
                      clear hK K
                      refine norm_ (a' := ?_) ?_ ?_
                      rotate_left
                      ·show Act.put _ (some 94) _ = _
                       simp only [Act.put, List.setIfInBounds_toArray, List.set_cons_zero, List.set_cons_succ, i64_w, i32_w]
                       rfl
                      refine one_ (i := 14) (N := some 95) #[true, true, true, true, true, true, true, true, true, true, true, true, true, true, true, false, false, false, false, false] rfl rfl (one_of HT_.out (by kernel_rfl)) (by decide) (fun K hK => ?_)
                      refine goes_ Try.func12 (by kernel_rfl) rfl #[.slice Ao13 t370.length co13, .slice Ao78 y415.length co78] (by rfl) rfl rfl (by (try simp only [List.map_toArray, List.map_cons, List.map_nil]); rfl) ?_
                      with_reducible refine (shift_Make.calls _ _ t370 _ _ y415 t418 t419 _ ?side1 ?side2 ?side3 ?side4 A54.out).mono ?_
                      (case side1 => repeat (exact (Kd.R_reads' HO_9.out).2.2))
                      (case side2 => exact (Kd.R_reads' HO_9.out).2.1)
                      (case side3 => repeat (exact (Kd.R_reads' HO417.out).2.2))
                      (case side4 => exact (Kd.R_reads' HO417.out).2.1)
                      rintro e w79 ⟨v420, rfl, ho0, hb⟩
                      refine ⟨_, rfl, ?_⟩
                      have n0_ := Aside0.mk (Kd.R_below (by (with_reducible repeat (fail)); exact HO_9.out) hb)
                      have n1_ := Aside0.mk (Kd.R_below (by (with_reducible repeat (fail)); exact HO_10.out) hb)
                      have n2_ := Aside0.mk (Kd.R_elder' (by (with_reducible repeat (fail)); exact HO_11.out) (Kd.R_base ho0) hb)
                      have n3_ := Aside0.mk (Kd.R_below (by (with_reducible repeat (fail)); exact HO_14.out) hb)
                      have n4_ := Aside0.mk (Kd.R_elder' (by (with_reducible repeat (fail)); exact HO_15.out) (Kd.R_base ho0) hb)
                      have n5_ := Aside0.mk (Kd.R_below (by (with_reducible repeat (fail)); exact HO414.out) hb)
                      have n6_ := Aside0.mk (Kd.R_below (by (with_reducible repeat (fail)); exact HO417.out) hb)
                      have n7_ := Aside0.mk (Kd.R_lower (Kd.R_new' (Kd.R_new' ho0 (Kd.R_lt (by (with_reducible repeat (fail)); exact HO_11.out))) (Kd.R_lt (by (with_reducible repeat (fail)); exact HO_15.out))) (below_size (by repeat ((with_reducible exact HB.out)))))
                      have n8_ := Aside0.mk (blk_below (g := gb369) (o := .cells #[.int .u8 a3_0, .int .u8 a3_1] 55 (0, 0)) (by (with_reducible repeat (fail)); exact BK369.out) hb)
                      have n9_ := Aside0.mk (below_step (by repeat ((with_reducible exact HB.out))) hb)
                      clear HO_9
                      clear HO_10
                      clear HO_11
                      clear HO_14
                      clear HO_15
                      clear HO414
                      clear HO417
                      clear BK369
                      clear HB
                      have HO_9 := n0_
                      have HO_10 := n1_
                      have HO_11 := n2_
                      have HO_14 := n3_
                      have HO_15 := n4_
                      have HO414 := n5_
                      have HO417 := n6_
                      have HO421 := n7_
                      have BK369 := n8_
                      have HB := n9_
                      clear n0_ n1_ n2_ n3_ n4_ n5_ n6_ n7_ n8_ n9_
                      (try clear hb)
                      (try clear hb2)
                      (try clear hk)
                      (try clear hi)
                      (try clear ho0)
                      refine hK.out _ _ ⟨(blk_cell BK369.out 0).trans rfl, (blk_cell BK369.out 1).trans rfl⟩ (fun hHeld => ?_)
                      clear hK K
                      refine norm_ (a' := ?_) ?_ ?_
                      rotate_left
                      ·show Act.put _ (some 95) _ = _
                       simp only [Act.put, List.setIfInBounds_toArray, List.set_cons_zero, List.set_cons_succ, i64_w, i32_w]
                       rfl
                      refine pure_ (i := 15) (N := some 80) (v := ?_) (a' := ?_) #[true, true, true, true, true, true, true, true, true, true, true, true, true, true, true, true, false, false, false, false] rfl rfl (any_of HT_.out (by kernel_rfl)) (fun _ _ _ h => h) (Or.inl ⟨by rfl, ?_⟩) ?_ ?_
                      rotate_left
                      ·intro w'
                       go_simp
                       with_reducible rfl
                      rotate_left
                      ·simp only [Act.put, List.setIfInBounds_toArray, List.set_cons_zero, List.set_cons_succ, i64_w, i32_w]
                       rfl
                      refine pure_ (i := 16) (N := some 96) (v := ?_) (a' := ?_) #[true, true, true, true, true, true, true, true, true, true, true, true, true, true, true, true, true, false, false, false] rfl rfl (any_of HT_.out (by kernel_rfl)) (fun _ _ _ h => h) (Or.inl ⟨by rfl, ?_⟩) ?_ ?_
                      rotate_left
                      ·intro w'
                       go_simp
                       with_reducible rfl
                      rotate_left
                      ·simp only [Act.put, List.setIfInBounds_toArray, List.set_cons_zero, List.set_cons_succ, i64_w, i32_w]
                       rfl
                      refine pure_ (i := 17) (N := some 97) (v := ?_) (a' := ?_) #[true, true, true, true, true, true, true, true, true, true, true, true, true, true, true, true, true, true, false, false] rfl rfl (any_of HT_.out (by kernel_rfl)) (fun _ _ _ h => h) (Or.inl ⟨by rfl, ?_⟩) ?_ ?_
                      rotate_left
                      ·intro w'
                       go_simp
                       with_reducible rfl
                      rotate_left
                      ·simp only [Act.put, List.setIfInBounds_toArray, List.set_cons_zero, List.set_cons_succ, i64_w, i32_w]
                       rfl
                      refine pure_ (i := 18) (N := some 17) (v := ?_) (a' := ?_) #[true, true, true, true, true, true, true, true, true, true, true, true, true, true, true, true, true, true, true, false] rfl rfl (any_of HT_.out (by kernel_rfl)) (fun _ _ _ h => h) (Or.inl ⟨by rfl, ?_⟩) ?_ ?_
                      rotate_left
                      ·intro w'
                       go_simp
                       with_reducible rfl
                      rotate_left
                      ·simp only [Act.put, List.setIfInBounds_toArray, List.set_cons_zero, List.set_cons_succ, i64_w, i32_w]
                       rfl
                      refine pure_ (i := 19) (N := some 18) (v := ?_) (a' := ?_) #[true, true, true, true, true, true, true, true, true, true, true, true, true, true, true, true, true, true, true, true] rfl rfl (any_of HT_.out (by kernel_rfl)) (fun _ _ _ h => h) (Or.inl ⟨by rfl, ?_⟩) ?_ ?_
                      rotate_left
                      ·intro w'
                       go_simp
                       with_reducible rfl
                      rotate_left
                      ·simp only [Act.put, List.setIfInBounds_toArray, List.set_cons_zero, List.set_cons_succ, i64_w, i32_w]
                       rfl
                      refine done_ (done_of HT_.out (by kernel_rfl)) ?_
                      try go_wp2_with (first | ((with_reducible refine gate_dst (N := 100) rfl ?_); (try (refine gate_guard (by rfl) ?_; dsimp only)); refine Kd.R_lit k47 _ 47 ?hg (N := 100) ?hd (xs := ([] : List (S47))) (inner := []) (ok := fun _ => True) (okp := fun _ => True) ?hr ?hp (fun _ hk => hk) trivial (Below.refl _ _) (Nat.le_refl _) (by simp) ?_; (case hd => rfl); (case hg => rfl); (case hr => (go_simp; done)); (case hp => exact (Reps.none _ _)); intro v423 w80 ho81 hb hg_ hnew_; clear hg_ hnew_; (rw [← Ny422.out] at ho81); have n0_ := Aside0.mk (Kd.R_below (by (with_reducible repeat (fail)); exact HO_9.out) hb); have n1_ := Aside0.mk (Kd.R_elder' (by (with_reducible repeat (fail)); exact HO_10.out) (Kd.R_base ho81) hb); have n2_ := Aside0.mk (Kd.R_below (by (with_reducible repeat (fail)); exact HO_11.out) hb); have n3_ := Aside0.mk (Kd.R_below (by (with_reducible repeat (fail)); exact HO_14.out) hb); have n4_ := Aside0.mk (Kd.R_below (by (with_reducible repeat (fail)); exact HO_15.out) hb); have n5_ := Aside0.mk (Kd.R_elder' (by (with_reducible repeat (fail)); exact HO414.out) (Kd.R_base ho81) hb); have n6_ := Aside0.mk (Kd.R_elder' (by (with_reducible repeat (fail)); exact HO417.out) (Kd.R_base ho81) hb); have n7_ := Aside0.mk (Kd.R_below (by (with_reducible repeat (fail)); exact HO421.out) hb); have n8_ := Aside0.mk (Kd.R_lower (Kd.R_new' (Kd.R_new' (Kd.R_new' ho81 (Kd.R_lt (by (with_reducible repeat (fail)); exact HO_10.out))) (Kd.R_lt (by (with_reducible repeat (fail)); exact HO414.out))) (Kd.R_lt (by (with_reducible repeat (fail)); exact HO417.out))) (below_size (by repeat ((with_reducible exact HB.out))))); have n9_ := Aside0.mk (blk_below (g := gb369) (o := .cells #[.int .u8 a3_0, .int .u8 a3_1] 55 (0, 0)) (by (with_reducible repeat (fail)); exact BK369.out) hb); have n10_ := Aside0.mk (below_step (by repeat ((with_reducible exact HB.out))) hb); clear HO_9; clear HO_10; clear HO_11; clear HO_14; clear HO_15; clear HO414; clear HO417; clear HO421; clear BK369; clear HB; have HO_9 := n0_; have HO_10 := n1_; have HO_11 := n2_; have HO_14 := n3_; have HO_15 := n4_; have HO414 := n5_; have HO417 := n6_; have HO421 := n7_; have HO424 := n8_; have BK369 := n9_; have HB := n10_; clear n0_ n1_ n2_ n3_ n4_ n5_ n6_ n7_ n8_ n9_ n10_; clear hb ho81) | ((with_reducible refine gate_builtin (b := .append) (xs := #[.tmp 100, .tmp 101]) rfl ?_); (try (refine gate_guard (by rfl) ?_; dsimp only)); at_builtin; refine Kd.R_append_rows k47 (w0 := w) w.heap.size rfl (.tmp 100) (.tmp 101) 27 47 (.agg #[(.int .i64 0), (.int .i64 0)]) 16 rfl Try.underlying27 info47 rfl (by decide) (by omega) v423 y422 t373 _ _ _ (fun k_ => some k_ ≠ (.slice Ao14 t373.length co14 : Value).ownBlock ∧ some k_ ≠ (.slice Ao77 y412.length co77 : Value).ownBlock ∧ some k_ ≠ (.slice Ao78 y415.length co78 : Value).ownBlock) (fun _ => False) rfl rfl ?aO ?aR (fun _ _ h => h) (fun _ h => h.elim) ?aF ?aB ?aS ?aL ?_; (case aR => repeat (exact (Kd.R_reads' HO_10.out).2.2)); (case aB => exact (by repeat ((with_reducible exact HB.out)))); (case aF => exact (fun k_ hk => ⟨Kd.fresh' (Kd.R_lt (by (with_reducible repeat (fail)); exact HO_10.out)) k_ hk, Kd.fresh' (Kd.R_lt (by (with_reducible repeat (fail)); exact HO414.out)) k_ hk, Kd.fresh' (Kd.R_lt (by (with_reducible repeat (fail)); exact HO417.out)) k_ hk⟩)); (case aO => exact (by (with_reducible repeat (fail)); exact Kd.R_mono HO424.out (fun _ hk => ⟨hk.1.1.2, ⟨hk.1.2, hk.2⟩⟩))); (case aS => exact (below_size (by repeat ((with_reducible exact HB.out))))); (case aL => have := LMc55.out; omega); intro v426 w82 ho hb hg hat; rw [← Ny425.out] at ho; have n0_ := Aside0.mk (Kd.R_over' (by (with_reducible repeat (fail)); exact HO_9.out) (Kd.R_typed (by (with_reducible repeat (fail)); exact HO424.out)) (by decide) hg); have n1_ := Aside0.mk (Kd.R_after (ok := (fun k_ => some k_ ≠ (.slice Ao77 y412.length co77 : Value).ownBlock ∧ some k_ ≠ (.slice Ao78 y415.length co78 : Value).ownBlock)) (by (with_reducible repeat (fail)); exact HO_10.out) hg hat); have n2_ := Aside0.mk (Kd.R_over' (by (with_reducible repeat (fail)); exact HO_11.out) (Kd.R_typed (by (with_reducible repeat (fail)); exact HO424.out)) (by decide) hg); have n3_ := Aside0.mk (Kd.R_over' (by (with_reducible repeat (fail)); exact HO_14.out) (Kd.R_typed (by (with_reducible repeat (fail)); exact HO424.out)) (by decide) hg); have n4_ := Aside0.mk (Kd.R_over' (by (with_reducible repeat (fail)); exact HO_15.out) (Kd.R_typed (by (with_reducible repeat (fail)); exact HO424.out)) (by decide) hg); have n5_ := Aside0.mk (blk_grown (g := gb369) (o := .cells #[.int .u8 a3_0, .int .u8 a3_1] 55 (0, 0)) (by (with_reducible repeat (fail)); exact BK369.out) hg (Kd.R_ne HO424.out BK369.out (by decide))); have n6_ := Aside0.mk (Kd.R_after (ok := (fun k_ => some k_ ≠ (.slice Ao14 t373.length co14 : Value).ownBlock ∧ some k_ ≠ (.slice Ao78 y415.length co78 : Value).ownBlock)) (by (with_reducible repeat (fail)); exact HO414.out) hg hat); have n7_ := Aside0.mk (Kd.R_after (ok := (fun k_ => some k_ ≠ (.slice Ao14 t373.length co14 : Value).ownBlock ∧ some k_ ≠ (.slice Ao77 y412.length co77 : Value).ownBlock)) (by (with_reducible repeat (fail)); exact HO417.out) hg hat); have n8_ := Aside0.mk (Kd.R_over' (by (with_reducible repeat (fail)); exact HO421.out) (Kd.R_typed (by (with_reducible repeat (fail)); exact HO424.out)) (by decide) hg); have n9_ := Aside0.mk (hb); have n10_ := Aside0.mk (ho); clear HO_9; clear HO_10; clear HO_11; clear HO_14; clear HO_15; clear BK369; clear HO414; clear HO417; clear HO421; clear HB; clear HO424; have HO_9 := n0_; have HO_10 := n1_; have HO_11 := n2_; have HO_14 := n3_; have HO_15 := n4_; have BK369 := n5_; have HO414 := n6_; have HO417 := n7_; have HO421 := n8_; have HB := n9_; have HO427 := n10_; clear n0_ n1_ n2_ n3_ n4_ n5_ n6_ n7_ n8_ n9_ n10_; clear ho hb hg hat; obtain ⟨Ao83, co83, eo83⟩ := Kd.R_slice HO427.out; subst eo83) | ((with_reducible refine gate_callee (f := 12) rfl ?_); refine goesL_ (some 103) rfl rfl Try.func12 (by kernel_rfl) rfl #[.slice Ao13 t370.length co13, .slice Ao83 y425.length co83] rfl (by (try simp only [List.map_toArray, List.map_cons, List.map_nil]); rfl) ?_; (with_reducible refine (shift_Make.calls _ _ t370 _ _ y425 t428 t429 _ ?side1 ?side2 ?side3 ?side4 A56.out).mono ?_); (case side1 => repeat (exact (Kd.R_reads' HO_9.out).2.2)); (case side2 => exact (Kd.R_reads' HO_9.out).2.1); (case side3 => repeat (exact (Kd.R_reads' HO427.out).2.2)); (case side4 => exact (Kd.R_reads' HO427.out).2.1); rintro e w84 ⟨v430, rfl, ho0, hb⟩; refine ⟨_, rfl, ?_⟩; have n0_ := Aside0.mk (Kd.R_below (by (with_reducible repeat (fail)); exact HO_9.out) hb); have n1_ := Aside0.mk (Kd.R_below (by (with_reducible repeat (fail)); exact HO_10.out) hb); have n2_ := Aside0.mk (Kd.R_elder' (by (with_reducible repeat (fail)); exact HO_11.out) (Kd.R_base ho0) hb); have n3_ := Aside0.mk (Kd.R_below (by (with_reducible repeat (fail)); exact HO_14.out) hb); have n4_ := Aside0.mk (Kd.R_elder' (by (with_reducible repeat (fail)); exact HO_15.out) (Kd.R_base ho0) hb); have n5_ := Aside0.mk (Kd.R_below (by (with_reducible repeat (fail)); exact HO414.out) hb); have n6_ := Aside0.mk (Kd.R_below (by (with_reducible repeat (fail)); exact HO417.out) hb); have n7_ := Aside0.mk (Kd.R_elder' (by (with_reducible repeat (fail)); exact HO421.out) (Kd.R_base ho0) hb); have n8_ := Aside0.mk (Kd.R_below (by (with_reducible repeat (fail)); exact HO427.out) hb); have n9_ := Aside0.mk (Kd.R_lower (Kd.R_new' (Kd.R_new' (Kd.R_new' ho0 (Kd.R_lt (by (with_reducible repeat (fail)); exact HO_11.out))) (Kd.R_lt (by (with_reducible repeat (fail)); exact HO_15.out))) (Kd.R_lt (by (with_reducible repeat (fail)); exact HO421.out))) (below_size (by repeat ((with_reducible exact HB.out))))); have n10_ := Aside0.mk (blk_below (g := gb369) (o := .cells #[.int .u8 a3_0, .int .u8 a3_1] 55 (0, 0)) (by (with_reducible repeat (fail)); exact BK369.out) hb); have n11_ := Aside0.mk (below_step (by repeat ((with_reducible exact HB.out))) hb); clear HO_9; clear HO_10; clear HO_11; clear HO_14; clear HO_15; clear HO414; clear HO417; clear HO421; clear HO427; clear BK369; clear HB; have HO_9 := n0_; have HO_10 := n1_; have HO_11 := n2_; have HO_14 := n3_; have HO_15 := n4_; have HO414 := n5_; have HO417 := n6_; have HO421 := n7_; have HO427 := n8_; have HO431 := n9_; have BK369 := n10_; have HB := n11_; clear n0_ n1_ n2_ n3_ n4_ n5_ n6_ n7_ n8_ n9_ n10_ n11_; (try clear hb); (try clear hb2); (try clear hk); (try clear hi); (try clear ho0); obtain ⟨Ao85, co85, eo85⟩ := Kd.R_slice HO_15.out; subst eo85) | (go_at_call 15; (with_reducible refine (shift_Late.calls kj36 _ _ y398 _ _ t401 t432 _ ?side1 ?side2 ?side3 ?side4 A58.out).mono ?_); (case side1 => repeat (exact (Kd.R_reads' HO_14.out).2.2)); (case side2 => exact (Kd.R_reads' HO_14.out).2.1); (case side3 => repeat (exact (Kd.R_reads' HO_15.out).2.2)); (case side4 => exact (Kd.R_reads' HO_15.out).2.1); rintro e w86 ⟨v433, rfl, ho0, hb⟩; have n0_ := Aside0.mk (Kd.R_below (by (with_reducible repeat (fail)); exact HO_9.out) hb); have n1_ := Aside0.mk (Kd.R_below (by (with_reducible repeat (fail)); exact HO_10.out) hb); have n2_ := Aside0.mk (Kd.R_below (by (with_reducible repeat (fail)); exact HO_11.out) hb); have n3_ := Aside0.mk (Kd.R_below (by (with_reducible repeat (fail)); exact HO_14.out) hb); have n4_ := Aside0.mk (Kd.R_below (by (with_reducible repeat (fail)); exact HO_15.out) hb); have n5_ := Aside0.mk (Kd.R_below (by (with_reducible repeat (fail)); exact HO414.out) hb); have n6_ := Aside0.mk (Kd.R_below (by (with_reducible repeat (fail)); exact HO417.out) hb); have n7_ := Aside0.mk (Kd.R_below (by (with_reducible repeat (fail)); exact HO421.out) hb); have n8_ := Aside0.mk (Kd.R_below (by (with_reducible repeat (fail)); exact HO427.out) hb); have n9_ := Aside0.mk (Kd.R_below (by (with_reducible repeat (fail)); exact HO431.out) hb); have n10_ := Aside0.mk (Kd.R_lower ho0 (below_size (by repeat ((with_reducible exact HB.out))))); have n11_ := Aside0.mk (blk_below (g := gb369) (o := .cells #[.int .u8 a3_0, .int .u8 a3_1] 55 (0, 0)) (by (with_reducible repeat (fail)); exact BK369.out) hb); have n12_ := Aside0.mk (below_step (by repeat ((with_reducible exact HB.out))) hb); clear HO_9; clear HO_10; clear HO_11; clear HO_14; clear HO_15; clear HO414; clear HO417; clear HO421; clear HO427; clear HO431; clear BK369; clear HB; have HO_9 := n0_; have HO_10 := n1_; have HO_11 := n2_; have HO_14 := n3_; have HO_15 := n4_; have HO414 := n5_; have HO417 := n6_; have HO421 := n7_; have HO427 := n8_; have HO431 := n9_; have HO434 := n10_; have BK369 := n11_; have HB := n12_; clear n0_ n1_ n2_ n3_ n4_ n5_ n6_ n7_ n8_ n9_ n10_ n11_ n12_; (try clear hb); (try clear hb2); (try clear hk); (try clear hi); (try clear ho0); obtain ⟨Ao87, co87, eo87⟩ := Kd.R_slice HO434.out; subst eo87; obtain ⟨Ao88, co88, eo88⟩ := Kd.R_slice HO421.out; subst eo88) | (go_at_call 15; (with_reducible refine (shift_Late.calls kj36 _ _ t370 _ _ t418 t435 _ ?side1 ?side2 ?side3 ?side4 A60.out).mono ?_); (case side1 => repeat (exact (Kd.R_reads' HO_9.out).2.2)); (case side2 => exact (Kd.R_reads' HO_9.out).2.1); (case side3 => repeat (exact (Kd.R_reads' HO421.out).2.2)); (case side4 => exact (Kd.R_reads' HO421.out).2.1); rintro e w89 ⟨v436, rfl, ho0, hb⟩; have n0_ := Aside0.mk (Kd.R_below (by (with_reducible repeat (fail)); exact HO_9.out) hb); have n1_ := Aside0.mk (Kd.R_below (by (with_reducible repeat (fail)); exact HO_10.out) hb); have n2_ := Aside0.mk (Kd.R_below (by (with_reducible repeat (fail)); exact HO_11.out) hb); have n3_ := Aside0.mk (Kd.R_below (by (with_reducible repeat (fail)); exact HO_14.out) hb); have n4_ := Aside0.mk (Kd.R_below (by (with_reducible repeat (fail)); exact HO_15.out) hb); have n5_ := Aside0.mk (Kd.R_below (by (with_reducible repeat (fail)); exact HO414.out) hb); have n6_ := Aside0.mk (Kd.R_below (by (with_reducible repeat (fail)); exact HO417.out) hb); have n7_ := Aside0.mk (Kd.R_below (by (with_reducible repeat (fail)); exact HO421.out) hb); have n8_ := Aside0.mk (Kd.R_below (by (with_reducible repeat (fail)); exact HO427.out) hb); have n9_ := Aside0.mk (Kd.R_below (by (with_reducible repeat (fail)); exact HO431.out) hb); have n10_ := Aside0.mk (Kd.R_elder' (by (with_reducible repeat (fail)); exact HO434.out) (Kd.R_base ho0) hb); have n11_ := Aside0.mk (Kd.R_lower (Kd.R_new' ho0 (Kd.R_lt (by (with_reducible repeat (fail)); exact HO434.out))) (below_size (by repeat ((with_reducible exact HB.out))))); have n12_ := Aside0.mk (blk_below (g := gb369) (o := .cells #[.int .u8 a3_0, .int .u8 a3_1] 55 (0, 0)) (by (with_reducible repeat (fail)); exact BK369.out) hb); have n13_ := Aside0.mk (below_step (by repeat ((with_reducible exact HB.out))) hb); clear HO_9; clear HO_10; clear HO_11; clear HO_14; clear HO_15; clear HO414; clear HO417; clear HO421; clear HO427; clear HO431; clear HO434; clear BK369; clear HB; have HO_9 := n0_; have HO_10 := n1_; have HO_11 := n2_; have HO_14 := n3_; have HO_15 := n4_; have HO414 := n5_; have HO417 := n6_; have HO421 := n7_; have HO427 := n8_; have HO431 := n9_; have HO434 := n10_; have HO437 := n11_; have BK369 := n12_; have HB := n13_; clear n0_ n1_ n2_ n3_ n4_ n5_ n6_ n7_ n8_ n9_ n10_ n11_ n12_ n13_; (try clear hb); (try clear hb2); (try clear hk); (try clear hi); (try clear ho0); obtain ⟨Ao90, co90, eo90⟩ := Kd.R_slice HO437.out; subst eo90; obtain ⟨Ao91, co91, eo91⟩ := Kd.R_slice HO_11.out; subst eo91; obtain ⟨Ao92, co92, eo92⟩ := Kd.R_slice HO431.out; subst eo92) | (go_at_call 20; (with_reducible refine (letterbaglaw30_sliced.calls kj36 _ _ t376 _ _ t428 true _ ?side1 ?side2 ?side3 ?side4 A62.out).mono ?_); (case side1 => repeat (exact (Kd.R_reads' HO_11.out).2.2)); (case side2 => exact (Kd.R_reads' HO_11.out).2.1); (case side3 => repeat (exact (Kd.R_reads' HO431.out).2.2)); (case side4 => exact (Kd.R_reads' HO431.out).2.1); rintro e w' ⟨rfl, ⟨nd, rfl⟩⟩) | (go_at_call 22; (with_reducible refine (shift_Ends.calls _ _ t370 _ _ t418 t439 _ ?side1 ?side2 ?side3 ?side4 A64.out).mono ?_); (case side1 => repeat (exact (Kd.R_reads' HO_9.out).2.2)); (case side2 => exact (Kd.R_reads' HO_9.out).2.1); (case side3 => repeat (exact (Kd.R_reads' HO421.out).2.2)); (case side4 => exact (Kd.R_reads' HO421.out).2.1); rintro e w93 ⟨v440, rfl, ho0, hb⟩; have n0_ := Aside0.mk (Kd.R_below (by (with_reducible repeat (apply Kd.R_drewN)); exact HO_9.out) hb); have n1_ := Aside0.mk (Kd.R_below (by (with_reducible repeat (apply Kd.R_drewN)); exact HO_10.out) hb); have n2_ := Aside0.mk (Kd.R_below (by (with_reducible repeat (apply Kd.R_drewN)); exact HO_11.out) hb); have n3_ := Aside0.mk (Kd.R_below (by (with_reducible repeat (apply Kd.R_drewN)); exact HO_14.out) hb); have n4_ := Aside0.mk (Kd.R_below (by (with_reducible repeat (apply Kd.R_drewN)); exact HO_15.out) hb); have n5_ := Aside0.mk (Kd.R_below (by (with_reducible repeat (apply Kd.R_drewN)); exact HO414.out) hb); have n6_ := Aside0.mk (Kd.R_below (by (with_reducible repeat (apply Kd.R_drewN)); exact HO417.out) hb); have n7_ := Aside0.mk (Kd.R_below (by (with_reducible repeat (apply Kd.R_drewN)); exact HO421.out) hb); have n8_ := Aside0.mk (Kd.R_below (by (with_reducible repeat (apply Kd.R_drewN)); exact HO427.out) hb); have n9_ := Aside0.mk (Kd.R_below (by (with_reducible repeat (apply Kd.R_drewN)); exact HO431.out) hb); have n10_ := Aside0.mk (Kd.R_elder' (by (with_reducible repeat (apply Kd.R_drewN)); exact HO434.out) (Kd.R_base ho0) hb); have n11_ := Aside0.mk (Kd.R_elder' (by (with_reducible repeat (apply Kd.R_drewN)); exact HO437.out) (Kd.R_base ho0) hb); have n12_ := Aside0.mk (Kd.R_lower (Kd.R_new' (Kd.R_new' ho0 (Kd.R_lt (by (with_reducible repeat (apply Kd.R_drewN)); exact HO434.out))) (Kd.R_lt (by (with_reducible repeat (apply Kd.R_drewN)); exact HO437.out))) (below_size (by repeat ((with_reducible first | exact HB.out | apply pw_below_drewN))))); have n13_ := Aside0.mk (blk_below (g := gb369) (o := .cells #[.int .u8 a3_0, .int .u8 a3_1] 55 (0, 0)) (by (with_reducible repeat (refine blk_drewN ?_ _)); exact BK369.out) hb); have n14_ := Aside0.mk (below_step (by repeat ((with_reducible first | exact HB.out | apply pw_below_drewN))) hb); clear HO_9; clear HO_10; clear HO_11; clear HO_14; clear HO_15; clear HO414; clear HO417; clear HO421; clear HO427; clear HO431; clear HO434; clear HO437; clear BK369; clear HB; have HO_9 := n0_; have HO_10 := n1_; have HO_11 := n2_; have HO_14 := n3_; have HO_15 := n4_; have HO414 := n5_; have HO417 := n6_; have HO421 := n7_; have HO427 := n8_; have HO431 := n9_; have HO434 := n10_; have HO437 := n11_; have HO441 := n12_; have BK369 := n13_; have HB := n14_; clear n0_ n1_ n2_ n3_ n4_ n5_ n6_ n7_ n8_ n9_ n10_ n11_ n12_ n13_ n14_; (try clear hb); (try clear hb2); (try clear hk); (try clear hi); (try clear ho0)) | (go_at_call 22; (with_reducible refine (shift_Ends.calls _ _ t370 _ _ t376 t442 _ ?side1 ?side2 ?side3 ?side4 A65.out).mono ?_); (case side1 => repeat (exact (Kd.R_reads' HO_9.out).2.2)); (case side2 => exact (Kd.R_reads' HO_9.out).2.1); (case side3 => repeat (exact (Kd.R_reads' HO_11.out).2.2)); (case side4 => exact (Kd.R_reads' HO_11.out).2.1); rintro e w94 ⟨v443, rfl, ho0, hb⟩; have n0_ := Aside0.mk (Kd.R_below (by (with_reducible repeat (fail)); exact HO_9.out) hb); have n1_ := Aside0.mk (Kd.R_below (by (with_reducible repeat (fail)); exact HO_10.out) hb); have n2_ := Aside0.mk (Kd.R_below (by (with_reducible repeat (fail)); exact HO_11.out) hb); have n3_ := Aside0.mk (Kd.R_below (by (with_reducible repeat (fail)); exact HO_14.out) hb); have n4_ := Aside0.mk (Kd.R_below (by (with_reducible repeat (fail)); exact HO_15.out) hb); have n5_ := Aside0.mk (Kd.R_below (by (with_reducible repeat (fail)); exact HO414.out) hb); have n6_ := Aside0.mk (Kd.R_below (by (with_reducible repeat (fail)); exact HO417.out) hb); have n7_ := Aside0.mk (Kd.R_below (by (with_reducible repeat (fail)); exact HO421.out) hb); have n8_ := Aside0.mk (Kd.R_below (by (with_reducible repeat (fail)); exact HO427.out) hb); have n9_ := Aside0.mk (Kd.R_below (by (with_reducible repeat (fail)); exact HO431.out) hb); have n10_ := Aside0.mk (Kd.R_elder' (by (with_reducible repeat (fail)); exact HO434.out) (Kd.R_base ho0) hb); have n11_ := Aside0.mk (Kd.R_elder' (by (with_reducible repeat (fail)); exact HO437.out) (Kd.R_base ho0) hb); have n12_ := Aside0.mk (Kd.R_elder' (by (with_reducible repeat (fail)); exact HO441.out) (Kd.R_base ho0) hb); have n13_ := Aside0.mk (Kd.R_lower (Kd.R_new' (Kd.R_new' (Kd.R_new' ho0 (Kd.R_lt (by (with_reducible repeat (fail)); exact HO434.out))) (Kd.R_lt (by (with_reducible repeat (fail)); exact HO437.out))) (Kd.R_lt (by (with_reducible repeat (fail)); exact HO441.out))) (below_size (by repeat ((with_reducible exact HB.out))))); have n14_ := Aside0.mk (blk_below (g := gb369) (o := .cells #[.int .u8 a3_0, .int .u8 a3_1] 55 (0, 0)) (by (with_reducible repeat (fail)); exact BK369.out) hb); have n15_ := Aside0.mk (below_step (by repeat ((with_reducible exact HB.out))) hb); clear HO_9; clear HO_10; clear HO_11; clear HO_14; clear HO_15; clear HO414; clear HO417; clear HO421; clear HO427; clear HO431; clear HO434; clear HO437; clear HO441; clear BK369; clear HB; have HO_9 := n0_; have HO_10 := n1_; have HO_11 := n2_; have HO_14 := n3_; have HO_15 := n4_; have HO414 := n5_; have HO417 := n6_; have HO421 := n7_; have HO427 := n8_; have HO431 := n9_; have HO434 := n10_; have HO437 := n11_; have HO441 := n12_; have HO444 := n13_; have BK369 := n14_; have HB := n15_; clear n0_ n1_ n2_ n3_ n4_ n5_ n6_ n7_ n8_ n9_ n10_ n11_ n12_ n13_ n14_ n15_; (try clear hb); (try clear hb2); (try clear hk); (try clear hi); (try clear ho0); obtain ⟨Ao95, co95, eo95⟩ := Kd.R_slice HO441.out; subst eo95; obtain ⟨Ao96, co96, eo96⟩ := Kd.R_slice HO444.out; subst eo96) | (go_at_call 21; (with_reducible refine (letterbagkit_SameInts.calls kj36 _ _ t439 _ _ t442 true _ ?side1 ?side2 ?side3 ?side4 A66.out).mono ?_); (case side1 => repeat (exact (Kd.R_reads' HO441.out).2.2)); (case side2 => exact (Kd.R_reads' HO441.out).2.1); (case side3 => repeat (exact (Kd.R_reads' HO444.out).2.2)); (case side4 => exact (Kd.R_reads' HO444.out).2.1); rintro e w' ⟨rfl, ⟨nd, rfl⟩⟩) | (go_at_call 17; (with_reducible refine (letterbaglaw30_awake.calls kj36  t446 _ A68.out).mono ?_); rintro e w97 ⟨rfl, hb⟩; have n0_ := Aside0.mk (Kd.R_below (by (with_reducible repeat (apply Kd.R_drewN)); exact HO_9.out) hb); have n1_ := Aside0.mk (Kd.R_below (by (with_reducible repeat (apply Kd.R_drewN)); exact HO_10.out) hb); have n2_ := Aside0.mk (Kd.R_below (by (with_reducible repeat (apply Kd.R_drewN)); exact HO_11.out) hb); have n3_ := Aside0.mk (Kd.R_below (by (with_reducible repeat (apply Kd.R_drewN)); exact HO_14.out) hb); have n4_ := Aside0.mk (Kd.R_below (by (with_reducible repeat (apply Kd.R_drewN)); exact HO_15.out) hb); have n5_ := Aside0.mk (Kd.R_below (by (with_reducible repeat (apply Kd.R_drewN)); exact HO414.out) hb); have n6_ := Aside0.mk (Kd.R_below (by (with_reducible repeat (apply Kd.R_drewN)); exact HO417.out) hb); have n7_ := Aside0.mk (Kd.R_below (by (with_reducible repeat (apply Kd.R_drewN)); exact HO421.out) hb); have n8_ := Aside0.mk (Kd.R_below (by (with_reducible repeat (apply Kd.R_drewN)); exact HO427.out) hb); have n9_ := Aside0.mk (Kd.R_below (by (with_reducible repeat (apply Kd.R_drewN)); exact HO431.out) hb); have n10_ := Aside0.mk (Kd.R_below (by (with_reducible repeat (apply Kd.R_drewN)); exact HO434.out) hb); have n11_ := Aside0.mk (Kd.R_below (by (with_reducible repeat (apply Kd.R_drewN)); exact HO437.out) hb); have n12_ := Aside0.mk (Kd.R_below (by (with_reducible repeat (apply Kd.R_drewN)); exact HO441.out) hb); have n13_ := Aside0.mk (Kd.R_below (by (with_reducible repeat (apply Kd.R_drewN)); exact HO444.out) hb); have n14_ := Aside0.mk (blk_below (g := gb369) (o := .cells #[.int .u8 a3_0, .int .u8 a3_1] 55 (0, 0)) (by (with_reducible repeat (refine blk_drewN ?_ _)); exact BK369.out) hb); have n15_ := Aside0.mk (below_step (by repeat ((with_reducible first | exact HB.out | apply pw_below_drewN))) hb); clear HO_9; clear HO_10; clear HO_11; clear HO_14; clear HO_15; clear HO414; clear HO417; clear HO421; clear HO427; clear HO431; clear HO434; clear HO437; clear HO441; clear HO444; clear BK369; clear HB; have HO_9 := n0_; have HO_10 := n1_; have HO_11 := n2_; have HO_14 := n3_; have HO_15 := n4_; have HO414 := n5_; have HO417 := n6_; have HO421 := n7_; have HO427 := n8_; have HO431 := n9_; have HO434 := n10_; have HO437 := n11_; have HO441 := n12_; have HO444 := n13_; have BK369 := n14_; have HB := n15_; clear n0_ n1_ n2_ n3_ n4_ n5_ n6_ n7_ n8_ n9_ n10_ n11_ n12_ n13_ n14_ n15_; (try clear hb); (try clear hb2); (try clear hk); (try clear hi)))
                      go_ret
                      exact ⟨by (have e_ := HT_.out; simp_all; done), by repeat ((with_reducible exact HB.out))⟩
                     ·replace c67 := Bool.eq_false_iff.mpr c67
                      subst c67
                      have H1 : (some false) = some true := by rw [if_neg (show ¬ (false = true) by decide)] at H; exact H
                      clear H
                      have H := H1
                      clear H1
                      exact absurd H (by simp)
                    ·replace c63 := Bool.eq_false_iff.mpr c63
                     subst c63
                     have H1 : (some false) = some true := by rw [if_neg (show ¬ (false = true) by decide)] at H; exact H
                     clear H
                     have H := H1
                     clear H1
                     exact absurd H (by simp)
                   ·rw [if_neg c61] at H
                    have c61b0 : ((t435.length : Int) == 0) = false := beq_eq_false_iff_ne.mpr c61
                    have c61b1 : ((t435.length : Int) != 0) = true := bne_iff_ne.mpr c61
                    have c61b2 : ¬ (t435 = []) := fun h_ => c61 (by rw [h_]; rfl)
                    exact absurd H (by simp)
                  ·rw [if_neg c59] at H
                   have c59b0 : ((t432.length : Int) == 0) = false := beq_eq_false_iff_ne.mpr c59
                   have c59b1 : ((t432.length : Int) != 0) = true := bne_iff_ne.mpr c59
                   have c59b2 : ¬ (t432 = []) := fun h_ => c59 (by rw [h_]; rfl)
                   exact absurd H (by simp)
                 ·rw [if_neg c57] at H
                  have c57b0 : ((wrap64 ((wrap64 (t402 + t419)) + t429)) == 0) = false := beq_eq_false_iff_ne.mpr c57
                  have c57b1 : ((wrap64 ((wrap64 (t402 + t419)) + t429)) != 0) = true := bne_iff_ne.mpr c57
                  exact absurd H (by simp)
                ·rw [if_neg c55] at H
                 exact absurd H (by simp)
               ·rw [if_neg c53] at H
                exact absurd H (by simp)
              ·rw [if_neg c52] at H
               exact absurd H (by simp)
           ·rw [if_neg c35] at H
            exact absurd H (by simp)
          ·rw [if_neg c34] at H
           exact absurd H (by simp)
         ·rw [if_neg c33] at H
          exact absurd H (by simp)
        ·rw [if_neg c31] at H
         exact absurd H (by simp)
       ·rw [if_neg c30] at H
        exact absurd H (by simp)
      ·rw [if_neg c29] at H
       exact absurd H (by simp)
 ·rw [if_neg c8] at H
  have c8b0 : (t377 == 0) = false := beq_eq_false_iff_ne.mpr c8
  have c8b1 : (t377 != 0) = true := bne_iff_ne.mpr c8
  exact absurd H (by simp)
end Go.Proofs.Ytbnjdlafnejanaa.Pr
namespace Go.Proofs.Ytbnjdlafnejanaa.Pr
open Go.RowKit Go.Proofs.YtbnjdlafnejanaaW.PrintWords Go.Proofs.YtbnjdlafnejanaaW.PrintLast Go.Proofs.YtbnjdlafnejanaaW.PrintMore
/-- No job is late in the schedule that Make returns. -/
theorem lateX_plan {l : List S45} {l1 : List S47} (hJ : Sh.BJ (l.map toJ)) (hS : Sh.BS (l1.map toS)) :
    lateX l (fun x => Sh.endOf x ((planOf l l1).map toL)) = [] ↔ ∀ x ∈ l.map toJ, ¬ Sh.IsLate (Sh.runs (Sh.makeX (l.map toJ) (l1.map toS))) x := by
  have hM := Sh.made_makeX hJ.vj hS.vs
  have hO := (Sh.Sched.ord hJ.vj hS.vs _ (hM.sched hJ.vj hS.vs)).1
  rw [planOf_toL, lateX_nil]
  constructor
  · intro h x hx hh
    have h1 := Sh.late_iff ⟨(hJ.vj.pos x hx).1, (hJ.vj.pos x hx).2.2⟩ hO ((hM.ise.isV hJ.vj).most x hx)
    have h2 := h x hx
    have h3 := h1.2 hh
    omega
  · intro h x hx
    have h1 := Sh.late_iff ⟨(hJ.vj.pos x hx).1, (hJ.vj.pos x hx).2.2⟩ hO ((hM.ise.isV hJ.vj).most x hx)
    have h2 := h x hx
    rw [← h1] at h2
    omega
theorem BJ_sub {J K : List Sh.Job} (h : Sh.BJ J) (hs : K.Sublist J) : Sh.BJ K :=
  ⟨⟨fun x hx => h.vj.pos x (hs.mem hx), h.vj.nod.sublist hs⟩, fun x hx => h.bd x (hs.mem hx)⟩
theorem drop_sub (l : List S45) (i : Nat) : (l.take i ++ l.drop (i + 1)).Sublist l := by
  have h1 : (l.take i ++ l.drop (i + 1)).Sublist (l.take i ++ l.drop i) := by
    refine List.Sublist.append (List.Sublist.refl _) ?_
    rw [← List.drop_drop (i := 1) (j := i)]
    exact List.drop_sublist _ _
  rwa [List.take_append_drop] at h1
/-- The shifts and one more behind them. -/
theorem BS_more {S : List Sh.Shift} (h : Sh.BS S) {s : Sh.Shift} (h1 : 0 ≤ s.frm ∧ s.frm < s.to ∧ s.to ≤ 1051898399) (h2 : ∀ r ∈ S, r.to ≤ s.frm) : Sh.BS (S ++ [s]) := by
  refine ⟨⟨fun r hr => ?_, ?_⟩, fun r hr => ?_⟩
  · rcases List.mem_append.1 hr with hr | hr
    · exact h.vs.pos r hr
    · simp at hr; subst hr; exact ⟨h1.1, h1.2.1⟩
  · rw [List.pairwise_append]
    refine ⟨h.vs.ord, by simp, fun r hr q hq => ?_⟩
    simp at hq; subst hq
    exact h2 r hr
  · rcases List.mem_append.1 hr with hr | hr
    · exact h.bd r hr
    · simp at hr; subst hr; exact h1.2.2
/-- All shifts end ahead of the end of the last one. -/
theorem last_to {l : List S47} (h : Sh.VS (l.map toS)) (hn : 0 < l.length) : ∀ r ∈ l.map toS, r.to ≤ (l[l.length - 1]'(by omega)).f1 := by
  intro r hr
  obtain ⟨i, hi, rfl⟩ := List.getElem_of_mem hr
  have hil : i < l.length := by simpa using hi
  have hq := List.pairwise_iff_getElem.1 h.ord
  have hlast : l.length - 1 < (l.map toS).length := by simp; omega
  by_cases e : i = l.length - 1
  · subst e; simp [toS]
  · have h1 := hq i (l.length - 1) hi hlast (by omega)
    have h2 := (h.pos _ (List.getElem_mem hlast)).2
    simp only [List.getElem_map, toS] at h1 h2 ⊢
    omega
theorem more_j1 {l K : List S45} {l1 : List S47} (hJ : Sh.BJ (l.map toJ)) (hK : Sh.BJ (K.map toJ)) (hS : Sh.BS (l1.map toS)) (hl : l.length ≤ 8) (hKl : K.length ≤ 8) (hl1 : l1.length ≤ 8) (hb : ∀ s ∈ l1.map toS, s.to ≤ 256)
    (hsub : (K.map toJ).Sublist (l.map toJ)) (hall : ∀ x ∈ l.map toJ, ¬ Sh.IsLate (Sh.runs (Sh.makeX (l.map toJ) (l1.map toS))) x) (t m0 m1 : Int) (ht : 0 ≤ t ∧ t ≤ 1000) (hm : 0 ≤ m1 ∧ m1 ≤ 255) (hlast : ∀ r ∈ l1.map toS, r.to ≤ t) :
    Ev (fun k => letterbaglaw30_ShiftMore.j1 k l l1 (planOf l l1) 0 K (planOf K l1) t m0 m1) true := by
  have hS2 : Sh.BS (l1.map toS ++ [⟨t, t + 1 + m1⟩]) := BS_more hS (s := ⟨t, t + 1 + m1⟩) ⟨ht.1, by simp only; omega, by simp only; omega⟩ hlast
  have hmap : (l1 ++ [(⟨t, t + 1 + m1⟩ : S47)]).map toS = l1.map toS ++ [⟨t, t + 1 + m1⟩] := by rw [List.map_append]; rfl
  have hS3 : Sh.BS ((l1 ++ [(⟨t, t + 1 + m1⟩ : S47)]).map toS) := by rw [hmap]; exact hS2
  have eC : (Sh.makeX (l.map toJ) ((l1 ++ [(⟨t, t + 1 + m1⟩ : S47)]).map toS)).map ofL = planOf l l1 := by
    rw [hmap, ← ((Sh.made_makeX hJ.vj hS.vs).more hJ.vj hall hS2.vs).eq hJ.vj hS2.vs]
    rfl
  have hpl := plan_len hJ hS (hi := 256) (by decide) hb
  have hpk := plan_len hK hS (hi := 256) (by decide) hb
  have hEa := ends_sched hJ hS (by omega) (plan_sched hJ hS) (show (planOf l l1).length ≤ 1000000 by omega)
  have hEk := ends_sched hK hS (by omega) (plan_sched hK hS) (show (planOf K l1).length ≤ 1000000 by omega)
  have hlK := (lateX_plan hK hS).2 ((Sh.made_makeX hJ.vj hS.vs).fewer hJ.vj hS.vs hK.vj hsub (Sh.made_makeX hK.vj hS.vs) hall)
  have hlJ := (lateX_plan hJ hS).2 hall
  have b1 : -9223372036854775808 ≤ t + 1 ∧ t + 1 ≤ 9223372036854775807 := by omega
  have b2 : -9223372036854775808 ≤ t + 1 + m1 ∧ t + 1 + m1 ≤ 9223372036854775807 := by omega
  have b3 : -9223372036854775808 ≤ m1 ∧ m1 ≤ 9223372036854775807 := by omega
  have hlen : (l1 ++ [(⟨t, t + 1 + m1⟩ : S47)]).length ≤ 200 := by rw [List.length_append, List.length_singleton]; omega
  have hn0 : ([] : List S47).length + l1.length < 8796093022208 := by rw [List.length_nil]; omega
  have hn1 : l1.length + 1 < 8796093022208 := by omega
  have hl0 : l.length ≤ 200 := by omega
  have hl10 : l1.length ≤ 200 := by omega
  have hrow : (rowOf l fun x => Sh.endOf x ((planOf l l1).map toL)).length ≤ 1000000 := by rw [rowOf_len]; omega
  have w1 := w64 b1.1 b1.2
  have w2 := w64 b2.1 b2.2
  have w3 := w64 b3.1 b3.2
  have w0 : wrap64 ((0 : Int) + 0) = 0 := w64 (by decide) (by decide)
  refine Ev.step (fun k => letterbaglaw30_ShiftMore.j1.eq_2 _ _ _ _ _ _ _ _ _ k) ?_
  refine Ev.bind (Ev.now _) (ev_pos hn0 ?_)
  rw [w1, w3, w2]
  refine Ev.bind (Ev.now _) (Ev.bind (Ev.now _) (ev_pos hn1 ?_))
  refine Ev.bind (ev_val (make_f (l1 := l1 ++ [(⟨t, t + 1 + m1⟩ : S47)]) hJ hS3 hl0 hlen)) ?_
  refine Ev.bind (Ev.now _) (ev_pos hn0 ?_)
  refine Ev.bind (ev_val (make_f (l1 := l1) hJ hS hl0 hl10)) ?_
  rw [eC]
  refine ev_pos (by simp only [w0]) ?_
  refine Ev.bind (late_f hEk) (ev_pos (by rw [hlK]; rfl) ?_)
  refine Ev.bind (late_f hEa) (ev_pos (by rw [hlJ]; rfl) ?_)
  refine Ev.bind (sliced_f (a := planOf l l1) (by omega)) (ev_pos rfl ?_)
  refine Ev.bind (ev_val (ends_ok hEa)) (Ev.bind (ev_val (ends_ok hEa)) (Ev.bind (same_f hrow) (ev_pos rfl (Ev.bind awake_f (Ev.now _)))))
theorem more_j0 {l : List S45} {l1 : List S47} (hJ : Sh.BJ (l.map toJ)) (hS : Sh.BS (l1.map toS)) (hl : l.length ≤ 8) (hl1 : l1.length ≤ 8) (hb : ∀ s ∈ l1.map toS, s.to ≤ 256) (hn : 0 < l.length)
    (hall : ∀ x ∈ l.map toJ, ¬ Sh.IsLate (Sh.runs (Sh.makeX (l.map toJ) (l1.map toS))) x) (a m0 m1 : Int) (ha : 0 ≤ a ∧ a ≤ 255) (h0 : 0 ≤ m0 ∧ m0 ≤ 255) (hm : 0 ≤ m1 ∧ m1 ≤ 255) :
    Ev (fun k => letterbaglaw30_ShiftMore.j0 k a l l1 (planOf l l1) false m0 m1) true := by
  obtain ⟨i, hi⟩ : ∃ i : Nat, (i : Int) = a % (l.length : Int) := ⟨(a % (l.length : Int)).toNat, by have := Int.emod_nonneg a (show (l.length : Int) ≠ 0 by omega); omega⟩
  have hil : (i : Int) < (l.length : Int) := by rw [hi]; exact Int.emod_lt_of_pos _ (by omega)
  have b1 : -9223372036854775808 ≤ a ∧ a ≤ 9223372036854775807 := by omega
  have b2 : -9223372036854775808 ≤ m0 ∧ m0 ≤ 9223372036854775807 := by omega
  have wa := w64 b1.1 b1.2
  have htm : Int.tmod (wrap64 a) (l.length : Int) = (i : Int) := by rw [wa, Int.tmod_eq_emod_of_nonneg ha.1, hi]
  have wi : wrap64 ((i : Int) + 1) = ((i + 1 : Nat) : Int) := wsucc (n := l.length) (by clear htm wa; omega) (by clear htm wa; omega)
  have wm := w64 b2.1 b2.2
  have hsubl := drop_sub l i
  have hK : Sh.BJ ((l.take i ++ l.drop (i + 1)).map toJ) := BJ_sub hJ (hsubl.map toJ)
  have hKl : (l.take i ++ l.drop (i + 1)).length ≤ 8 := Nat.le_trans hsubl.length_le hl
  have hn0 : ([] : List S45).length + (l.take i).length < 4398046511104 := by clear htm wa wi wm; rw [List.length_nil, List.length_take]; omega
  have hn1 : (l.take i).length + (l.drop (i + 1)).length < 4398046511104 := by clear htm wa wi wm; rw [List.length_take, List.length_drop]; omega
  have hNi : ((i : Int)).toNat = i := by clear htm wa wi wm; omega
  have hNi1 : (((i + 1 : Nat) : Int)).toNat = i + 1 := by clear htm wa wi wm; omega
  have hi0 : (0 : Int) ≤ (i : Int) := by clear htm wa wi wm; omega
  have hi1 : (0 : Int) ≤ ((i + 1 : Nat) : Int) := by clear htm wa wi wm; omega
  have hile : (i : Int) ≤ (l.length : Int) := by clear htm wa wi wm; omega
  have hile1 : ((i + 1 : Nat) : Int) ≤ (l.length : Int) := by clear htm wa wi wm; omega
  have hne : ¬ (l.length : Int) = 0 := by clear htm wa wi wm; omega
  have hK2 : (l.take i ++ l.drop (i + 1)).length ≤ 200 := Nat.le_trans hKl (by decide)
  refine Ev.step (fun k => letterbaglaw30_ShiftMore.j0.eq_2 _ _ _ _ _ _ _ k) ?_
  refine ev_neg Bool.false_ne_true (ev_neg hne ?_)
  rw [htm, wi, hNi, hNi1, wm]
  refine Ev.bind (Ev.now _) (ev_pos hi0 (ev_pos hile ?_))
  refine Ev.bind (Ev.now _) (ev_pos hn0 (Ev.bind (Ev.now _) (ev_pos hi1 (ev_pos hile1 (Ev.bind (Ev.now _) (ev_pos hn1 (Ev.bind (Ev.now _) ?_)))))))
  refine Ev.bind (ev_val (make_f (l0 := l.take i ++ l.drop (i + 1)) hK hS hK2 (Nat.le_trans hl1 (by decide)))) ?_
  clear htm wa wi wm
  by_cases hs : (l1.length : Int) > 0
  · have hlp : 0 < l1.length := by omega
    have b3 : -9223372036854775808 ≤ (l1.length : Int) - 1 ∧ (l1.length : Int) - 1 ≤ 9223372036854775807 := by omega
    have hc : l1.length - 1 < l1.length := by omega
    have hlt := last_to hS.vs hlp
    have hm1 : toS l1[l1.length - 1] ∈ l1.map toS := List.mem_map.2 ⟨_, List.getElem_mem hc, rfl⟩
    have h3 := hb _ hm1
    have h4 := hS.vs.pos _ hm1
    simp only [toS] at h3 h4
    have hidx : (l1.length : Int) - 1 = ((l1.length - 1 : Nat) : Int) := by omega
    have b4 : -9223372036854775808 ≤ m0 + l1[l1.length - 1].f1 ∧ m0 + l1[l1.length - 1].f1 ≤ 9223372036854775807 := by omega
    have q1 : (0 : Int) ≤ ((l1.length - 1 : Nat) : Int) := by omega
    have q2 : ((l1.length - 1 : Nat) : Int) < (l1.length : Int) := by omega
    have key := more_j1 hJ hK hS hl hKl hl1 hb (hsubl.map toJ) hall (m0 + l1[l1.length - 1].f1) m0 m1 (by omega) hm (fun r hr => by have := hlt r hr; omega)
    refine ev_pos hs ?_
    rw [w64 b3.1 b3.2, hidx, rd47_get hc, w64 b4.1 b4.2]
    exact ev_pos q1 (ev_pos q2 key)
  · refine ev_neg hs ?_
    have e : l1 = [] := List.length_eq_zero_iff.1 (by omega)
    subst e
    exact more_j1 hJ hK hS hl hKl hl1 hb (hsubl.map toJ) hall m0 m0 m1 (by omega) hm (fun r hr => by simp at hr)
theorem more_all (l0 : List S61) (l1 : List S55) (a2 m0 m1 : Int) (h0 : ∀ x ∈ l0, b61 x) (h1 : ∀ x ∈ l1, b55 x) (h2 : 0 ≤ a2 ∧ a2 ≤ 255) (h3 : 0 ≤ m0 ∧ m0 ≤ 255) (h4 : 0 ≤ m1 ∧ m1 ≤ 255) : Ev (fun k => letterbaglaw30_ShiftMore.f k l0 l1 a2 m0 m1) true := by
  have hJ := workX_BJ h0
  have hS := hoursX_BS h1
  have hl := workX_len l0
  have hl1 := hoursX_len l1
  have hb : ∀ s ∈ (hoursX l1).map toS, s.to ≤ 256 := fun s hs => (hoursX_bd h1 s hs).2.2.2
  have hpl := plan_len hJ hS (hi := 256) (by decide) hb
  have hEa := ends_sched hJ hS (by omega) (plan_sched hJ hS) (show (planOf (workX l0) (hoursX l1)).length ≤ 1000000 by omega)
  have hlp := lateX_plan hJ hS
  unfold letterbaglaw30_ShiftMore.f
  refine Ev.bind (work_f h0) (Ev.bind (hours_f h1) (Ev.bind (ev_val (make_f hJ hS (by omega) (by omega))) (ev_pos rfl (Ev.bind (late_f hEa) ?_))))
  by_cases hc : (((lateX (workX l0) fun x => Sh.endOf x ((planOf (workX l0) (hoursX l1)).map toL)).length : Int)) > 0
  · refine ev_pos hc (Ev.step (fun k => letterbaglaw30_ShiftMore.j0.eq_2 _ _ _ _ _ _ _ k) ?_)
    exact ev_pos rfl (Ev.bind awake_f (Ev.now _))
  · refine ev_neg hc ?_
    have hnil : (lateX (workX l0) fun x => Sh.endOf x ((planOf (workX l0) (hoursX l1)).map toL)) = [] := List.length_eq_zero_iff.1 (by omega)
    by_cases hz : ((workX l0).length : Int) = 0
    · have e : (((workX l0).length : Int) == 0) = true := by simpa using hz
      rw [e]
      refine Ev.step (fun k => letterbaglaw30_ShiftMore.j0.eq_2 _ _ _ _ _ _ _ k) ?_
      exact ev_pos rfl (Ev.bind awake_f (Ev.now _))
    · have e : (((workX l0).length : Int) == 0) = false := by simpa using hz
      rw [e]
      exact more_j0 hJ hS hl hl1 hb (by omega) (hlp.1 hnil) a2 m0 m1 h2 h3 h4
end Go.Proofs.Ytbnjdlafnejanaa.Pr
namespace Go.Proofs.Ytbnjdlafnejanaa.shiftMore
open Go.ChangeShapes Go.WideShapes Go.ChangeAt Go.RowKit
set_option linter.unusedVariables false
theorem own : ownKnob Try.prog.godebug = none := by kernel_rfl
theorem laidOut : laidOutB Try.prog = true := by kernel_rfl
set_option maxRecDepth 100000 in
theorem lifted (os : Os) (started : os.Started) (H : Type) (enc : TypeId × Value → H) :
    ReturnsInHanded {} Try.checked os 7 .any (Rows.shiftMoreSpec.pre6 enc Try.prog Try.f7 Rows.shiftMoreRow.domain false) (Rows.shiftMoreSpec.post enc Try.prog Try.f7 false true false false) := by
  refine returnsInHanded_of_change_sized (C := Try.checked) own started (by kernel_rfl) Try.func7
    (ChangeSpec.witness6 (enc := enc) (C := Try.checked) false ⟨#[], #[.slice none 0 0, .slice none 0 0, .int .u8 0, .agg #[.int .u8 0, .int .u8 0]], []⟩ 8 (by kernel_rfl) (by kernel_rfl) (by kernel_rfl) (by kernel_rfl)) ?_
  intro W base args ds gs before hval0 hW hcnd hsz0 _
  have hval : ∀ (j : Nat) t v, Try.f7.params[j]? = some t → args[j]? = some v → Value.okWide Try.prog W .any base t v := hval0
  have hW' := hW
  obtain ⟨p, q, hA0, hV, rfl, hfz, hnd⟩ := hW
  have hA : DataW.TrodAll enc Try.prog W 0 (fun _ => true) true Try.f7.params.toList args.toList ds p := hA0
  rw [Try.params7] at hA hval
  obtain ⟨v0, vs0, d0, ds0, p0, q0, hargs, rfl, rfl, h0, r0⟩ := trodAll_cons hA
  obtain ⟨v1, vs1, d1, ds1, p1, q1, rfl, rfl, rfl, h1, r1⟩ := trodAll_cons r0
  obtain ⟨v2, vs2, d2, ds2, p2, q2, rfl, rfl, rfl, h2, r2⟩ := trodAll_cons r1
  obtain ⟨v3, vs3, d3, ds3, p3, q3, rfl, rfl, rfl, h3, r3⟩ := trodAll_cons r2
  obtain ⟨rfl, rfl, rfl⟩ := trodAll_nil r3
  obtain rfl : args = #[v0, v1, v2, v3] := by cases args; simp_all
  obtain ⟨rfl, rfl⟩ := trodVars_none hV
  obtain ⟨a0, len0, cap0, rfl⟩ := okWide_slice Try.underlying22 (hval 0 22 v0 rfl rfl)
  have k0 := h0
  have lt0 : ∀ x ∈ p0, x.block < W.heap.size := by obtain ⟨m, hm⟩ := k0; exact DataW.trod_lt m _ _ _ hm
  obtain ⟨l0, e0, c0, hr0, hb0⟩ := Pr.open61 h0
  subst e0
  obtain ⟨a1, len1, cap1, rfl⟩ := okWide_slice Try.underlying23 (hval 1 23 v1 rfl rfl)
  have k1 := h1
  have lt1 : ∀ x ∈ p1, x.block < W.heap.size := by obtain ⟨m, hm⟩ := k1; exact DataW.trod_lt m _ _ _ hm
  obtain ⟨l1, e1, c1, hr1, hb1⟩ := Pr.open55 h1
  subst e1
  obtain ⟨a2, rfl, rfl, rfl, w2⟩ := open_int Try.underlying5 (hval 2 5 v2 rfl rfl) h2
  obtain ⟨x3, y3, rfl, rfl, rfl, wx3, wy3⟩ := Pr.open_gap (hval 3 55 v3 rfl rfl) h3
  clear hA0 hval0 hsz0
  obtain ⟨k, hk⟩ := (Pr.more_all l0 l1 a2 x3 y3 hb0 hb1 (Pr.u8_bd w2) (Pr.u8_bd wx3) (Pr.u8_bd wy3)).rounds
  refine (Pr.letterbaglaw30_ShiftMore.calls k a0 cap0 l0 a1 cap1 l1 a2 x3 y3 W hr0 c0 hr1 c1   hk).mono fun e W' ⟨he, bel⟩ => ?_
  subst he
  exact ⟨_, rfl, _, _, _, [], _, [], hW', trodAll_mk1 (shut_bool Try.underlying4 _), (trodAll_cons_mk (Below.trod laidOut (by kernel_rfl) (of_decide_eq_true (by kernel_rfl)) k0 bel lt0) (trodAll_cons_mk (Below.trod laidOut (by kernel_rfl) (of_decide_eq_true (by kernel_rfl)) k1 bel lt1) (trodAll_cons_mk (shut_int Try.underlying5 w2) (trodAll_cons_mk (Pr.shut_gap wx3 wy3) trodAll_mk0)))), rfl, bel.frame _, fun h => by cases h⟩
theorem over : Rows.shiftMoreRow.holds Try.pinned (OpenSpec.ofChange Rows.shiftMoreSpec) :=
  OpenClaim.holds_of_wide 7 Try.f7 rfl rfl rfl rfl rfl rfl rfl ⟨rfl, rfl, rfl, rfl, rfl⟩ rfl rfl rfl rfl rfl (by kernel_rfl) Try.func7 (by kernel_rfl)
    (of_decide_eq_true (by kernel_rfl)) (by unfold Func.isWrapper; first | (rw [if_pos (by decide +kernel)]; kernel_rfl) | (rw [if_neg (by decide +kernel)]; exact ⟨rfl, rfl⟩))
    (fun os started H enc _ => lifted os started H enc)
theorem proved : Rows.ShiftMoreSaid := over
end Go.Proofs.Ytbnjdlafnejanaa.shiftMore
namespace Go.Proofs.Ytbnjdlafnejanaa
/-- The row, under a short name, for the claim. -/
theorem shiftMore_holds : Rows.ShiftMoreSaid := shiftMore.proved
end Go.Proofs.Ytbnjdlafnejanaa
