/- ShiftOptimal: the law returns true at every input that its statement lets in; there is no condition of this session's. (Joined by a program of this session, pack2.py: printed walks, the plain law, the row.) -/
import Derived.Test.YtbnjdlafnejanaaBa
import Derived.Test.YtbnjdlafnejanaaBb
import Derived.Test.YtbnjdlafnejanaaBc
import Derived.Test.YtbnjdlafnejanaaBd
import Derived.Test.YtbnjdlafnejanaaBe
import Derived.Test.YtbnjdlafnejanaaBf
import Derived.Test.YtbnjdlafnejanaaBg
import Derived.Test.YtbnjdlafnejanaaBh
import Derived.Deep.Slices
import Derived.Deep.Fields
import Derived.ChangeSame
import Derived.DataShut
import Derived.WalkKit
import Derived.ProofKit
import Derived.OpenShut
import Derived.Test.YtbnjdlafnejanaaRows
import Derived.ShutString
import Derived.ChangeOld
import Derived.Below
import Derived.SizedLaws
import Derived.Lib.SmallJoins
set_option linter.unusedVariables false
set_option linter.unusedSimpArgs false
namespace Go.Proofs.Ytbnjdlafnejanaa.Sh
/-- Earliest due date is as good as any valid schedule. -/
theorem IsE.optimal {J : List Job} {S : List Shift} (hJ : VJ J) (hS : VS S) {f g : Int → Int} (hf : IsE J S f) (hg : IsV J S g) {L : Int}
    (h : ∀ y ∈ J, y.min ≤ cnt (isId g y.id) 0 (y.due + L)) : ∀ x ∈ J, x.min ≤ cnt (isId f x.id) 0 (x.due + L) := by
  intro x hx
  refine Classical.byContradiction fun hc => ?_
  obtain ⟨a, ha, _, hlt⟩ := hf.short hJ hS hx (b := x.due + L) (by omega)
  have := hg.fits hJ (inside_nod hJ.nod a x.due) (a := a) (b := x.due + L) ha (fun y hy => by
    obtain ⟨h1, h2, h3⟩ := mem_inside.1 hy
    have k1 := h y h1
    have k2 := cnt_mono_right (isId g y.id) (a := 0) (b := y.due + L) (c := x.due + L) (by omega)
    exact ⟨h1, h2, by omega⟩)
  unfold need at hlt
  omega
end Go.Proofs.Ytbnjdlafnejanaa.Sh
namespace Go.Proofs.Ytbnjdlafnejanaa.Pr
open Go.ChangeShapes Go.WideShapes Go.Deep
open Go.RowKit Go.Proofs.YtbnjdlafnejanaaW.PrintWords Go.Proofs.YtbnjdlafnejanaaW.PrintLast Go.Proofs.YtbnjdlafnejanaaW.PrintMore
section
end
section
variable {H : Type} {enc : TypeId × Value → H} {w : World} {held : Bool} {a : Option Addr} {len cap : Nat} {d : DataW H} {p : List MemPlace}
theorem open_u8s (h : DataW.Trod enc Try.prog w 0 (fun _ => true) held 24 (.slice a len cap) d p) : ∃ l : List Int, l.length = len ∧ len ≤ cap ∧ Kd.C (Kd.int .u8) w a len l ∧ ∀ x ∈ l, 0 ≤ x ∧ x ≤ 255 := by
  obtain ⟨fuel, hf⟩ := h
  rcases open_ints Try.underlying24 Try.underlying5 (by kernel_rfl) hf with ⟨hcs, _⟩ | ⟨x, l, c, zs, hcs, _, hl, hm, hz, _, hcell, hwz⟩
  · simp [Value.cells] at hcs
    obtain ⟨rfl, rfl, rfl⟩ := hcs
    exact ⟨[], rfl, Nat.le_refl _, ⟨rfl, by decide, fun h => absurd h (by decide)⟩, by simp⟩
  · simp [Value.cells] at hcs
    obtain ⟨rfl, rfl, rfl⟩ := hcs
    have hz' : zs.length = cap := by simpa using hz
    have hlen : (zs.take len).length = len := by rw [List.length_take]; omega
    refine ⟨zs.take len, hlen, hl, ⟨hlen, by have := maxLen_le; omega, fun _ => ⟨x, rfl, fun j q hj => ?_⟩⟩, fun y hy => u8_bd (hwz y (List.mem_of_mem_take hy))⟩
    obtain ⟨hjl, rfl⟩ := List.getElem?_eq_some_iff.1 hj
    have hjz : j < zs.length := by omega
    refine ⟨[.int .u8 (zs.take len)[j]], rfl, rfl, fun i u hu => ?_⟩
    match i, hu with
    | 0, hu =>
      injection hu with hu
      subst hu
      have := hcell j hjz
      rw [List.getD_eq_getElem?_getD, List.getElem?_eq_getElem hjz] at this
      have e : j * (Kd.int .u8).sz + 0 = j := by
        show j * 1 + 0 = j
        omega
      rw [e]
      simpa using this
end
end Go.Proofs.Ytbnjdlafnejanaa.Pr
namespace Go.Proofs.Ytbnjdlafnejanaa.Pr
open Go.RowKit Go.Proofs.YtbnjdlafnejanaaW.PrintWords Go.Proofs.YtbnjdlafnejanaaW.PrintLast Go.Proofs.YtbnjdlafnejanaaW.PrintMore
attribute [local go_sem] max2_int min2_int max_two min_two max_three min_three max_four min_four   -- for this text's walks alone
set_option linter.unusedVariables false
set_option linter.unusedSimpArgs false
def letterbaglaw30_worst.l0 : Nat → List (S45) → Int → List Int → Int → Int → Option (Int × Bool)
 | 0, _, _, _, _, _ => none
 | k + 1, x0, x6, x18, x19, x20 => if x20 < x19 then (if 0 ≤ x20 then (if x20 < (x18.length : Int) then (if (rd x18 x20) < 0 then (some (0, false)) else (if x20 < (x0.length : Int) then (letterbaglaw30_worst.l0 k x0 (mx x6 (wrap64 ((rd x18 x20) - ((rd_T45 x0 x20).f2)))) x18 x19 (wrap64 (x20 + 1))) else (none))) else (none)) else (none)) else (some (x6, true))
def letterbaglaw30_worst.f (k : Nat) (l0 : List (S45)) (l1 : List (S51)) : Option (Int × Bool) := (shift_Ends.f l0 l1).bind fun t158 => (if (t158.length : Int) = (l0.length : Int) then (letterbaglaw30_worst.l0 k l0 (-1051898399) t158 (t158.length : Int) 0) else (some (0, false)))
set_option maxHeartbeats 8000000 in
set_option maxRecDepth 100000 in
theorem letterbaglaw30_worst.calls (k : Nat) (A0 : Option Addr) (c0 : Nat) (l0 : List (S45)) (A1 : Option Addr) (c1 : Nat) (l1 : List (S51)) (r1 : Int) (r2 : Bool) (w : World) (hr0 : Kd.C k45 w A0 l0.length l0) (hc0 : l0.length ≤ c0) (hr1 : Kd.C k51 w A1 l1.length l1) (hc1 : l1.length ≤ c1) (h : letterbaglaw30_worst.f k l0 l1 = some (r1, r2)) :
  Calls Try.prog 16 #[.slice A0 l0.length c0, .slice A1 l1.length c1] w fun e w' => e = .returned (.tuple #[.int .i64 r1, .bool r2]) ∧ Below w.heap.size w w' := by
 have HR0 := Aside0.mk hr0
 have HC0 := Aside0.mk hc0
 clear hr0 hc0
 have HR1 := Aside0.mk hr1
 have HC1 := Aside0.mk hc1
 clear hr1 hc1
 have HB := Aside0.mk (Below.refl w.heap.size w)
 have H : ((shift_Ends.f l0 l1).bind fun t158 => (if (t158.length : Int) = (l0.length : Int) then (letterbaglaw30_worst.l0 k l0 (-1051898399) t158 (t158.length : Int) 0) else (some (0, false)))) = some (r1, r2) := h
 clear h
 replace H := Option.bind_eq_some_iff.mp H
 obtain ⟨t158, A30, H⟩ := H
 replace H : (if (t158.length : Int) = (l0.length : Int) then (letterbaglaw30_worst.l0 k l0 (-1051898399) t158 (t158.length : Int) 0) else (some (0, false))) = some (r1, r2) := H
 have A3 := Aside0.mk A30
 clear A30
 by_cases c4 : (t158.length : Int) = (l0.length : Int)
 ·rw [if_pos c4] at H
  have c4b0 : ((t158.length : Int) == (l0.length : Int)) = true := beq_iff_eq.mpr c4
  have c4b1 : ((t158.length : Int) != (l0.length : Int)) = false := bne_eq_false_iff_eq.mpr c4
  have c4b2 : (t158.length == l0.length) = true := by (simp at c4 ⊢; omega)
  clear c4
  have H' := Aside0.mk H
  clear H
  go_enter Try.func16, Try.ntmps16
  go_wp2_with (((with_reducible refine gate_callee (f := 22) rfl ?_); refine goesL_ (some 12) rfl rfl Try.func22 (by kernel_rfl) rfl #[.slice A0 l0.length c0, .slice A1 l1.length c1] rfl (by (try simp only [List.map_toArray, List.map_cons, List.map_nil]); rfl) ?_; (with_reducible refine (shift_Ends.calls _ _ l0 _ _ l1 t158 _ ?side1 ?side2 ?side3 ?side4 A3.out).mono ?_); (case side1 => repeat (exact HR0.out)); (case side2 => exact HC0.out); (case side3 => repeat (exact HR1.out)); (case side4 => exact HC1.out); rintro e w5 ⟨v159, rfl, ho0, hb⟩; refine ⟨_, rfl, ?_⟩; have n0_ := Aside0.mk (Kd.R_lower ho0 (below_size (by repeat ((with_reducible exact HB.out))))); have n1_ := Aside0.mk (below_step (by repeat ((with_reducible exact HB.out))) hb); clear HB; have HO160 := n0_; have HB := n1_; clear n0_ n1_; (try clear hb); (try clear hb2); (try clear hk); (try clear hi); (try clear ho0); obtain ⟨Ao6, co6, eo6⟩ := Kd.R_slice HO160.out; subst eo6))
  go_loopg [6, 20] k (fun kq v6 v20 w' => ∃ (x6_1 : Int) (x20_1 : Int), v6 = .int .i64 x6_1 ∧ v20 = .int .i64 x20_1 ∧ Aside0 (letterbaglaw30_worst.l0 kq l0 x6_1 t158 (t158.length : Int) x20_1 = some (r1, r2)) ∧ Aside0 (kq ≤ k) ∧ Aside0 (Kd.R (Kd.int .i64) 3 w' w.heap.size (fun _ => True) (.slice Ao6 t158.length co6) t158) ∧ Aside0 (Below w.heap.size w w'))
  case atStart => exact ⟨((-1051898399)), (0), (by rfl), (by rfl), H', ⟨Nat.le_refl _⟩, ⟨by (with_reducible repeat (fail)); exact HO160.out⟩, ⟨by repeat ((with_reducible exact HB.out))⟩⟩
  case round =>
   clear H'
   try clear c1
   try clear c2
   try clear p2
   try clear c4
   try clear c4b0
   try clear c4b1
   try clear c4b2
   obtain ⟨x6_1, x20_1, rfl, rfl, HA, HK1, HO_18, HB⟩ := hrel
   cases gk with
   | zero => exact absurd HA.out (by simp [letterbaglaw30_worst.l0])
   | succ k1 =>
    have H := HA.out
    clear HA
    simp only [letterbaglaw30_worst.l0] at H
    by_cases c7 : x20_1 < (t158.length : Int)
    ·rw [if_pos c7] at H
     have c7b0 : decide (x20_1 < (t158.length : Int)) = true := decide_eq_true c7
     clear c7
     by_cases c8 : 0 ≤ x20_1
     ·rw [if_pos c8] at H
      have c8b0 : decide (0 ≤ x20_1) = true := decide_eq_true c8
      clear c8
      by_cases c9 : x20_1 < (t158.length : Int)
      ·rw [if_pos c9] at H
       have c9b0 : decide (x20_1 < (t158.length : Int)) = true := decide_eq_true c9
       clear c9
       by_cases c10 : (rd t158 x20_1) < 0
       ·rw [if_pos c10] at H
        have c10b0 : decide ((rd t158 x20_1) < 0) = true := decide_eq_true c10
        clear c10
        simp only [Option.some.injEq, Prod.mk.injEq] at H
        obtain ⟨rfl, rfl⟩ := H
        have p161 : 0 ≤ (x20_1 : Int) := of_decide_eq_true (by (with_reducible assumption))
        have q161 : x20_1 < (t158.length : Int) := of_decide_eq_true (by (with_reducible assumption))
        obtain ⟨ad161, e161, hx161_0⟩ := Kd.at_int (Kd.R_reads' HO_18.out).2.2 x20_1 p161 q161
        cases e161
        replace p161 := eq_true p161
        replace q161 := eq_true q161
        go_wp2
        go_ret2
        exact ⟨by rfl, by repeat ((with_reducible exact HB.out))⟩
       ·rw [if_neg c10] at H
        have c10b0 : decide ((rd t158 x20_1) < 0) = false := decide_eq_false c10
        clear c10
        by_cases c11 : x20_1 < (l0.length : Int)
        ·rw [if_pos c11] at H
         have c11b0 : decide (x20_1 < (l0.length : Int)) = true := decide_eq_true c11
         clear c11
         obtain ⟨ji12, hji12⟩ : ∃ j_ : Int, (mx x6_1 (wrap64 ((rd t158 x20_1) - ((rd_T45 l0 x20_1).f2)))) = j_ := ⟨_, rfl⟩
         replace H : (letterbaglaw30_worst.l0 k1 l0 ji12 t158 (t158.length : Int) (wrap64 (x20_1 + 1))) = some (r1, r2) := by (rw [hji12] at H; exact H)
         have hji12_ : (if x6_1 < (wrap64 ((rd t158 x20_1) - ((rd_T45 l0 x20_1).f2))) then (wrap64 ((rd t158 x20_1) - ((rd_T45 l0 x20_1).f2))) else x6_1) = ji12 := hji12
         have H' := Aside0.mk H
         clear H
         have p161 : 0 ≤ (x20_1 : Int) := of_decide_eq_true (by (with_reducible assumption))
         have q161 : x20_1 < (t158.length : Int) := of_decide_eq_true (by (with_reducible assumption))
         obtain ⟨ad161, e161, hx161_0⟩ := Kd.at_int (Kd.R_reads' HO_18.out).2.2 x20_1 p161 q161
         cases e161
         replace p161 := eq_true p161
         replace q161 := eq_true q161
         have p162 : 0 ≤ (x20_1 : Int) := of_decide_eq_true (by (with_reducible assumption))
         have q162 : x20_1 < (l0.length : Int) := of_decide_eq_true (by (with_reducible assumption))
         obtain ⟨ad162, e162, hx162_0, hx162_1, hx162_2, hx162_3⟩ := at_T45 HR0.out x20_1 p162 q162
         cases e162
         replace hx162_0 := (HB.out.cell (World.block_lt_of_cell? w _ hx162_0)).trans hx162_0
         replace hx162_1 := (HB.out.cell (World.block_lt_of_cell? w _ hx162_1)).trans hx162_1
         replace hx162_2 := (HB.out.cell (World.block_lt_of_cell? w _ hx162_2)).trans hx162_2
         replace hx162_3 := (HB.out.cell (World.block_lt_of_cell? w _ hx162_3)).trans hx162_3
         replace p162 := eq_true p162
         replace q162 := eq_true q162
         go_wp2
         go_roundg k1
         case measure => have := HK1.out; omega
         case rel => exact ⟨(ji12), (wrap64 (x20_1 + 1)), (by rfl), (by rfl), H', ⟨by have := HK1.out; omega⟩, ⟨by (with_reducible repeat (fail)); exact HO_18.out⟩, ⟨by repeat ((with_reducible exact HB.out))⟩⟩
        ·rw [if_neg c11] at H
         exact absurd H (by simp)
      ·rw [if_neg c9] at H
       exact absurd H (by simp)
     ·rw [if_neg c8] at H
      exact absurd H (by simp)
    ·rw [if_neg c7] at H
     have c7b0 : decide (x20_1 < (t158.length : Int)) = false := decide_eq_false c7
     clear c7
     simp only [Option.some.injEq, Prod.mk.injEq] at H
     obtain ⟨rfl, rfl⟩ := H
     go_wp2
     go_ret2
     exact ⟨by rfl, by repeat ((with_reducible exact HB.out))⟩
 ·rw [if_neg c4] at H
  have c4b0 : ((t158.length : Int) == (l0.length : Int)) = false := beq_eq_false_iff_ne.mpr c4
  have c4b1 : ((t158.length : Int) != (l0.length : Int)) = true := bne_iff_ne.mpr c4
  have c4b2 : (t158.length == l0.length) = false := by (simp at c4 ⊢; omega)
  simp only [Option.some.injEq, Prod.mk.injEq] at H
  obtain ⟨rfl, rfl⟩ := H
  go_enter Try.func16, Try.ntmps16
  go_wp2_with (((with_reducible refine gate_callee (f := 22) rfl ?_); refine goesL_ (some 12) rfl rfl Try.func22 (by kernel_rfl) rfl #[.slice A0 l0.length c0, .slice A1 l1.length c1] rfl (by (try simp only [List.map_toArray, List.map_cons, List.map_nil]); rfl) ?_; (with_reducible refine (shift_Ends.calls _ _ l0 _ _ l1 t158 _ ?side1 ?side2 ?side3 ?side4 A3.out).mono ?_); (case side1 => repeat (exact HR0.out)); (case side2 => exact HC0.out); (case side3 => repeat (exact HR1.out)); (case side4 => exact HC1.out); rintro e w13 ⟨v159, rfl, ho0, hb⟩; refine ⟨_, rfl, ?_⟩; have n0_ := Aside0.mk (Kd.R_lower ho0 (below_size (by repeat ((with_reducible exact HB.out))))); have n1_ := Aside0.mk (below_step (by repeat ((with_reducible exact HB.out))) hb); clear HB; have HO160 := n0_; have HB := n1_; clear n0_ n1_; (try clear hb); (try clear hb2); (try clear hk); (try clear hi); (try clear ho0); obtain ⟨Ao14, co14, eo14⟩ := Kd.R_slice HO160.out; subst eo14))
  go_ret2
  exact ⟨by rfl, by repeat ((with_reducible exact HB.out))⟩
end Go.Proofs.Ytbnjdlafnejanaa.Pr
namespace Go.Proofs.Ytbnjdlafnejanaa.Pr
open Go.RowKit Go.Proofs.YtbnjdlafnejanaaW.PrintWords Go.Proofs.YtbnjdlafnejanaaW.PrintLast Go.Proofs.YtbnjdlafnejanaaW.PrintMore
attribute [local go_sem] max2_int min2_int max_two min_two max_three min_three max_four min_four   -- for this text's walks alone
set_option linter.unusedVariables false
set_option linter.unusedSimpArgs false
mutual
def letterbaglaw30_other.l0 : Nat → List (S45) → List (S47) → List Int → List Int → List (S45) → Int → Int → Option ((List (S51)))
 | 0, _, _, _, _, _, _, _ => none
 | k + 1, x0, x1, x2, x8, x22, x23, x24 => if x24 < x23 then (if 0 ≤ x24 then (if x24 < (x22.length : Int) then (if x24 < (x8.length : Int) then (letterbaglaw30_other.l0 k x0 x1 x2 (x8.set (x24 : Int).toNat ((rd_T45 x22 x24).f3)) x22 x23 (wrap64 (x24 + 1))) else (none)) else (none)) else (none)) else (letterbaglaw30_other.l1 k x0 x2 ([] : List (S51)) x8 0 x1 (x1.length : Int) 0)
def letterbaglaw30_other.l1 : Nat → List (S45) → List Int → List (S51) → List Int → Int → List (S47) → Int → Int → Option ((List (S51)))
 | 0, _, _, _, _, _, _, _, _ => none
 | k + 1, x0, x2, x7, x8, x11, x35, x36, x37 => if x37 < x36 then (if 0 ≤ x37 then (if x37 < (x35.length : Int) then (letterbaglaw30_other.l2 k x0 x2 x7 x8 x11 ((rd_T47 x35 x37).f0) x35 x36 x37 ((rd_T47 x35 x37).f0) ((rd_T47 x35 x37).f1)) else (none)) else (none)) else (some x7)
def letterbaglaw30_other.l2 : Nat → List (S45) → List Int → List (S51) → List Int → Int → Int → List (S47) → Int → Int → Int → Int → Option ((List (S51)))
 | 0, _, _, _, _, _, _, _, _, _, _, _ => none
 | k + 1, x0, x2, x7, x8, x11, x14, x35, x36, x37, x122000, x122001 => if x14 < x122001 then (letterbaglaw30_other.l3 k x0 x2 x7 x8 x11 x14 ([] : List Int) x35 x36 x37 x0 (x0.length : Int) 0 x122000 x122001) else (letterbaglaw30_other.l1 k x0 x2 x7 x8 x11 x35 x36 (wrap64 (x37 + 1)))
def letterbaglaw30_other.l3 : Nat → List (S45) → List Int → List (S51) → List Int → Int → Int → List Int → List (S47) → Int → Int → List (S45) → Int → Int → Int → Int → Option ((List (S51)))
 | 0, _, _, _, _, _, _, _, _, _, _, _, _, _, _, _ => none
 | k + 1, x0, x2, x7, x8, x11, x14, x15, x35, x36, x37, x49, x50, x51, x122000, x122001 => if x51 < x50 then (if 0 ≤ x51 then (if x51 < (x49.length : Int) then (if ((rd_T45 x49 x51).f1) ≤ x14 then (if x51 < (x8.length : Int) then (if (rd x8 x51) > 0 then (if x15.length < 17592186044416 then (letterbaglaw30_other.l3 k x0 x2 x7 x8 x11 x14 (x15 ++ [x51]) x35 x36 x37 x49 x50 (wrap64 (x51 + 1)) x122000 x122001) else (none)) else (letterbaglaw30_other.l3 k x0 x2 x7 x8 x11 x14 x15 x35 x36 x37 x49 x50 (wrap64 (x51 + 1)) x122000 x122001)) else (none)) else (letterbaglaw30_other.l3 k x0 x2 x7 x8 x11 x14 x15 x35 x36 x37 x49 x50 (wrap64 (x51 + 1)) x122000 x122001)) else (none)) else (none)) else (if x11 < (x2.length : Int) then (if 0 ≤ x11 then (if (wrap64 ((x15.length : Int) + 1)) = 0 then (none) else (if (Int.tmod (wrap64 (rd x2 x11)) (wrap64 ((x15.length : Int) + 1))) = (x15.length : Int) then (letterbaglaw30_other.l2 k x0 x2 x7 x8 (wrap64 (x11 + 1)) (wrap64 (x14 + 1)) x35 x36 x37 x122000 x122001) else (if 0 ≤ (Int.tmod (wrap64 (rd x2 x11)) (wrap64 ((x15.length : Int) + 1))) then (if (Int.tmod (wrap64 (rd x2 x11)) (wrap64 ((x15.length : Int) + 1))) < (x15.length : Int) then (if 0 ≤ (rd x15 (Int.tmod (wrap64 (rd x2 x11)) (wrap64 ((x15.length : Int) + 1)))) then (if (rd x15 (Int.tmod (wrap64 (rd x2 x11)) (wrap64 ((x15.length : Int) + 1)))) < (x8.length : Int) then (if (rd x15 (Int.tmod (wrap64 (rd x2 x11)) (wrap64 ((x15.length : Int) + 1)))) < (x0.length : Int) then (if x7.length < 5864062014805 then (letterbaglaw30_other.l2 k x0 x2 (x7 ++ [(⟨(rd_T45 x0 (rd x15 (Int.tmod (wrap64 (rd x2 x11)) (wrap64 ((x15.length : Int) + 1))))).f0, x14, wrap64 (x14 + 1)⟩ : S51)]) (x8.set ((rd x15 (Int.tmod (wrap64 (rd x2 x11)) (wrap64 ((x15.length : Int) + 1)))) : Int).toNat (wrap64 ((rd x8 (rd x15 (Int.tmod (wrap64 (rd x2 x11)) (wrap64 ((x15.length : Int) + 1))))) - 1))) (wrap64 (x11 + 1)) (wrap64 (x14 + 1)) x35 x36 x37 x122000 x122001) else (none)) else (none)) else (none)) else (none)) else (none)) else (none)))) else (none)) else (if 0 = (x15.length : Int) then (letterbaglaw30_other.l2 k x0 x2 x7 x8 x11 (wrap64 (x14 + 1)) x35 x36 x37 x122000 x122001) else (if 0 < (x15.length : Int) then (if 0 ≤ (rd x15 0) then (if (rd x15 0) < (x8.length : Int) then (if (rd x15 0) < (x0.length : Int) then (if x7.length < 5864062014805 then (letterbaglaw30_other.l2 k x0 x2 (x7 ++ [(⟨(rd_T45 x0 (rd x15 0)).f0, x14, wrap64 (x14 + 1)⟩ : S51)]) (x8.set ((rd x15 0) : Int).toNat (wrap64 ((rd x8 (rd x15 0)) - 1))) x11 (wrap64 (x14 + 1)) x35 x36 x37 x122000 x122001) else (none)) else (none)) else (none)) else (none)) else (none))))
end
def letterbaglaw30_other.f (k : Nat) (l0 : List (S45)) (l1 : List (S47)) (l2 : List Int) : Option ((List (S51))) := if 0 ≤ (l0.length : Int) then (if ((l0.length : Int) : Int).toNat ≤ 35184372088832 then (letterbaglaw30_other.l0 k l0 l1 l2 (List.replicate ((l0.length : Int) : Int).toNat 0) l0 (l0.length : Int) 0) else (none)) else (none)
set_option maxHeartbeats 8000000 in
set_option maxRecDepth 100000 in
theorem letterbaglaw30_other.calls (k : Nat) (A0 : Option Addr) (c0 : Nat) (l0 : List (S45)) (A1 : Option Addr) (c1 : Nat) (l1 : List (S47)) (A2 : Option Addr) (c2 : Nat) (l2 : List Int) (r : List (S51)) (w : World) (hr0 : Kd.C k45 w A0 l0.length l0) (hc0 : l0.length ≤ c0) (hr1 : Kd.C k47 w A1 l1.length l1) (hc1 : l1.length ≤ c1) (hr2 : Kd.C (Kd.int .u8) w A2 l2.length l2) (hc2 : l2.length ≤ c2) (h : letterbaglaw30_other.f k l0 l1 l2 = some r) :
  Calls Try.prog 13 #[.slice A0 l0.length c0, .slice A1 l1.length c1, .slice A2 l2.length c2] w fun e w' => ∃ v0_ : Value, e = .returned (v0_) ∧ Kd.R k51 51 w' w.heap.size (fun _ => True) v0_ r ∧ Below w.heap.size w w' := by
 have hu45 := Try.underlying45
 have hu47 := Try.underlying47
 have hu51 := Try.underlying51
 have HR0 := Aside0.mk hr0
 have HC0 := Aside0.mk hc0
 clear hr0 hc0
 have HR1 := Aside0.mk hr1
 have HC1 := Aside0.mk hc1
 clear hr1 hc1
 have HR2 := Aside0.mk hr2
 have HC2 := Aside0.mk hc2
 clear hr2 hc2
 have HB := Aside0.mk (Below.refl w.heap.size w)
 have H : (if 0 ≤ (l0.length : Int) then (if ((l0.length : Int) : Int).toNat ≤ 35184372088832 then (letterbaglaw30_other.l0 k l0 l1 l2 (List.replicate ((l0.length : Int) : Int).toNat 0) l0 (l0.length : Int) 0) else (none)) else (none)) = some r := h
 clear h
 by_cases c4 : 0 ≤ (l0.length : Int)
 ·rw [if_pos c4] at H
  have c4b0 := eq_true c4
  have c4b1 : decide (0 ≤ (l0.length : Int)) = true := decide_eq_true c4
  clear c4
  by_cases c5 : ((l0.length : Int) : Int).toNat ≤ 35184372088832
  ·rw [if_pos c5] at H
   have c5b0 := eq_true c5
   have c5b1 : decide (((l0.length : Int) : Int).toNat ≤ 35184372088832) = true := decide_eq_true c5
   clear c5
   obtain ⟨y114, hy114⟩ : ∃ y_ : List Int, y_ = (List.replicate ((l0.length : Int) : Int).toNat 0) := ⟨_, rfl⟩
   replace H : (letterbaglaw30_other.l0 k l0 l1 l2 y114 l0 (l0.length : Int) 0) = some r := by (rw [hy114]; with_reducible exact H)
   have Ny114 := Aside0.mk hy114
   clear hy114
   have H' := Aside0.mk H
   clear H
   go_enter Try.func13, Try.ntmps13
   go_wp2_with (((with_reducible refine gate_dst (N := 21) rfl ?_); refine Kd.R_make (Kd.int .i64) _ 3 rfl (N := 21) rfl 36 _ _ rfl (l0.length : Int) rfl rfl Try.underlying36 (.int .i64 0) 8 info3 rfl (by decide) (by omega) 0 (ok := fun _ => True) (okp := fun _ => True) rfl (fun _ hk => hk) trivial (of_decide_eq_true (by (with_reducible assumption))) (Nat.le_trans (Nat.mul_le_mul_right _ (of_decide_eq_true (by (with_reducible assumption)) : (l0.length : Int).toNat ≤ 35184372088832)) (by omega)) (Below.refl _ _) (Nat.le_refl _) ?_; intro v115 w6 ho7 hb hg_ hnew_; clear hg_ hnew_; (rw [← Ny114.out] at ho7); have n0_ := Aside0.mk (Kd.R_lower ho7 (below_size (by repeat ((with_reducible exact HB.out))))); have n1_ := Aside0.mk (below_step (by repeat ((with_reducible exact HB.out))) hb); clear HB; have HO116 := n0_; have HB := n1_; clear n0_ n1_; clear hb ho7))
   go_loopg [24] k (fun kq v24 w' => ∃ (x8_1 : List Int) (x24_1 : Int), v24 = .int .i64 x24_1 ∧ Aside0 (letterbaglaw30_other.l0 kq l0 l1 l2 x8_1 l0 (l0.length : Int) x24_1 = some r) ∧ Aside0 (kq ≤ k) ∧ Aside0 (Kd.R (Kd.int .i64) 3 w' w.heap.size (fun _ => True) v115 x8_1) ∧ Aside0 (Below w.heap.size w w'))
   case atStart => exact ⟨(y114), (0), (by rfl), H', ⟨Nat.le_refl _⟩, ⟨by (with_reducible repeat (fail)); exact HO116.out⟩, ⟨by repeat ((with_reducible exact HB.out))⟩⟩
   case round =>
    clear H'
    try clear c1
    try clear c2
    try clear p2
    try clear c4
    try clear c4b0
    try clear c4b1
    try clear c5
    try clear c5b0
    try clear c5b1
    obtain ⟨x8_1, x24_1, rfl, HA, HK1, HO_8, HB⟩ := hrel
    cases gk with
    | zero => exact absurd HA.out (by simp [letterbaglaw30_other.l0])
    | succ k1 =>
     have H := HA.out
     clear HA
     simp only [letterbaglaw30_other.l0] at H
     by_cases c8 : x24_1 < (l0.length : Int)
     ·rw [if_pos c8] at H
      have c8b0 : decide (x24_1 < (l0.length : Int)) = true := decide_eq_true c8
      clear c8
      by_cases c9 : 0 ≤ x24_1
      ·rw [if_pos c9] at H
       have c9b0 : decide (0 ≤ x24_1) = true := decide_eq_true c9
       clear c9
       by_cases c10 : x24_1 < (l0.length : Int)
       ·rw [if_pos c10] at H
        have c10b0 : decide (x24_1 < (l0.length : Int)) = true := decide_eq_true c10
        clear c10
        by_cases c11 : x24_1 < (x8_1.length : Int)
        ·rw [if_pos c11] at H
         have c11b0 : decide (x24_1 < (x8_1.length : Int)) = true := decide_eq_true c11
         clear c11
         obtain ⟨y119, hy119⟩ : ∃ y_ : List Int, y_ = (x8_1.set (x24_1 : Int).toNat ((rd_T45 l0 x24_1).f3)) := ⟨_, rfl⟩
         replace H : (letterbaglaw30_other.l0 k1 l0 l1 l2 y119 l0 (l0.length : Int) (wrap64 (x24_1 + 1))) = some r := by (rw [hy119]; with_reducible exact H)
         have Ny119 := Aside0.mk hy119
         clear hy119
         have H' := Aside0.mk H
         clear H
         have p117 : 0 ≤ (x24_1 : Int) := of_decide_eq_true (by (with_reducible assumption))
         have q117 : x24_1 < (l0.length : Int) := of_decide_eq_true (by (with_reducible assumption))
         obtain ⟨ad117, e117, hx117_0, hx117_1, hx117_2, hx117_3⟩ := at_T45 HR0.out x24_1 p117 q117
         cases e117
         replace hx117_0 := (HB.out.cell (World.block_lt_of_cell? w _ hx117_0)).trans hx117_0
         replace hx117_1 := (HB.out.cell (World.block_lt_of_cell? w _ hx117_1)).trans hx117_1
         replace hx117_2 := (HB.out.cell (World.block_lt_of_cell? w _ hx117_2)).trans hx117_2
         replace hx117_3 := (HB.out.cell (World.block_lt_of_cell? w _ hx117_3)).trans hx117_3
         replace p117 := eq_true p117
         replace q117 := eq_true q117
         go_wp2_with (first | ((with_reducible refine gate_dst (N := 10) rfl ?_); refine box_event ?hg (N := 10) ?hd (cs := #[.int .i64 0, .int .i64 0, .int .i64 0, .int .i64 0]) (t := 45) ?hr ?_; (case hd => rfl); (case hg => rfl); (case hr => (go_simp; done)); intro gb118 hg w13 hbox hb; have n0_ := Aside0.mk (Kd.R_below (by (with_reducible repeat (fail)); exact HO_8.out) hb); have n1_ := Aside0.mk (below_step (by repeat ((with_reducible exact HB.out))) hb); have n2_ := Aside0.mk (hbox); have n3_ := Aside0.mk ((by rw [hg]; exact (below_size (by repeat ((with_reducible exact HB.out)))) : w.heap.size ≤ gb118)); have n4_ := Aside0.mk ((by rw [hg]; exact (below_size (by repeat ((with_reducible exact HB.out)))) : w.heap.size ≤ gb118)); clear HO_8; clear HB; have HO_8 := n0_; have HB := n1_; have BK118 := n2_; have GW118 := n3_; have GE118 := n4_; clear n0_ n1_ n2_ n3_ n4_; clear hb hbox hg; have hcz14_0 : w13.cell? ⟨gb118, 0, none⟩ = some (.int .i64 0) := (blk_cell BK118.out 0).trans rfl; have hcz14_1 : w13.cell? ⟨gb118, 1, none⟩ = some (.int .i64 0) := (blk_cell BK118.out 1).trans rfl; have hcz14_2 : w13.cell? ⟨gb118, 2, none⟩ = some (.int .i64 0) := (blk_cell BK118.out 2).trans rfl; have hcz14_3 : w13.cell? ⟨gb118, 3, none⟩ = some (.int .i64 0) := (blk_cell BK118.out 3).trans rfl; have hfz14_0 := blk_frozen BK118.out 0; have hfz14_1 := blk_frozen BK118.out 1; have hfz14_2 := blk_frozen BK118.out 2; have hfz14_3 := blk_frozen BK118.out 3) | ((with_reducible refine gate_store (t := 45) (p := 10) rfl ?_); refine store_event (t := 45) (p := 10) (v := ?vo_w15) (w1 := ((((w13.setCell ⟨gb118, 0, none⟩ (.int .i64 ((rd_T45 l0 x24_1).f0))).setCell ⟨gb118, 1, none⟩ (.int .i64 ((rd_T45 l0 x24_1).f1))).setCell ⟨gb118, 2, none⟩ (.int .i64 ((rd_T45 l0 x24_1).f2))).setCell ⟨gb118, 3, none⟩ (.int .i64 ((rd_T45 l0 x24_1).f3)))) ?hg ?ho ?hn ?hr ?_; (case ho => rfl); (case hg => rfl); (case hn => rfl); (case hr => (go_simp; done)); intro w15 hw; have n0_ : Aside0 (Kd.R (Kd.int .i64) 3 w15 w.heap.size (fun _ => True) v115 x8_1) := ⟨(by rw [hw]; exact (by (with_reducible repeat (fail)); exact Kd.R_mono (Kd.R_far (p := ⟨gb118, 3, none⟩) (Kd.R_far (p := ⟨gb118, 2, none⟩) (Kd.R_far (p := ⟨gb118, 1, none⟩) (Kd.R_far (p := ⟨gb118, 0, none⟩) (Kd.R_types HO_8.out BK118.out (by decide)) (fun _ hk => hk.2) (.int .i64 ((rd_T45 l0 x24_1).f0))) (fun _ hk => hk.2) (.int .i64 ((rd_T45 l0 x24_1).f1))) (fun _ hk => hk.2) (.int .i64 ((rd_T45 l0 x24_1).f2))) (fun _ hk => hk.2) (.int .i64 ((rd_T45 l0 x24_1).f3))) (fun _ hk => trivial)))⟩; have n1_ : Aside0 (w15.heap[gb118]? = some (.cells #[.int .i64 ((rd_T45 l0 x24_1).f0), .int .i64 ((rd_T45 l0 x24_1).f1), .int .i64 ((rd_T45 l0 x24_1).f2), .int .i64 ((rd_T45 l0 x24_1).f3)] 45 (0, 0))) := ⟨(by rw [hw]; exact (by (with_reducible repeat (fail)); refine blk_put (cs := #[.int .i64 ((rd_T45 l0 x24_1).f0), .int .i64 ((rd_T45 l0 x24_1).f1), .int .i64 ((rd_T45 l0 x24_1).f2), .int .i64 0]) ?_ 3 _ rfl; (with_reducible repeat (fail)); refine blk_put (cs := #[.int .i64 ((rd_T45 l0 x24_1).f0), .int .i64 ((rd_T45 l0 x24_1).f1), .int .i64 0, .int .i64 0]) ?_ 2 _ rfl; (with_reducible repeat (fail)); refine blk_put (cs := #[.int .i64 ((rd_T45 l0 x24_1).f0), .int .i64 0, .int .i64 0, .int .i64 0]) ?_ 1 _ rfl; (with_reducible repeat (fail)); refine blk_put (cs := #[.int .i64 0, .int .i64 0, .int .i64 0, .int .i64 0]) ?_ 0 _ rfl; (with_reducible repeat (fail)); exact BK118.out))⟩; have n2_ : Aside0 (Below w.heap.size w w15) := ⟨(by rw [hw]; exact (by repeat ((with_reducible first | exact HB.out | refine below_set ?_ GE118.out))))⟩; clear hw; clear HO_8; clear BK118; clear HB; have HO_8 := n0_; have BK118 := n1_; have HB := n2_; clear n0_ n1_ n2_; have hcz16_0 : w15.cell? ⟨gb118, 0, none⟩ = some (.int .i64 ((rd_T45 l0 x24_1).f0)) := (blk_cell BK118.out 0).trans rfl; have hcz16_1 : w15.cell? ⟨gb118, 1, none⟩ = some (.int .i64 ((rd_T45 l0 x24_1).f1)) := (blk_cell BK118.out 1).trans rfl; have hcz16_2 : w15.cell? ⟨gb118, 2, none⟩ = some (.int .i64 ((rd_T45 l0 x24_1).f2)) := (blk_cell BK118.out 2).trans rfl; have hcz16_3 : w15.cell? ⟨gb118, 3, none⟩ = some (.int .i64 ((rd_T45 l0 x24_1).f3)) := (blk_cell BK118.out 3).trans rfl; have hfz16_0 := blk_frozen BK118.out 0; have hfz16_1 := blk_frozen BK118.out 1; have hfz16_2 := blk_frozen BK118.out 2; have hfz16_3 := blk_frozen BK118.out 3; have p12 : 0 ≤ (x24_1 : Int) := of_decide_eq_true (by (with_reducible assumption)); have q12 : (x24_1 : Int) < ((x8_1.length : Int) : Int) := of_decide_eq_true (by (with_reducible assumption)); obtain ⟨go12, co12, eo12, gb12, gl12, cl12, HG12⟩ := Kd.R_form HO_8.out (by omega); (cases eo12); have GB12 := Aside0.mk gb12; have GG12 := Aside0.mk HG12; clear gb12 gl12 HG12; obtain ⟨hx12_0, hf12_0⟩ := Kd.R_celln 0 HO_8.out (x24_1 : Int) p12 q12; replace p12 := eq_true p12; replace q12 := eq_true q12; obtain ⟨hy17_, hz17_⟩ := Kd.R_celln 0 HO_8.out (x24_1 : Int) (of_decide_eq_true (by (with_reducible assumption))) (of_decide_eq_true (by (with_reducible assumption))); have HP17 := Kd.R_putg HO_8.out (x24_1 : Int) ((rd_T45 l0 x24_1).f3)) | ((with_reducible refine gate_store (t := 3) (p := 33) rfl ?_); refine store_event (t := 3) (p := 33) (v := ?vo_w18) (w1 := (w15.setCell ⟨go12, (x24_1 : Int).toNat, none⟩ (.int .i64 ((rd_T45 l0 x24_1).f3)))) ?hg ?ho ?hn ?hr ?_; (case ho => rfl); (case hg => rfl); (case hn => rfl); (case hr => (go_simp; done)); intro w18 hw; have hg : w15.grownBy w18 (some go12) := (by rw [hw]; exact HP17.2); have hp_ : Kd.R (Kd.int .i64) 3 w18 w.heap.size (fun _ => True) (.slice (some ⟨go12, 0, none⟩) x8_1.length co12) y119 := (by rw [hw, Ny119.out]; exact HP17.1); clear HP17; have n0_ := Aside0.mk (hp_); have n1_ := Aside0.mk (blk_grown (g := gb118) (o := .cells #[.int .i64 ((rd_T45 l0 x24_1).f0), .int .i64 ((rd_T45 l0 x24_1).f1), .int .i64 ((rd_T45 l0 x24_1).f2), .int .i64 ((rd_T45 l0 x24_1).f3)] 45 (0, 0)) (by (with_reducible repeat (fail)); exact BK118.out) hg (Kd.R_ne HO_8.out BK118.out (by decide))); have n2_ := Aside0.mk ((by rw [hw]; exact below_set (HB.out) GB12.out : Below w.heap.size w w18)); clear HO_8; clear BK118; clear HB; have HO_8 := n0_; have BK118 := n1_; have HB := n2_; clear n0_ n1_ n2_; clear hg hw hp_))
         go_roundg k1
         case measure => have := HK1.out; omega
         case rel => exact ⟨(y119), (wrap64 (x24_1 + 1)), (by rfl), H', ⟨by have := HK1.out; omega⟩, ⟨by (with_reducible repeat (fail)); exact HO_8.out⟩, ⟨by repeat ((with_reducible exact HB.out))⟩⟩
        ·rw [if_neg c11] at H
         exact absurd H (by simp)
       ·rw [if_neg c10] at H
        exact absurd H (by simp)
      ·rw [if_neg c9] at H
       exact absurd H (by simp)
     ·rw [if_neg c8] at H
      have c8b0 : decide (x24_1 < (l0.length : Int)) = false := decide_eq_false c8
      clear c8
      have H' := Aside0.mk H
      clear H
      go_wp2
      go_loopg [7, 11, 37] k1 (fun kq v7 v11 v37 w' => ∃ (x7_2 : List (S51)) (x8_2 : List Int) (x11_2 : Int) (x37_2 : Int), v11 = .int .i64 x11_2 ∧ v37 = .int .i64 x37_2 ∧ Aside0 (letterbaglaw30_other.l1 kq l0 l2 x7_2 x8_2 x11_2 l1 (l1.length : Int) x37_2 = some r) ∧ Aside0 (kq ≤ k1) ∧ Aside0 (Kd.R k51 51 w' w.heap.size (fun _ => True) v7 x7_2) ∧ Aside0 (Kd.R (Kd.int .i64) 3 w' w.heap.size (fun _ => True) v115 x8_2) ∧ Aside0 (Below w.heap.size w w'))
      case atStart => exact ⟨(([] : List (S51))), (x8_1), (0), (0), (by rfl), (by rfl), H', ⟨Nat.le_refl _⟩, ⟨by exact Kd.R_nil _ _ _ _ _⟩, ⟨by (with_reducible repeat (fail)); exact HO_8.out⟩, ⟨by repeat ((with_reducible exact HB.out))⟩⟩
      case round =>
       clear H'
       try clear c1
       try clear p1
       try clear q1
       try clear hx1
       try clear c2
       try clear p2
       try clear c4
       try clear c4b0
       try clear c4b1
       try clear c5
       try clear c5b0
       try clear c5b1
       try clear p6
       try clear c8
       try clear c8b0
       try clear c9
       try clear c9b0
       try clear c10
       try clear c10b0
       try clear c11
       try clear c11b0
       try clear p11
       try clear q11
       try clear hx11
       try clear p12
       try clear q12
       try clear hx12
       try clear hf12
       try clear c13
       try clear hcz14_0
       try clear hcz14_1
       try clear hcz14_2
       try clear hcz14_3
       try clear hcz16_0
       try clear hcz16_1
       try clear hcz16_2
       try clear hcz16_3
       try clear hfz14_0
       try clear hfz14_1
       try clear hfz14_2
       try clear hfz14_3
       try clear hfz16_0
       try clear hfz16_1
       try clear hfz16_2
       try clear hfz16_3
       try clear hx117_0
       try clear hx117_1
       try clear hx117_2
       try clear hx117_3
       try clear hx12_0
       try clear p117
       try clear p12
       try clear p2
       try clear q117
       try clear q12
       obtain ⟨x7_2, x8_2, x11_2, x37_2, rfl, rfl, HA, HK2, HO_7, HO_8, HB⟩ := hrel
       cases gk with
       | zero => exact absurd HA.out (by simp [letterbaglaw30_other.l1])
       | succ k2 =>
        have H := HA.out
        clear HA
        simp only [letterbaglaw30_other.l1] at H
        by_cases c19 : x37_2 < (l1.length : Int)
        ·rw [if_pos c19] at H
         have c19b0 : decide (x37_2 < (l1.length : Int)) = true := decide_eq_true c19
         clear c19
         by_cases c20 : 0 ≤ x37_2
         ·rw [if_pos c20] at H
          have c20b0 : decide (0 ≤ x37_2) = true := decide_eq_true c20
          clear c20
          by_cases c21 : x37_2 < (l1.length : Int)
          ·rw [if_pos c21] at H
           have c21b0 : decide (x37_2 < (l1.length : Int)) = true := decide_eq_true c21
           clear c21
           have H' := Aside0.mk H
           clear H
           have p120 : 0 ≤ (x37_2 : Int) := of_decide_eq_true (by (with_reducible assumption))
           have q120 : x37_2 < (l1.length : Int) := of_decide_eq_true (by (with_reducible assumption))
           obtain ⟨ad120, e120, hx120_0, hx120_1⟩ := at_T47 HR1.out x37_2 p120 q120
           cases e120
           replace hx120_0 := (HB.out.cell (World.block_lt_of_cell? w _ hx120_0)).trans hx120_0
           replace hx120_1 := (HB.out.cell (World.block_lt_of_cell? w _ hx120_1)).trans hx120_1
           replace p120 := eq_true p120
           replace q120 := eq_true q120
           go_wp2_with (((with_reducible refine gate_dst (N := 13) rfl ?_); refine box_event ?hg (N := 13) ?hd (cs := #[.int .i64 0, .int .i64 0]) (t := 47) ?hr ?_; (case hd => rfl); (case hg => rfl); (case hr => (go_simp; done)); intro gb121 hg w22 hbox hb; have n0_ := Aside0.mk (Kd.R_below (by (with_reducible repeat (fail)); exact HO_7.out) hb); have n1_ := Aside0.mk (Kd.R_below (by (with_reducible repeat (fail)); exact HO_8.out) hb); have n2_ := Aside0.mk (below_step (by repeat ((with_reducible exact HB.out))) hb); have n3_ := Aside0.mk (hbox); have n4_ := Aside0.mk ((by rw [hg]; exact (below_size (by repeat ((with_reducible exact HB.out)))) : w.heap.size ≤ gb121)); have n5_ := Aside0.mk ((by rw [hg]; exact (below_size (by repeat ((with_reducible exact HB.out)))) : w.heap.size ≤ gb121)); clear HO_7; clear HO_8; clear HB; have HO_7 := n0_; have HO_8 := n1_; have HB := n2_; have BK121 := n3_; have GW121 := n4_; have GE121 := n5_; clear n0_ n1_ n2_ n3_ n4_ n5_; clear hb hbox hg; have hcz23_0 : w22.cell? ⟨gb121, 0, none⟩ = some (.int .i64 0) := (blk_cell BK121.out 0).trans rfl; have hcz23_1 : w22.cell? ⟨gb121, 1, none⟩ = some (.int .i64 0) := (blk_cell BK121.out 1).trans rfl; have hfz23_0 := blk_frozen BK121.out 0; have hfz23_1 := blk_frozen BK121.out 1))
           go_loopg [7, 11, 14] k2 (fun kq v7 v11 v14 w' => ∃ (x7_3 : List (S51)) (x8_3 : List Int) (x11_3 : Int) (x14_3 : Int), v11 = .int .i64 x11_3 ∧ v14 = .int .i64 x14_3 ∧ Aside0 (letterbaglaw30_other.l2 kq l0 l2 x7_3 x8_3 x11_3 x14_3 l1 (l1.length : Int) x37_2 ((rd_T47 l1 x37_2).f0) ((rd_T47 l1 x37_2).f1) = some r) ∧ Aside0 (kq ≤ k2) ∧ Aside0 (Kd.R k51 51 w' w.heap.size (fun _ => True) v7 x7_3) ∧ Aside0 (Kd.R (Kd.int .i64) 3 w' w.heap.size (fun _ => True) v115 x8_3) ∧ Aside0 (w'.heap[gb121]? = some (.cells #[.int .i64 ((rd_T47 l1 x37_2).f0), .int .i64 ((rd_T47 l1 x37_2).f1)] 47 (0, 0))) ∧ Aside0 (Below w.heap.size w w'))
           case atStart => exact ⟨(x7_2), (x8_2), (x11_2), ((rd_T47 l1 x37_2).f0), (by rfl), (by rfl), H', ⟨Nat.le_refl _⟩, ⟨by (with_reducible repeat (fail)); exact Kd.R_mono (Kd.R_far (p := ⟨gb121, 1, none⟩) (Kd.R_far (p := ⟨gb121, 0, none⟩) (Kd.R_types HO_7.out BK121.out (by decide)) (fun _ hk => hk.2) (.int .i64 ((rd_T47 l1 x37_2).f0))) (fun _ hk => hk.2) (.int .i64 ((rd_T47 l1 x37_2).f1))) (fun _ hk => trivial)⟩, ⟨by (with_reducible repeat (fail)); exact Kd.R_mono (Kd.R_far (p := ⟨gb121, 1, none⟩) (Kd.R_far (p := ⟨gb121, 0, none⟩) (Kd.R_types HO_8.out BK121.out (by decide)) (fun _ hk => hk.2) (.int .i64 ((rd_T47 l1 x37_2).f0))) (fun _ hk => hk.2) (.int .i64 ((rd_T47 l1 x37_2).f1))) (fun _ hk => trivial)⟩, ⟨by (with_reducible repeat (fail)); refine blk_put (cs := #[.int .i64 ((rd_T47 l1 x37_2).f0), .int .i64 0]) ?_ 1 _ rfl; (with_reducible repeat (fail)); refine blk_put (cs := #[.int .i64 0, .int .i64 0]) ?_ 0 _ rfl; (with_reducible repeat (fail)); exact BK121.out⟩, ⟨by repeat ((with_reducible first | exact HB.out | refine below_set ?_ GE121.out))⟩⟩
           case round =>
            clear H'
            try clear c1
            try clear p1
            try clear q1
            try clear hx1
            try clear c2
            try clear p2
            try clear c4
            try clear c4b0
            try clear c4b1
            try clear c5
            try clear c5b0
            try clear c5b1
            try clear p6
            try clear c8
            try clear c8b0
            try clear c9
            try clear c9b0
            try clear c10
            try clear c10b0
            try clear c11
            try clear c11b0
            try clear p11
            try clear q11
            try clear hx11
            try clear p12
            try clear q12
            try clear hx12
            try clear hf12
            try clear c13
            try clear c19
            try clear c19b0
            try clear c20
            try clear c20b0
            try clear c21
            try clear c21b0
            try clear hcz14_0
            try clear hcz14_1
            try clear hcz14_2
            try clear hcz14_3
            try clear hcz16_0
            try clear hcz16_1
            try clear hcz16_2
            try clear hcz16_3
            try clear hcz23_0
            try clear hcz23_1
            try clear hfz14_0
            try clear hfz14_1
            try clear hfz14_2
            try clear hfz14_3
            try clear hfz16_0
            try clear hfz16_1
            try clear hfz16_2
            try clear hfz16_3
            try clear hfz23_0
            try clear hfz23_1
            try clear hx117_0
            try clear hx117_1
            try clear hx117_2
            try clear hx117_3
            try clear hx120_0
            try clear hx120_1
            try clear hx12_0
            try clear p1
            try clear p11
            try clear p117
            try clear p12
            try clear p120
            try clear p2
            try clear p6
            try clear q1
            try clear q11
            try clear q117
            try clear q12
            try clear q120
            obtain ⟨x7_3, x8_3, x11_3, x14_3, rfl, rfl, HA, HK3, HO_7, HO_8, BK121, HB⟩ := hrel
            cases gk with
            | zero => exact absurd HA.out (by simp [letterbaglaw30_other.l2])
            | succ k3 =>
             have H := HA.out
             clear HA
             simp only [letterbaglaw30_other.l2] at H
             by_cases c24 : x14_3 < ((rd_T47 l1 x37_2).f1)
             ·rw [if_pos c24] at H
              have c24b0 : decide (x14_3 < ((rd_T47 l1 x37_2).f1)) = true := decide_eq_true c24
              clear c24
              have H' := Aside0.mk H
              clear H
              have hcz25_0 : wr.cell? ⟨gb121, 0, none⟩ = some (.int .i64 ((rd_T47 l1 x37_2).f0)) := (blk_cell BK121.out 0).trans rfl
              have hcz25_1 : wr.cell? ⟨gb121, 1, none⟩ = some (.int .i64 ((rd_T47 l1 x37_2).f1)) := (blk_cell BK121.out 1).trans rfl
              have hfz25_0 := blk_frozen BK121.out 0
              have hfz25_1 := blk_frozen BK121.out 1
              go_wp2
              go_loopg [15, 51] k3 (fun kq v15 v51 w' => ∃ (x15_4 : List Int) (x51_4 : Int), v51 = .int .i64 x51_4 ∧ Aside0 (letterbaglaw30_other.l3 kq l0 l2 x7_3 x8_3 x11_3 x14_3 x15_4 l1 (l1.length : Int) x37_2 l0 (l0.length : Int) x51_4 ((rd_T47 l1 x37_2).f0) ((rd_T47 l1 x37_2).f1) = some r) ∧ Aside0 (kq ≤ k3) ∧ Aside0 (Kd.R k51 51 w' w.heap.size (fun _ => True) u7 x7_3) ∧ Aside0 (Kd.R (Kd.int .i64) 3 w' w.heap.size (fun k_ => some k_ ≠ (v15 : Value).ownBlock) v115 x8_3) ∧ Aside0 (Kd.R (Kd.int .i64) 3 w' w.heap.size (fun k_ => some k_ ≠ (v115 : Value).ownBlock) v15 x15_4) ∧ Aside0 (w'.heap[gb121]? = some (.cells #[.int .i64 ((rd_T47 l1 x37_2).f0), .int .i64 ((rd_T47 l1 x37_2).f1)] 47 (0, 0))) ∧ Aside0 (Below w.heap.size w w'))
              case atStart => exact ⟨(([] : List Int)), (0), (by rfl), H', ⟨Nat.le_refl _⟩, ⟨by (with_reducible repeat (fail)); exact HO_7.out⟩, ⟨by (with_reducible repeat (fail)); exact Kd.R_mono HO_8.out (fun _ hk => (by simp [Value.ownBlock]))⟩, ⟨by exact Kd.R_nil _ _ _ _ _⟩, ⟨by (with_reducible repeat (fail)); exact BK121.out⟩, ⟨by repeat ((with_reducible exact HB.out))⟩⟩
              case round =>
               clear H'
               try clear c1
               try clear p1
               try clear q1
               try clear hx1
               try clear c2
               try clear p2
               try clear c4
               try clear c4b0
               try clear c4b1
               try clear c5
               try clear c5b0
               try clear c5b1
               try clear p6
               try clear c8
               try clear c8b0
               try clear c9
               try clear c9b0
               try clear c10
               try clear c10b0
               try clear c11
               try clear c11b0
               try clear p11
               try clear q11
               try clear hx11
               try clear p12
               try clear q12
               try clear hx12
               try clear hf12
               try clear c13
               try clear c19
               try clear c19b0
               try clear c20
               try clear c20b0
               try clear c21
               try clear c21b0
               try clear c24
               try clear c24b0
               try clear hcz14_0
               try clear hcz14_1
               try clear hcz14_2
               try clear hcz14_3
               try clear hcz16_0
               try clear hcz16_1
               try clear hcz16_2
               try clear hcz16_3
               try clear hcz23_0
               try clear hcz23_1
               try clear hcz25_0
               try clear hcz25_1
               try clear hfz14_0
               try clear hfz14_1
               try clear hfz14_2
               try clear hfz14_3
               try clear hfz16_0
               try clear hfz16_1
               try clear hfz16_2
               try clear hfz16_3
               try clear hfz23_0
               try clear hfz23_1
               try clear hfz25_0
               try clear hfz25_1
               try clear hx117_0
               try clear hx117_1
               try clear hx117_2
               try clear hx117_3
               try clear hx120_0
               try clear hx120_1
               try clear hx12_0
               try clear p1
               try clear p11
               try clear p117
               try clear p12
               try clear p120
               try clear p2
               try clear p6
               try clear q1
               try clear q11
               try clear q117
               try clear q12
               try clear q120
               obtain ⟨x15_4, x51_4, rfl, HA, HK4, HO_7, HO_8, HO_15, BK121, HB⟩ := hrel
               cases gk with
               | zero => exact absurd HA.out (by simp [letterbaglaw30_other.l3])
               | succ k4 =>
                have H := HA.out
                clear HA
                simp only [letterbaglaw30_other.l3] at H
                by_cases c26 : x51_4 < (l0.length : Int)
                ·rw [if_pos c26] at H
                 have c26b0 : decide (x51_4 < (l0.length : Int)) = true := decide_eq_true c26
                 clear c26
                 by_cases c27 : 0 ≤ x51_4
                 ·rw [if_pos c27] at H
                  have c27b0 : decide (0 ≤ x51_4) = true := decide_eq_true c27
                  clear c27
                  by_cases c28 : x51_4 < (l0.length : Int)
                  ·rw [if_pos c28] at H
                   have c28b0 : decide (x51_4 < (l0.length : Int)) = true := decide_eq_true c28
                   clear c28
                   by_cases c29 : ((rd_T45 l0 x51_4).f1) ≤ x14_3
                   ·rw [if_pos c29] at H
                    have c29b0 : decide (((rd_T45 l0 x51_4).f1) ≤ x14_3) = true := decide_eq_true c29
                    clear c29
                    by_cases c30 : x51_4 < (x8_3.length : Int)
                    ·rw [if_pos c30] at H
                     have c30b0 : decide (x51_4 < (x8_3.length : Int)) = true := decide_eq_true c30
                     clear c30
                     by_cases c31 : (rd x8_3 x51_4) > 0
                     ·rw [if_pos c31] at H
                      have c31b0 : decide (0 < (rd x8_3 x51_4)) = true := decide_eq_true c31
                      clear c31
                      by_cases c32 : x15_4.length < 17592186044416
                      ·rw [if_pos c32] at H
                       have LMc32 := Aside0.mk c32
                       clear c32
                       obtain ⟨y125, hy125⟩ : ∃ y_ : List Int, y_ = (x15_4 ++ [x51_4]) := ⟨_, rfl⟩
                       replace H : (letterbaglaw30_other.l3 k4 l0 l2 x7_3 x8_3 x11_3 x14_3 y125 l1 (l1.length : Int) x37_2 l0 (l0.length : Int) (wrap64 (x51_4 + 1)) ((rd_T47 l1 x37_2).f0) ((rd_T47 l1 x37_2).f1)) = some r := by (rw [hy125]; with_reducible exact H)
                       have Ny125 := Aside0.mk hy125
                       clear hy125
                       have H' := Aside0.mk H
                       clear H
                       have p122 : 0 ≤ (x51_4 : Int) := of_decide_eq_true (by (with_reducible assumption))
                       have q122 : x51_4 < (l0.length : Int) := of_decide_eq_true (by (with_reducible assumption))
                       obtain ⟨ad122, e122, hx122_0, hx122_1, hx122_2, hx122_3⟩ := at_T45 HR0.out x51_4 p122 q122
                       cases e122
                       replace hx122_0 := (HB.out.cell (World.block_lt_of_cell? w _ hx122_0)).trans hx122_0
                       replace hx122_1 := (HB.out.cell (World.block_lt_of_cell? w _ hx122_1)).trans hx122_1
                       replace hx122_2 := (HB.out.cell (World.block_lt_of_cell? w _ hx122_2)).trans hx122_2
                       replace hx122_3 := (HB.out.cell (World.block_lt_of_cell? w _ hx122_3)).trans hx122_3
                       replace p122 := eq_true p122
                       replace q122 := eq_true q122
                       go_wp2_with (first | ((with_reducible refine gate_dst (N := 17) rfl ?_); refine box_event ?hg (N := 17) ?hd (cs := #[.int .i64 0, .int .i64 0, .int .i64 0, .int .i64 0]) (t := 45) ?hr ?_; (case hd => rfl); (case hg => rfl); (case hr => (go_simp; done)); intro gb123 hg w33 hbox hb; have n0_ := Aside0.mk (Kd.R_below (by (with_reducible repeat (fail)); exact HO_7.out) hb); have n1_ := Aside0.mk (Kd.R_below (by (with_reducible repeat (fail)); exact HO_8.out) hb); have n2_ := Aside0.mk (Kd.R_below (by (with_reducible repeat (fail)); exact HO_15.out) hb); have n3_ := Aside0.mk (blk_below (g := gb121) (o := .cells #[.int .i64 ((rd_T47 l1 x37_2).f0), .int .i64 ((rd_T47 l1 x37_2).f1)] 47 (0, 0)) (by (with_reducible repeat (fail)); exact BK121.out) hb); have n4_ := Aside0.mk (below_step (by repeat ((with_reducible exact HB.out))) hb); have n5_ := Aside0.mk (hbox); have n6_ := Aside0.mk ((by rw [hg]; exact (below_size (by repeat ((with_reducible exact HB.out)))) : w.heap.size ≤ gb123)); have n7_ := Aside0.mk ((by rw [hg]; exact (below_size (by repeat ((with_reducible exact HB.out)))) : w.heap.size ≤ gb123)); have n8_ := Aside0.mk ((by rw [hg]; exact Nat.ne_of_lt (blk_lt (g := gb121) (o := .cells #[.int .i64 ((rd_T47 l1 x37_2).f0), .int .i64 ((rd_T47 l1 x37_2).f1)] 47 (0, 0)) (by (with_reducible repeat (fail)); exact BK121.out)) : gb121 ≠ gb123)); have n9_ := Aside0.mk ((by rw [hg]; exact Nat.ne_of_gt (blk_lt (g := gb121) (o := .cells #[.int .i64 ((rd_T47 l1 x37_2).f0), .int .i64 ((rd_T47 l1 x37_2).f1)] 47 (0, 0)) (by (with_reducible repeat (fail)); exact BK121.out)) : gb123 ≠ gb121)); clear HO_7; clear HO_8; clear HO_15; clear BK121; clear HB; have HO_7 := n0_; have HO_8 := n1_; have HO_15 := n2_; have BK121 := n3_; have HB := n4_; have BK123 := n5_; have GW123 := n6_; have GE123 := n7_; have NB121_123 := n8_; have NB123_121 := n9_; clear n0_ n1_ n2_ n3_ n4_ n5_ n6_ n7_ n8_ n9_; clear hb hbox hg; have hnb34 := NB123_121.out; have hnc34 := NB121_123.out; have hcz35_0 : w33.cell? ⟨gb123, 0, none⟩ = some (.int .i64 0) := (blk_cell BK123.out 0).trans rfl; have hcz35_1 : w33.cell? ⟨gb123, 1, none⟩ = some (.int .i64 0) := (blk_cell BK123.out 1).trans rfl; have hcz35_2 : w33.cell? ⟨gb123, 2, none⟩ = some (.int .i64 0) := (blk_cell BK123.out 2).trans rfl; have hcz35_3 : w33.cell? ⟨gb123, 3, none⟩ = some (.int .i64 0) := (blk_cell BK123.out 3).trans rfl; have hfz35_0 := blk_frozen BK123.out 0; have hfz35_1 := blk_frozen BK123.out 1; have hfz35_2 := blk_frozen BK123.out 2; have hfz35_3 := blk_frozen BK123.out 3; obtain ⟨Ao36, co36, eo36⟩ := Kd.R_slice HO_8.out; subst eo36; have p124 : 0 ≤ (x51_4 : Int) := of_decide_eq_true (by (with_reducible assumption)); have q124 : x51_4 < (x8_3.length : Int) := of_decide_eq_true (by (with_reducible assumption)); obtain ⟨ad124, e124, hx124_0⟩ := Kd.at_int (Kd.R_reads' HO_8.out).2.2 x51_4 p124 q124; cases e124; have hn124_0 : ad124.block ≠ gb123 := Kd.own_blk (Kd.R_ne HO_8.out BK123.out (by decide)); have hn124_1 : ad124.block ≠ gb123 := Kd.own_blk (Kd.R_ne HO_8.out BK123.out (by decide)); have hn124_2 : ad124.block ≠ gb123 := Kd.own_blk (Kd.R_ne HO_8.out BK123.out (by decide)); have hn124_3 : ad124.block ≠ gb123 := Kd.own_blk (Kd.R_ne HO_8.out BK123.out (by decide)); replace hx124_0 := (cell_far (p := ⟨gb123, 0, none⟩) (by (rw [add_block]; exact hn124_0)) (.int .i64 ((rd_T45 l0 x51_4).f0))).trans hx124_0; replace hx124_0 := (cell_far (p := ⟨gb123, 1, none⟩) (by (rw [add_block]; exact hn124_1)) (.int .i64 ((rd_T45 l0 x51_4).f1))).trans hx124_0; replace hx124_0 := (cell_far (p := ⟨gb123, 2, none⟩) (by (rw [add_block]; exact hn124_2)) (.int .i64 ((rd_T45 l0 x51_4).f2))).trans hx124_0; replace hx124_0 := (cell_far (p := ⟨gb123, 3, none⟩) (by (rw [add_block]; exact hn124_3)) (.int .i64 ((rd_T45 l0 x51_4).f3))).trans hx124_0; clear hn124_0; clear hn124_1; clear hn124_2; clear hn124_3; replace p124 := eq_true p124; replace q124 := eq_true q124) | ((with_reducible refine gate_builtin (b := .append) (xs := #[.tmp 67, .tmp 69]) rfl ?_); at_builtin; refine Kd.R_append (Kd.int .i64) (w0 := w) w.heap.size rfl (.tmp 67) (.tmp 69) 36 3 (.int .i64 0) 8 rfl Try.underlying36 info3 rfl (by decide) (by omega) u15 x15_4 x51_4 [.int .i64 x51_4] (fun k_ => some k_ ≠ (.slice (some ad124) x8_3.length co36 : Value).ownBlock) (fun _ => False) rfl (by (go_simp; done)) ?aP (fun _ hk => hk.elim) ?aF ?aO ?aB ?aS ?aL ?_; (case aP => exact rfl); (case aB => exact (by repeat ((with_reducible first | exact HB.out | refine below_set ?_ GE123.out)))); (case aF => exact (fun k_ hk => Kd.fresh' (Kd.R_lt (by (with_reducible repeat (fail)); exact (Kd.R_mono (Kd.R_far (p := ⟨gb123, 3, none⟩) (Kd.R_far (p := ⟨gb123, 2, none⟩) (Kd.R_far (p := ⟨gb123, 1, none⟩) (Kd.R_far (p := ⟨gb123, 0, none⟩) (Kd.R_types HO_8.out BK123.out (by decide)) (fun _ hk => hk.2) (.int .i64 ((rd_T45 l0 x51_4).f0))) (fun _ hk => hk.2) (.int .i64 ((rd_T45 l0 x51_4).f1))) (fun _ hk => hk.2) (.int .i64 ((rd_T45 l0 x51_4).f2))) (fun _ hk => hk.2) (.int .i64 ((rd_T45 l0 x51_4).f3))) (fun _ h_ => h_.1)))) k_ hk)); (case aO => exact (by (with_reducible repeat (fail)); exact Kd.R_mono (Kd.R_far (p := ⟨gb123, 3, none⟩) (Kd.R_far (p := ⟨gb123, 2, none⟩) (Kd.R_far (p := ⟨gb123, 1, none⟩) (Kd.R_far (p := ⟨gb123, 0, none⟩) (Kd.R_types HO_15.out BK123.out (by decide)) (fun _ hk => hk.2) (.int .i64 ((rd_T45 l0 x51_4).f0))) (fun _ hk => hk.2) (.int .i64 ((rd_T45 l0 x51_4).f1))) (fun _ hk => hk.2) (.int .i64 ((rd_T45 l0 x51_4).f2))) (fun _ hk => hk.2) (.int .i64 ((rd_T45 l0 x51_4).f3))) (fun _ hk => hk.1))); (case aS => exact (below_size (by repeat ((with_reducible first | exact HB.out | refine below_set ?_ GE123.out))))); (case aL => have := LMc32.out; omega); intro v126 w37 ho hb hg hat; rw [← Ny125.out] at ho; have n0_ := Aside0.mk (Kd.R_over' (by (with_reducible repeat (fail)); exact (Kd.R_mono (Kd.R_far (p := ⟨gb123, 3, none⟩) (Kd.R_far (p := ⟨gb123, 2, none⟩) (Kd.R_far (p := ⟨gb123, 1, none⟩) (Kd.R_far (p := ⟨gb123, 0, none⟩) (Kd.R_types HO_7.out BK123.out (by decide)) (fun _ hk => hk.2) (.int .i64 ((rd_T45 l0 x51_4).f0))) (fun _ hk => hk.2) (.int .i64 ((rd_T45 l0 x51_4).f1))) (fun _ hk => hk.2) (.int .i64 ((rd_T45 l0 x51_4).f2))) (fun _ hk => hk.2) (.int .i64 ((rd_T45 l0 x51_4).f3))) (fun _ h_ => h_.1))) (Kd.R_typed (by (with_reducible repeat (fail)); exact (Kd.R_mono (Kd.R_far (p := ⟨gb123, 3, none⟩) (Kd.R_far (p := ⟨gb123, 2, none⟩) (Kd.R_far (p := ⟨gb123, 1, none⟩) (Kd.R_far (p := ⟨gb123, 0, none⟩) (Kd.R_types HO_15.out BK123.out (by decide)) (fun _ hk => hk.2) (.int .i64 ((rd_T45 l0 x51_4).f0))) (fun _ hk => hk.2) (.int .i64 ((rd_T45 l0 x51_4).f1))) (fun _ hk => hk.2) (.int .i64 ((rd_T45 l0 x51_4).f2))) (fun _ hk => hk.2) (.int .i64 ((rd_T45 l0 x51_4).f3))) (fun _ h_ => h_.1)))) (by decide) hg); have n1_ := Aside0.mk (Kd.R_after (ok := (fun _ => True)) (by (with_reducible repeat (fail)); exact Kd.R_mono (Kd.R_far (p := ⟨gb123, 3, none⟩) (Kd.R_far (p := ⟨gb123, 2, none⟩) (Kd.R_far (p := ⟨gb123, 1, none⟩) (Kd.R_far (p := ⟨gb123, 0, none⟩) (Kd.R_types HO_8.out BK123.out (by decide)) (fun _ hk => hk.2) (.int .i64 ((rd_T45 l0 x51_4).f0))) (fun _ hk => hk.2) (.int .i64 ((rd_T45 l0 x51_4).f1))) (fun _ hk => hk.2) (.int .i64 ((rd_T45 l0 x51_4).f2))) (fun _ hk => hk.2) (.int .i64 ((rd_T45 l0 x51_4).f3))) (fun _ hk => ⟨trivial, hk.1⟩)) hg hat); have n2_ := Aside0.mk (blk_grown (g := gb121) (o := .cells #[.int .i64 ((rd_T47 l1 x37_2).f0), .int .i64 ((rd_T47 l1 x37_2).f1)] 47 (0, 0)) (by (with_reducible repeat (fail)); refine blk_far ?_ NB121_123.out _; (with_reducible repeat (fail)); refine blk_far ?_ NB121_123.out _; (with_reducible repeat (fail)); refine blk_far ?_ NB121_123.out _; (with_reducible repeat (fail)); refine blk_far ?_ NB121_123.out _; (with_reducible repeat (fail)); exact BK121.out) hg (Kd.R_ne HO_15.out BK121.out (by decide))); have n3_ := Aside0.mk (blk_grown (g := gb123) (o := .cells #[.int .i64 ((rd_T45 l0 x51_4).f0), .int .i64 ((rd_T45 l0 x51_4).f1), .int .i64 ((rd_T45 l0 x51_4).f2), .int .i64 ((rd_T45 l0 x51_4).f3)] 45 (0, 0)) (by (with_reducible repeat (fail)); refine blk_put (cs := #[.int .i64 ((rd_T45 l0 x51_4).f0), .int .i64 ((rd_T45 l0 x51_4).f1), .int .i64 ((rd_T45 l0 x51_4).f2), .int .i64 0]) ?_ 3 _ rfl; (with_reducible repeat (fail)); refine blk_put (cs := #[.int .i64 ((rd_T45 l0 x51_4).f0), .int .i64 ((rd_T45 l0 x51_4).f1), .int .i64 0, .int .i64 0]) ?_ 2 _ rfl; (with_reducible repeat (fail)); refine blk_put (cs := #[.int .i64 ((rd_T45 l0 x51_4).f0), .int .i64 0, .int .i64 0, .int .i64 0]) ?_ 1 _ rfl; (with_reducible repeat (fail)); refine blk_put (cs := #[.int .i64 0, .int .i64 0, .int .i64 0, .int .i64 0]) ?_ 0 _ rfl; (with_reducible repeat (fail)); exact BK123.out) hg (Kd.R_ne HO_15.out BK123.out (by decide))); have n4_ := Aside0.mk (hb); have n5_ := Aside0.mk (ho); clear HO_7; clear HO_8; clear BK121; clear BK123; clear HB; clear HO_15; have HO_7 := n0_; have HO_8 := n1_; have BK121 := n2_; have BK123 := n3_; have HB := n4_; have HO127 := n5_; clear n0_ n1_ n2_ n3_ n4_ n5_; clear ho hb hg hat))
                       go_roundg k4
                       case measure => have := HK1.out; have := HK2.out; have := HK3.out; have := HK4.out; omega
                       case rel => exact ⟨(y125), (wrap64 (x51_4 + 1)), (by rfl), H', ⟨by have := HK1.out; have := HK2.out; have := HK3.out; have := HK4.out; omega⟩, ⟨by (with_reducible repeat (fail)); exact HO_7.out⟩, ⟨by (with_reducible repeat (fail)); exact Kd.R_mono HO_8.out (fun _ hk => hk.2)⟩, ⟨by (with_reducible repeat (fail)); exact HO127.out⟩, ⟨by (with_reducible repeat (fail)); exact BK121.out⟩, ⟨by repeat ((with_reducible exact HB.out))⟩⟩
                      ·rw [if_neg c32] at H
                       exact absurd H (by simp)
                     ·rw [if_neg c31] at H
                      have c31b0 : decide (0 < (rd x8_3 x51_4)) = false := decide_eq_false c31
                      clear c31
                      have H' := Aside0.mk H
                      clear H
                      have p122 : 0 ≤ (x51_4 : Int) := of_decide_eq_true (by (with_reducible assumption))
                      have q122 : x51_4 < (l0.length : Int) := of_decide_eq_true (by (with_reducible assumption))
                      obtain ⟨ad122, e122, hx122_0, hx122_1, hx122_2, hx122_3⟩ := at_T45 HR0.out x51_4 p122 q122
                      cases e122
                      replace hx122_0 := (HB.out.cell (World.block_lt_of_cell? w _ hx122_0)).trans hx122_0
                      replace hx122_1 := (HB.out.cell (World.block_lt_of_cell? w _ hx122_1)).trans hx122_1
                      replace hx122_2 := (HB.out.cell (World.block_lt_of_cell? w _ hx122_2)).trans hx122_2
                      replace hx122_3 := (HB.out.cell (World.block_lt_of_cell? w _ hx122_3)).trans hx122_3
                      replace p122 := eq_true p122
                      replace q122 := eq_true q122
                      go_wp2_with (((with_reducible refine gate_dst (N := 17) rfl ?_); refine box_event ?hg (N := 17) ?hd (cs := #[.int .i64 0, .int .i64 0, .int .i64 0, .int .i64 0]) (t := 45) ?hr ?_; (case hd => rfl); (case hg => rfl); (case hr => (go_simp; done)); intro gb123 hg w38 hbox hb; have n0_ := Aside0.mk (Kd.R_below (by (with_reducible repeat (fail)); exact HO_7.out) hb); have n1_ := Aside0.mk (Kd.R_below (by (with_reducible repeat (fail)); exact HO_8.out) hb); have n2_ := Aside0.mk (Kd.R_below (by (with_reducible repeat (fail)); exact HO_15.out) hb); have n3_ := Aside0.mk (blk_below (g := gb121) (o := .cells #[.int .i64 ((rd_T47 l1 x37_2).f0), .int .i64 ((rd_T47 l1 x37_2).f1)] 47 (0, 0)) (by (with_reducible repeat (fail)); exact BK121.out) hb); have n4_ := Aside0.mk (below_step (by repeat ((with_reducible exact HB.out))) hb); have n5_ := Aside0.mk (hbox); have n6_ := Aside0.mk ((by rw [hg]; exact (below_size (by repeat ((with_reducible exact HB.out)))) : w.heap.size ≤ gb123)); have n7_ := Aside0.mk ((by rw [hg]; exact (below_size (by repeat ((with_reducible exact HB.out)))) : w.heap.size ≤ gb123)); have n8_ := Aside0.mk ((by rw [hg]; exact Nat.ne_of_lt (blk_lt (g := gb121) (o := .cells #[.int .i64 ((rd_T47 l1 x37_2).f0), .int .i64 ((rd_T47 l1 x37_2).f1)] 47 (0, 0)) (by (with_reducible repeat (fail)); exact BK121.out)) : gb121 ≠ gb123)); have n9_ := Aside0.mk ((by rw [hg]; exact Nat.ne_of_gt (blk_lt (g := gb121) (o := .cells #[.int .i64 ((rd_T47 l1 x37_2).f0), .int .i64 ((rd_T47 l1 x37_2).f1)] 47 (0, 0)) (by (with_reducible repeat (fail)); exact BK121.out)) : gb123 ≠ gb121)); clear HO_7; clear HO_8; clear HO_15; clear BK121; clear HB; have HO_7 := n0_; have HO_8 := n1_; have HO_15 := n2_; have BK121 := n3_; have HB := n4_; have BK123 := n5_; have GW123 := n6_; have GE123 := n7_; have NB121_123 := n8_; have NB123_121 := n9_; clear n0_ n1_ n2_ n3_ n4_ n5_ n6_ n7_ n8_ n9_; clear hb hbox hg; have hnb39 := NB123_121.out; have hnc39 := NB121_123.out; have hcz40_0 : w38.cell? ⟨gb123, 0, none⟩ = some (.int .i64 0) := (blk_cell BK123.out 0).trans rfl; have hcz40_1 : w38.cell? ⟨gb123, 1, none⟩ = some (.int .i64 0) := (blk_cell BK123.out 1).trans rfl; have hcz40_2 : w38.cell? ⟨gb123, 2, none⟩ = some (.int .i64 0) := (blk_cell BK123.out 2).trans rfl; have hcz40_3 : w38.cell? ⟨gb123, 3, none⟩ = some (.int .i64 0) := (blk_cell BK123.out 3).trans rfl; have hfz40_0 := blk_frozen BK123.out 0; have hfz40_1 := blk_frozen BK123.out 1; have hfz40_2 := blk_frozen BK123.out 2; have hfz40_3 := blk_frozen BK123.out 3; obtain ⟨Ao41, co41, eo41⟩ := Kd.R_slice HO_8.out; subst eo41; have p124 : 0 ≤ (x51_4 : Int) := of_decide_eq_true (by (with_reducible assumption)); have q124 : x51_4 < (x8_3.length : Int) := of_decide_eq_true (by (with_reducible assumption)); obtain ⟨ad124, e124, hx124_0⟩ := Kd.at_int (Kd.R_reads' HO_8.out).2.2 x51_4 p124 q124; cases e124; have hn124_0 : ad124.block ≠ gb123 := Kd.own_blk (Kd.R_ne HO_8.out BK123.out (by decide)); have hn124_1 : ad124.block ≠ gb123 := Kd.own_blk (Kd.R_ne HO_8.out BK123.out (by decide)); have hn124_2 : ad124.block ≠ gb123 := Kd.own_blk (Kd.R_ne HO_8.out BK123.out (by decide)); have hn124_3 : ad124.block ≠ gb123 := Kd.own_blk (Kd.R_ne HO_8.out BK123.out (by decide)); replace hx124_0 := (cell_far (p := ⟨gb123, 0, none⟩) (by (rw [add_block]; exact hn124_0)) (.int .i64 ((rd_T45 l0 x51_4).f0))).trans hx124_0; replace hx124_0 := (cell_far (p := ⟨gb123, 1, none⟩) (by (rw [add_block]; exact hn124_1)) (.int .i64 ((rd_T45 l0 x51_4).f1))).trans hx124_0; replace hx124_0 := (cell_far (p := ⟨gb123, 2, none⟩) (by (rw [add_block]; exact hn124_2)) (.int .i64 ((rd_T45 l0 x51_4).f2))).trans hx124_0; replace hx124_0 := (cell_far (p := ⟨gb123, 3, none⟩) (by (rw [add_block]; exact hn124_3)) (.int .i64 ((rd_T45 l0 x51_4).f3))).trans hx124_0; clear hn124_0; clear hn124_1; clear hn124_2; clear hn124_3; replace p124 := eq_true p124; replace q124 := eq_true q124))
                      go_roundg k4
                      case measure => have := HK1.out; have := HK2.out; have := HK3.out; have := HK4.out; omega
                      case rel => exact ⟨(x15_4), (wrap64 (x51_4 + 1)), (by rfl), H', ⟨by have := HK1.out; have := HK2.out; have := HK3.out; have := HK4.out; omega⟩, ⟨by (with_reducible repeat (fail)); exact Kd.R_mono (Kd.R_far (p := ⟨gb123, 3, none⟩) (Kd.R_far (p := ⟨gb123, 2, none⟩) (Kd.R_far (p := ⟨gb123, 1, none⟩) (Kd.R_far (p := ⟨gb123, 0, none⟩) (Kd.R_types HO_7.out BK123.out (by decide)) (fun _ hk => hk.2) (.int .i64 ((rd_T45 l0 x51_4).f0))) (fun _ hk => hk.2) (.int .i64 ((rd_T45 l0 x51_4).f1))) (fun _ hk => hk.2) (.int .i64 ((rd_T45 l0 x51_4).f2))) (fun _ hk => hk.2) (.int .i64 ((rd_T45 l0 x51_4).f3))) (fun _ hk => trivial)⟩, ⟨by (with_reducible repeat (fail)); exact Kd.R_mono (Kd.R_far (p := ⟨gb123, 3, none⟩) (Kd.R_far (p := ⟨gb123, 2, none⟩) (Kd.R_far (p := ⟨gb123, 1, none⟩) (Kd.R_far (p := ⟨gb123, 0, none⟩) (Kd.R_types HO_8.out BK123.out (by decide)) (fun _ hk => hk.2) (.int .i64 ((rd_T45 l0 x51_4).f0))) (fun _ hk => hk.2) (.int .i64 ((rd_T45 l0 x51_4).f1))) (fun _ hk => hk.2) (.int .i64 ((rd_T45 l0 x51_4).f2))) (fun _ hk => hk.2) (.int .i64 ((rd_T45 l0 x51_4).f3))) (fun _ hk => hk.1)⟩, ⟨by (with_reducible repeat (fail)); exact Kd.R_mono (Kd.R_far (p := ⟨gb123, 3, none⟩) (Kd.R_far (p := ⟨gb123, 2, none⟩) (Kd.R_far (p := ⟨gb123, 1, none⟩) (Kd.R_far (p := ⟨gb123, 0, none⟩) (Kd.R_types HO_15.out BK123.out (by decide)) (fun _ hk => hk.2) (.int .i64 ((rd_T45 l0 x51_4).f0))) (fun _ hk => hk.2) (.int .i64 ((rd_T45 l0 x51_4).f1))) (fun _ hk => hk.2) (.int .i64 ((rd_T45 l0 x51_4).f2))) (fun _ hk => hk.2) (.int .i64 ((rd_T45 l0 x51_4).f3))) (fun _ hk => hk.1)⟩, ⟨by (with_reducible repeat (fail)); refine blk_far ?_ NB121_123.out _; (with_reducible repeat (fail)); refine blk_far ?_ NB121_123.out _; (with_reducible repeat (fail)); refine blk_far ?_ NB121_123.out _; (with_reducible repeat (fail)); refine blk_far ?_ NB121_123.out _; (with_reducible repeat (fail)); exact BK121.out⟩, ⟨by repeat ((with_reducible first | exact HB.out | refine below_set ?_ GE123.out))⟩⟩
                    ·rw [if_neg c30] at H
                     exact absurd H (by simp)
                   ·rw [if_neg c29] at H
                    have c29b0 : decide (((rd_T45 l0 x51_4).f1) ≤ x14_3) = false := decide_eq_false c29
                    clear c29
                    have H' := Aside0.mk H
                    clear H
                    have p122 : 0 ≤ (x51_4 : Int) := of_decide_eq_true (by (with_reducible assumption))
                    have q122 : x51_4 < (l0.length : Int) := of_decide_eq_true (by (with_reducible assumption))
                    obtain ⟨ad122, e122, hx122_0, hx122_1, hx122_2, hx122_3⟩ := at_T45 HR0.out x51_4 p122 q122
                    cases e122
                    replace hx122_0 := (HB.out.cell (World.block_lt_of_cell? w _ hx122_0)).trans hx122_0
                    replace hx122_1 := (HB.out.cell (World.block_lt_of_cell? w _ hx122_1)).trans hx122_1
                    replace hx122_2 := (HB.out.cell (World.block_lt_of_cell? w _ hx122_2)).trans hx122_2
                    replace hx122_3 := (HB.out.cell (World.block_lt_of_cell? w _ hx122_3)).trans hx122_3
                    replace p122 := eq_true p122
                    replace q122 := eq_true q122
                    go_wp2_with (((with_reducible refine gate_dst (N := 17) rfl ?_); refine box_event ?hg (N := 17) ?hd (cs := #[.int .i64 0, .int .i64 0, .int .i64 0, .int .i64 0]) (t := 45) ?hr ?_; (case hd => rfl); (case hg => rfl); (case hr => (go_simp; done)); intro gb123 hg w42 hbox hb; have n0_ := Aside0.mk (Kd.R_below (by (with_reducible repeat (fail)); exact HO_7.out) hb); have n1_ := Aside0.mk (Kd.R_below (by (with_reducible repeat (fail)); exact HO_8.out) hb); have n2_ := Aside0.mk (Kd.R_below (by (with_reducible repeat (fail)); exact HO_15.out) hb); have n3_ := Aside0.mk (blk_below (g := gb121) (o := .cells #[.int .i64 ((rd_T47 l1 x37_2).f0), .int .i64 ((rd_T47 l1 x37_2).f1)] 47 (0, 0)) (by (with_reducible repeat (fail)); exact BK121.out) hb); have n4_ := Aside0.mk (below_step (by repeat ((with_reducible exact HB.out))) hb); have n5_ := Aside0.mk (hbox); have n6_ := Aside0.mk ((by rw [hg]; exact (below_size (by repeat ((with_reducible exact HB.out)))) : w.heap.size ≤ gb123)); have n7_ := Aside0.mk ((by rw [hg]; exact (below_size (by repeat ((with_reducible exact HB.out)))) : w.heap.size ≤ gb123)); have n8_ := Aside0.mk ((by rw [hg]; exact Nat.ne_of_lt (blk_lt (g := gb121) (o := .cells #[.int .i64 ((rd_T47 l1 x37_2).f0), .int .i64 ((rd_T47 l1 x37_2).f1)] 47 (0, 0)) (by (with_reducible repeat (fail)); exact BK121.out)) : gb121 ≠ gb123)); have n9_ := Aside0.mk ((by rw [hg]; exact Nat.ne_of_gt (blk_lt (g := gb121) (o := .cells #[.int .i64 ((rd_T47 l1 x37_2).f0), .int .i64 ((rd_T47 l1 x37_2).f1)] 47 (0, 0)) (by (with_reducible repeat (fail)); exact BK121.out)) : gb123 ≠ gb121)); clear HO_7; clear HO_8; clear HO_15; clear BK121; clear HB; have HO_7 := n0_; have HO_8 := n1_; have HO_15 := n2_; have BK121 := n3_; have HB := n4_; have BK123 := n5_; have GW123 := n6_; have GE123 := n7_; have NB121_123 := n8_; have NB123_121 := n9_; clear n0_ n1_ n2_ n3_ n4_ n5_ n6_ n7_ n8_ n9_; clear hb hbox hg; have hnb43 := NB123_121.out; have hnc43 := NB121_123.out; have hcz44_0 : w42.cell? ⟨gb123, 0, none⟩ = some (.int .i64 0) := (blk_cell BK123.out 0).trans rfl; have hcz44_1 : w42.cell? ⟨gb123, 1, none⟩ = some (.int .i64 0) := (blk_cell BK123.out 1).trans rfl; have hcz44_2 : w42.cell? ⟨gb123, 2, none⟩ = some (.int .i64 0) := (blk_cell BK123.out 2).trans rfl; have hcz44_3 : w42.cell? ⟨gb123, 3, none⟩ = some (.int .i64 0) := (blk_cell BK123.out 3).trans rfl; have hfz44_0 := blk_frozen BK123.out 0; have hfz44_1 := blk_frozen BK123.out 1; have hfz44_2 := blk_frozen BK123.out 2; have hfz44_3 := blk_frozen BK123.out 3))
                    go_roundg k4
                    case measure => have := HK1.out; have := HK2.out; have := HK3.out; have := HK4.out; omega
                    case rel => exact ⟨(x15_4), (wrap64 (x51_4 + 1)), (by rfl), H', ⟨by have := HK1.out; have := HK2.out; have := HK3.out; have := HK4.out; omega⟩, ⟨by (with_reducible repeat (fail)); exact Kd.R_mono (Kd.R_far (p := ⟨gb123, 3, none⟩) (Kd.R_far (p := ⟨gb123, 2, none⟩) (Kd.R_far (p := ⟨gb123, 1, none⟩) (Kd.R_far (p := ⟨gb123, 0, none⟩) (Kd.R_types HO_7.out BK123.out (by decide)) (fun _ hk => hk.2) (.int .i64 ((rd_T45 l0 x51_4).f0))) (fun _ hk => hk.2) (.int .i64 ((rd_T45 l0 x51_4).f1))) (fun _ hk => hk.2) (.int .i64 ((rd_T45 l0 x51_4).f2))) (fun _ hk => hk.2) (.int .i64 ((rd_T45 l0 x51_4).f3))) (fun _ hk => trivial)⟩, ⟨by (with_reducible repeat (fail)); exact Kd.R_mono (Kd.R_far (p := ⟨gb123, 3, none⟩) (Kd.R_far (p := ⟨gb123, 2, none⟩) (Kd.R_far (p := ⟨gb123, 1, none⟩) (Kd.R_far (p := ⟨gb123, 0, none⟩) (Kd.R_types HO_8.out BK123.out (by decide)) (fun _ hk => hk.2) (.int .i64 ((rd_T45 l0 x51_4).f0))) (fun _ hk => hk.2) (.int .i64 ((rd_T45 l0 x51_4).f1))) (fun _ hk => hk.2) (.int .i64 ((rd_T45 l0 x51_4).f2))) (fun _ hk => hk.2) (.int .i64 ((rd_T45 l0 x51_4).f3))) (fun _ hk => hk.1)⟩, ⟨by (with_reducible repeat (fail)); exact Kd.R_mono (Kd.R_far (p := ⟨gb123, 3, none⟩) (Kd.R_far (p := ⟨gb123, 2, none⟩) (Kd.R_far (p := ⟨gb123, 1, none⟩) (Kd.R_far (p := ⟨gb123, 0, none⟩) (Kd.R_types HO_15.out BK123.out (by decide)) (fun _ hk => hk.2) (.int .i64 ((rd_T45 l0 x51_4).f0))) (fun _ hk => hk.2) (.int .i64 ((rd_T45 l0 x51_4).f1))) (fun _ hk => hk.2) (.int .i64 ((rd_T45 l0 x51_4).f2))) (fun _ hk => hk.2) (.int .i64 ((rd_T45 l0 x51_4).f3))) (fun _ hk => hk.1)⟩, ⟨by (with_reducible repeat (fail)); refine blk_far ?_ NB121_123.out _; (with_reducible repeat (fail)); refine blk_far ?_ NB121_123.out _; (with_reducible repeat (fail)); refine blk_far ?_ NB121_123.out _; (with_reducible repeat (fail)); refine blk_far ?_ NB121_123.out _; (with_reducible repeat (fail)); exact BK121.out⟩, ⟨by repeat ((with_reducible first | exact HB.out | refine below_set ?_ GE123.out))⟩⟩
                  ·rw [if_neg c28] at H
                   exact absurd H (by simp)
                 ·rw [if_neg c27] at H
                  exact absurd H (by simp)
                ·rw [if_neg c26] at H
                 have c26b0 : decide (x51_4 < (l0.length : Int)) = false := decide_eq_false c26
                 clear c26
                 by_cases c45 : x11_3 < (l2.length : Int)
                 ·rw [if_pos c45] at H
                  have c45b0 : decide (x11_3 < (l2.length : Int)) = true := decide_eq_true c45
                  clear c45
                  by_cases c46 : 0 ≤ x11_3
                  ·rw [if_pos c46] at H
                   have c46b0 : decide (0 ≤ x11_3) = true := decide_eq_true c46
                   clear c46
                   by_cases c47 : (wrap64 ((x15_4.length : Int) + 1)) = 0
                   ·rw [if_pos c47] at H
                    exact absurd H (by simp)
                   ·rw [if_neg c47] at H
                    have c47b0 : ((wrap64 ((x15_4.length : Int) + 1)) == 0) = false := beq_eq_false_iff_ne.mpr c47
                    have c47b1 : ((wrap64 ((x15_4.length : Int) + 1)) != 0) = true := bne_iff_ne.mpr c47
                    by_cases c48 : (Int.tmod (wrap64 (rd l2 x11_3)) (wrap64 ((x15_4.length : Int) + 1))) = (x15_4.length : Int)
                    ·rw [if_pos c48] at H
                     have c48b0 : ((Int.tmod (wrap64 (rd l2 x11_3)) (wrap64 ((x15_4.length : Int) + 1))) == (x15_4.length : Int)) = true := beq_iff_eq.mpr c48
                     have c48b1 : ((Int.tmod (wrap64 (rd l2 x11_3)) (wrap64 ((x15_4.length : Int) + 1))) != (x15_4.length : Int)) = false := bne_eq_false_iff_eq.mpr c48
                     clear c48
                     have H' := Aside0.mk H
                     clear H
                     have p128 : 0 ≤ (x11_3 : Int) := of_decide_eq_true (by (with_reducible assumption))
                     have q128 : x11_3 < (l2.length : Int) := of_decide_eq_true (by (with_reducible assumption))
                     obtain ⟨ad128, e128, hx128_0⟩ := Kd.at_int HR2.out x11_3 p128 q128
                     cases e128
                     replace hx128_0 := (HB.out.cell (World.block_lt_of_cell? w _ hx128_0)).trans hx128_0
                     replace p128 := eq_true p128
                     replace q128 := eq_true q128
                     obtain ⟨Ao49, co49, eo49⟩ := Kd.R_slice HO_15.out
                     subst eo49
                     go_wp2
                     go_roundg k4
                     case measure => have := HK1.out; have := HK2.out; have := HK3.out; have := HK4.out; omega
                     case rel => exact ⟨(x7_3), (x8_3), (wrap64 (x11_3 + 1)), (wrap64 (x14_3 + 1)), (by rfl), (by rfl), H', ⟨by have := HK1.out; have := HK2.out; have := HK3.out; have := HK4.out; omega⟩, ⟨by (with_reducible repeat (fail)); exact HO_7.out⟩, ⟨by (with_reducible repeat (fail)); exact Kd.R_mono HO_8.out (fun _ hk => trivial)⟩, ⟨by (with_reducible repeat (fail)); exact BK121.out⟩, ⟨by repeat ((with_reducible exact HB.out))⟩⟩
                    ·rw [if_neg c48] at H
                     have c48b0 : ((Int.tmod (wrap64 (rd l2 x11_3)) (wrap64 ((x15_4.length : Int) + 1))) == (x15_4.length : Int)) = false := beq_eq_false_iff_ne.mpr c48
                     have c48b1 : ((Int.tmod (wrap64 (rd l2 x11_3)) (wrap64 ((x15_4.length : Int) + 1))) != (x15_4.length : Int)) = true := bne_iff_ne.mpr c48
                     obtain ⟨ji50, hji50⟩ : ∃ j_ : Int, (Int.tmod (wrap64 (rd l2 x11_3)) (wrap64 ((x15_4.length : Int) + 1))) = j_ := ⟨_, rfl⟩
                     replace H : (if 0 ≤ (ji50) then (if (ji50) < (x15_4.length : Int) then (if 0 ≤ (rd x15_4 (ji50)) then (if (rd x15_4 (ji50)) < (x8_3.length : Int) then (if (rd x15_4 (ji50)) < (l0.length : Int) then (if x7_3.length < 5864062014805 then (letterbaglaw30_other.l2 k4 l0 l2 (x7_3 ++ [(⟨(rd_T45 l0 (rd x15_4 (ji50))).f0, x14_3, wrap64 (x14_3 + 1)⟩ : S51)]) (x8_3.set ((rd x15_4 (ji50)) : Int).toNat (wrap64 ((rd x8_3 (rd x15_4 (ji50))) - 1))) (wrap64 (x11_3 + 1)) (wrap64 (x14_3 + 1)) l1 (l1.length : Int) x37_2 ((rd_T47 l1 x37_2).f0) ((rd_T47 l1 x37_2).f1)) else (none)) else (none)) else (none)) else (none)) else (none)) else (none)) = some r := by (rw [hji50] at H; exact H)
                     (try rw [hji50] at c48b0)
                     (try rw [hji50] at c48b1)
                     by_cases c51 : 0 ≤ (ji50)
                     ·rw [if_pos c51] at H
                      have c51b0 : decide (0 ≤ (ji50)) = true := decide_eq_true c51
                      clear c51
                      by_cases c52 : (ji50) < (x15_4.length : Int)
                      ·rw [if_pos c52] at H
                       have c52b0 : decide ((ji50) < (x15_4.length : Int)) = true := decide_eq_true c52
                       clear c52
                       by_cases c53 : 0 ≤ (rd x15_4 (ji50))
                       ·rw [if_pos c53] at H
                        have c53b0 : decide (0 ≤ (rd x15_4 (ji50))) = true := decide_eq_true c53
                        clear c53
                        by_cases c54 : (rd x15_4 (ji50)) < (x8_3.length : Int)
                        ·rw [if_pos c54] at H
                         have c54b0 : decide ((rd x15_4 (ji50)) < (x8_3.length : Int)) = true := decide_eq_true c54
                         clear c54
                         obtain ⟨y131, hy131⟩ : ∃ y_ : List Int, y_ = (x8_3.set ((rd x15_4 (ji50)) : Int).toNat (wrap64 ((rd x8_3 (rd x15_4 (ji50))) - 1))) := ⟨_, rfl⟩
                         replace H : (if (rd x15_4 (ji50)) < (l0.length : Int) then (if x7_3.length < 5864062014805 then (letterbaglaw30_other.l2 k4 l0 l2 (x7_3 ++ [(⟨(rd_T45 l0 (rd x15_4 (ji50))).f0, x14_3, wrap64 (x14_3 + 1)⟩ : S51)]) y131 (wrap64 (x11_3 + 1)) (wrap64 (x14_3 + 1)) l1 (l1.length : Int) x37_2 ((rd_T47 l1 x37_2).f0) ((rd_T47 l1 x37_2).f1)) else (none)) else (none)) = some r := by (rw [hy131]; with_reducible exact H)
                         have Ny131 := Aside0.mk hy131
                         clear hy131
                         by_cases c56 : (rd x15_4 (ji50)) < (l0.length : Int)
                         ·rw [if_pos c56] at H
                          have c56b0 : decide ((rd x15_4 (ji50)) < (l0.length : Int)) = true := decide_eq_true c56
                          clear c56
                          by_cases c57 : x7_3.length < 5864062014805
                          ·rw [if_pos c57] at H
                           have LMc57 := Aside0.mk c57
                           clear c57
                           obtain ⟨y134, hy134⟩ : ∃ y_ : List (S51), y_ = (x7_3 ++ [(⟨(rd_T45 l0 (rd x15_4 (ji50))).f0, x14_3, wrap64 (x14_3 + 1)⟩ : S51)]) := ⟨_, rfl⟩
                           replace H : (letterbaglaw30_other.l2 k4 l0 l2 y134 y131 (wrap64 (x11_3 + 1)) (wrap64 (x14_3 + 1)) l1 (l1.length : Int) x37_2 ((rd_T47 l1 x37_2).f0) ((rd_T47 l1 x37_2).f1)) = some r := by (rw [hy134]; with_reducible exact H)
                           have Ny134 := Aside0.mk hy134
                           clear hy134
                           have H' := Aside0.mk H
                           clear H
                           have p128 : 0 ≤ (x11_3 : Int) := of_decide_eq_true (by (with_reducible assumption))
                           have q128 : x11_3 < (l2.length : Int) := of_decide_eq_true (by (with_reducible assumption))
                           obtain ⟨ad128, e128, hx128_0⟩ := Kd.at_int HR2.out x11_3 p128 q128
                           cases e128
                           replace hx128_0 := (HB.out.cell (World.block_lt_of_cell? w _ hx128_0)).trans hx128_0
                           replace p128 := eq_true p128
                           replace q128 := eq_true q128
                           obtain ⟨Ao58, co58, eo58⟩ := Kd.R_slice HO_15.out
                           subst eo58
                           have p129 : 0 ≤ ((ji50) : Int) := of_decide_eq_true (by (with_reducible assumption))
                           have q129 : (ji50) < (x15_4.length : Int) := of_decide_eq_true (by (with_reducible assumption))
                           obtain ⟨ad129, e129, hx129_0⟩ := Kd.at_int (Kd.R_reads' HO_15.out).2.2 (ji50) p129 q129
                           cases e129
                           replace p129 := eq_true p129
                           replace q129 := eq_true q129
                           obtain ⟨Ao59, co59, eo59⟩ := Kd.R_slice HO_8.out
                           subst eo59
                           have p130 : 0 ≤ ((rd x15_4 (ji50)) : Int) := of_decide_eq_true (by (with_reducible assumption))
                           have q130 : (rd x15_4 (ji50)) < (x8_3.length : Int) := of_decide_eq_true (by (with_reducible assumption))
                           obtain ⟨ad130, e130, hx130_0⟩ := Kd.at_int (Kd.R_reads' HO_8.out).2.2 (rd x15_4 (ji50)) p130 q130
                           cases e130
                           replace p130 := eq_true p130
                           replace q130 := eq_true q130
                           have p55 : 0 ≤ ((rd x15_4 (ji50)) : Int) := of_decide_eq_true (by (with_reducible assumption))
                           have q55 : ((rd x15_4 (ji50)) : Int) < ((x8_3.length : Int) : Int) := of_decide_eq_true (by (with_reducible assumption))
                           obtain ⟨go55, co55, eo55, gb55, gl55, cl55, HG55⟩ := Kd.R_form HO_8.out (by omega)
                           (cases eo55)
                           have GB55 := Aside0.mk gb55
                           have GG55 := Aside0.mk HG55
                           clear gb55 gl55 HG55
                           (simp only [add_plain] at hx130_0)
                           obtain ⟨hx55_0, hf55_0⟩ := Kd.R_celln 0 HO_8.out ((rd x15_4 (ji50)) : Int) p55 q55
                           replace p55 := eq_true p55
                           replace q55 := eq_true q55
                           have HP60 := Kd.R_putg HO_8.out ((rd x15_4 (ji50)) : Int) (wrap64 ((rd x8_3 (rd x15_4 (ji50))) - 1))
                           go_wp2_with (first | ((with_reducible refine gate_store (t := 3) (p := 99) rfl ?_); refine store_event (t := 3) (p := 99) (v := ?vo_w61) (w1 := (wr.setCell ⟨go55, ((rd x15_4 (ji50)) : Int).toNat, none⟩ (.int .i64 (wrap64 ((rd x8_3 (rd x15_4 (ji50))) - 1))))) ?hg ?ho ?hn ?hr ?_; (case ho => rfl); (case hg => rfl); (case hn => rfl); (case hr => (go_simp; done)); intro w61 hw; have hg : wr.grownBy w61 (some go55) := (by rw [hw]; exact HP60.2); have hp_ : Kd.R (Kd.int .i64) 3 w61 w.heap.size (fun k_ => some k_ ≠ (.slice (some ad129) x15_4.length co58 : Value).ownBlock) (.slice (some ⟨go55, 0, none⟩) x8_3.length co59) y131 := (by rw [hw, Ny131.out]; exact HP60.1); clear HP60; have n0_ := Aside0.mk (Kd.R_over' (v := (.slice (some ⟨go55, 0, none⟩) x8_3.length co59)) (by (with_reducible repeat (fail)); exact HO_7.out) (Kd.R_typed HO_8.out) (by decide) hg); have n1_ := Aside0.mk (hp_); have n2_ := Aside0.mk (Kd.R_after (v := (.slice (some ⟨go55, 0, none⟩) x8_3.length co59)) (v1 := (.slice (some ⟨go55, 0, none⟩) x8_3.length co59)) (ok := (fun _ => True)) (by (with_reducible repeat (fail)); exact Kd.R_mono HO_15.out (fun _ hk => ⟨trivial, hk⟩)) hg (.inl rfl)); have n3_ := Aside0.mk (blk_grown (g := gb121) (o := .cells #[.int .i64 ((rd_T47 l1 x37_2).f0), .int .i64 ((rd_T47 l1 x37_2).f1)] 47 (0, 0)) (by (with_reducible repeat (fail)); exact BK121.out) hg (Kd.R_ne HO_8.out BK121.out (by decide))); have n4_ := Aside0.mk ((by rw [hw]; exact below_set (HB.out) GB55.out : Below w.heap.size w w61)); clear HO_7; clear HO_8; clear HO_15; clear BK121; clear HB; have HO_7 := n0_; have HO_8 := n1_; have HO_15 := n2_; have BK121 := n3_; have HB := n4_; clear n0_ n1_ n2_ n3_ n4_; clear hg hw hp_; have p132 : 0 ≤ ((ji50) : Int) := of_decide_eq_true (by (with_reducible assumption)); have q132 : (ji50) < (x15_4.length : Int) := of_decide_eq_true (by (with_reducible assumption)); obtain ⟨ad132, e132, hx132_0⟩ := Kd.at_int (Kd.R_reads' HO_15.out).2.2 (ji50) p132 q132; obtain rfl : ad129 = ad132 := (by injection e132); replace p132 := eq_true p132; replace q132 := eq_true q132; have p133 : 0 ≤ ((rd x15_4 (ji50)) : Int) := of_decide_eq_true (by (with_reducible assumption)); have q133 : (rd x15_4 (ji50)) < (l0.length : Int) := of_decide_eq_true (by (with_reducible assumption)); obtain ⟨ad133, e133, hx133_0, hx133_1, hx133_2, hx133_3⟩ := at_T45 HR0.out (rd x15_4 (ji50)) p133 q133; cases e133; replace hx133_0 := (HB.out.cell (World.block_lt_of_cell? w _ hx133_0)).trans hx133_0; replace hx133_1 := (HB.out.cell (World.block_lt_of_cell? w _ hx133_1)).trans hx133_1; replace hx133_2 := (HB.out.cell (World.block_lt_of_cell? w _ hx133_2)).trans hx133_2; replace hx133_3 := (HB.out.cell (World.block_lt_of_cell? w _ hx133_3)).trans hx133_3; replace p133 := eq_true p133; replace q133 := eq_true q133) | ((with_reducible refine gate_builtin (b := .append) (xs := #[.tmp 100, .tmp 113]) rfl ?_); at_builtin; refine Kd.R_append k51 (w0 := w) w.heap.size rfl (.tmp 100) (.tmp 113) 29 51 (.agg #[(.int .i64 0), (.int .i64 0), (.int .i64 0)]) 24 rfl Try.underlying29 info51 rfl (by decide) (by omega) u7 x7_3 (⟨(rd_T45 l0 (rd x15_4 (ji50))).f0, x14_3, wrap64 (x14_3 + 1)⟩ : S51) [.int .i64 ((rd_T45 l0 (rd x15_4 (ji50))).f0), .int .i64 x14_3, .int .i64 (wrap64 (x14_3 + 1))] (fun _ => True) (fun _ => False) rfl rfl ?aP (fun _ hk => hk.elim) ?aF ?aO ?aB ?aS ?aL ?_; (case aP => exact k51_mkM _ _ _ (⟨(rd_T45 l0 (rd x15_4 (ji50))).f0, x14_3, wrap64 (x14_3 + 1)⟩ : S51)); (case aB => exact (by repeat ((with_reducible exact HB.out)))); (case aF => exact (fun _ _ => trivial)); (case aO => exact (by (with_reducible repeat (fail)); exact HO_7.out)); (case aS => exact (below_size (by repeat ((with_reducible exact HB.out))))); (case aL => have := LMc57.out; omega); intro v135 w62 ho hb hg hat; rw [← Ny134.out] at ho; have n0_ := Aside0.mk (Kd.R_over' (by (with_reducible repeat (fail)); exact HO_8.out) (Kd.R_typed (by (with_reducible repeat (fail)); exact HO_7.out)) (by decide) hg); have n1_ := Aside0.mk (Kd.R_over' (by (with_reducible repeat (fail)); exact HO_15.out) (Kd.R_typed (by (with_reducible repeat (fail)); exact HO_7.out)) (by decide) hg); have n2_ := Aside0.mk (blk_grown (g := gb121) (o := .cells #[.int .i64 ((rd_T47 l1 x37_2).f0), .int .i64 ((rd_T47 l1 x37_2).f1)] 47 (0, 0)) (by (with_reducible repeat (fail)); exact BK121.out) hg (Kd.R_ne HO_7.out BK121.out (by decide))); have n3_ := Aside0.mk (hb); have n4_ := Aside0.mk (ho); clear HO_8; clear HO_15; clear BK121; clear HB; clear HO_7; have HO_8 := n0_; have HO_15 := n1_; have BK121 := n2_; have HB := n3_; have HO136 := n4_; clear n0_ n1_ n2_ n3_ n4_; clear ho hb hg hat))
                           go_roundg k4
                           case measure => have := HK1.out; have := HK2.out; have := HK3.out; have := HK4.out; omega
                           case rel => exact ⟨(y134), (y131), (wrap64 (x11_3 + 1)), (wrap64 (x14_3 + 1)), (by rfl), (by rfl), H', ⟨by have := HK1.out; have := HK2.out; have := HK3.out; have := HK4.out; omega⟩, ⟨by (with_reducible repeat (fail)); exact HO136.out⟩, ⟨by (with_reducible repeat (fail)); exact Kd.R_mono HO_8.out (fun _ hk => trivial)⟩, ⟨by (with_reducible repeat (fail)); exact BK121.out⟩, ⟨by repeat ((with_reducible exact HB.out))⟩⟩
                          ·rw [if_neg c57] at H
                           exact absurd H (by simp)
                         ·rw [if_neg c56] at H
                          exact absurd H (by simp)
                        ·rw [if_neg c54] at H
                         exact absurd H (by simp)
                       ·rw [if_neg c53] at H
                        exact absurd H (by simp)
                      ·rw [if_neg c52] at H
                       exact absurd H (by simp)
                     ·rw [if_neg c51] at H
                      exact absurd H (by simp)
                  ·rw [if_neg c46] at H
                   exact absurd H (by simp)
                 ·rw [if_neg c45] at H
                  have c45b0 : decide (x11_3 < (l2.length : Int)) = false := decide_eq_false c45
                  clear c45
                  by_cases c63 : 0 = (x15_4.length : Int)
                  ·rw [if_pos c63] at H
                   have c63b0 : (0 == (x15_4.length : Int)) = true := beq_iff_eq.mpr c63
                   have c63b1 : (0 != (x15_4.length : Int)) = false := bne_eq_false_iff_eq.mpr c63
                   clear c63
                   have H' := Aside0.mk H
                   clear H
                   obtain ⟨Ao64, co64, eo64⟩ := Kd.R_slice HO_15.out
                   subst eo64
                   go_wp2
                   go_roundg k4
                   case measure => have := HK1.out; have := HK2.out; have := HK3.out; have := HK4.out; omega
                   case rel => exact ⟨(x7_3), (x8_3), (x11_3), (wrap64 (x14_3 + 1)), (by rfl), (by rfl), H', ⟨by have := HK1.out; have := HK2.out; have := HK3.out; have := HK4.out; omega⟩, ⟨by (with_reducible repeat (fail)); exact HO_7.out⟩, ⟨by (with_reducible repeat (fail)); exact Kd.R_mono HO_8.out (fun _ hk => trivial)⟩, ⟨by (with_reducible repeat (fail)); exact BK121.out⟩, ⟨by repeat ((with_reducible exact HB.out))⟩⟩
                  ·rw [if_neg c63] at H
                   have c63b0 : (0 == (x15_4.length : Int)) = false := beq_eq_false_iff_ne.mpr c63
                   have c63b1 : (0 != (x15_4.length : Int)) = true := bne_iff_ne.mpr c63
                   by_cases c65 : 0 < (x15_4.length : Int)
                   ·rw [if_pos c65] at H
                    have c65b0 : decide (0 < (x15_4.length : Int)) = true := decide_eq_true c65
                    have c65b1 : decide (0 < x15_4.length) = true := decide_eq_true (by omega)
                    clear c65
                    by_cases c66 : 0 ≤ (rd x15_4 0)
                    ·rw [if_pos c66] at H
                     have c66b0 : decide (0 ≤ (rd x15_4 0)) = true := decide_eq_true c66
                     clear c66
                     by_cases c67 : (rd x15_4 0) < (x8_3.length : Int)
                     ·rw [if_pos c67] at H
                      have c67b0 : decide ((rd x15_4 0) < (x8_3.length : Int)) = true := decide_eq_true c67
                      clear c67
                      obtain ⟨y139, hy139⟩ : ∃ y_ : List Int, y_ = (x8_3.set ((rd x15_4 0) : Int).toNat (wrap64 ((rd x8_3 (rd x15_4 0)) - 1))) := ⟨_, rfl⟩
                      replace H : (if (rd x15_4 0) < (l0.length : Int) then (if x7_3.length < 5864062014805 then (letterbaglaw30_other.l2 k4 l0 l2 (x7_3 ++ [(⟨(rd_T45 l0 (rd x15_4 0)).f0, x14_3, wrap64 (x14_3 + 1)⟩ : S51)]) y139 x11_3 (wrap64 (x14_3 + 1)) l1 (l1.length : Int) x37_2 ((rd_T47 l1 x37_2).f0) ((rd_T47 l1 x37_2).f1)) else (none)) else (none)) = some r := by (rw [hy139]; with_reducible exact H)
                      have Ny139 := Aside0.mk hy139
                      clear hy139
                      by_cases c69 : (rd x15_4 0) < (l0.length : Int)
                      ·rw [if_pos c69] at H
                       have c69b0 : decide ((rd x15_4 0) < (l0.length : Int)) = true := decide_eq_true c69
                       clear c69
                       by_cases c70 : x7_3.length < 5864062014805
                       ·rw [if_pos c70] at H
                        have LMc70 := Aside0.mk c70
                        clear c70
                        obtain ⟨y142, hy142⟩ : ∃ y_ : List (S51), y_ = (x7_3 ++ [(⟨(rd_T45 l0 (rd x15_4 0)).f0, x14_3, wrap64 (x14_3 + 1)⟩ : S51)]) := ⟨_, rfl⟩
                        replace H : (letterbaglaw30_other.l2 k4 l0 l2 y142 y139 x11_3 (wrap64 (x14_3 + 1)) l1 (l1.length : Int) x37_2 ((rd_T47 l1 x37_2).f0) ((rd_T47 l1 x37_2).f1)) = some r := by (rw [hy142]; with_reducible exact H)
                        have Ny142 := Aside0.mk hy142
                        clear hy142
                        have H' := Aside0.mk H
                        clear H
                        obtain ⟨Ao71, co71, eo71⟩ := Kd.R_slice HO_15.out
                        subst eo71
                        have p137 : 0 ≤ (0 : Int) := (by omega)
                        have q137 : 0 < (x15_4.length : Int) := of_decide_eq_true (by (with_reducible assumption))
                        obtain ⟨ad137, e137, hx137_0⟩ := Kd.at_int (Kd.R_reads' HO_15.out).2.2 0 p137 q137
                        cases e137
                        have qi137 : (0 < x15_4.length) = True := eq_true (by omega)
                        (try rw [show ((0 : Int)).toNat = 0 from rfl] at hx137_0)
                        (try rw [Addr.add_zero'] at hx137_0)
                        replace p137 := eq_true p137
                        replace q137 := eq_true q137
                        obtain ⟨Ao72, co72, eo72⟩ := Kd.R_slice HO_8.out
                        subst eo72
                        have p138 : 0 ≤ ((rd x15_4 0) : Int) := of_decide_eq_true (by (with_reducible assumption))
                        have q138 : (rd x15_4 0) < (x8_3.length : Int) := of_decide_eq_true (by (with_reducible assumption))
                        obtain ⟨ad138, e138, hx138_0⟩ := Kd.at_int (Kd.R_reads' HO_8.out).2.2 (rd x15_4 0) p138 q138
                        cases e138
                        replace p138 := eq_true p138
                        replace q138 := eq_true q138
                        have p68 : 0 ≤ ((rd x15_4 0) : Int) := of_decide_eq_true (by (with_reducible assumption))
                        have q68 : ((rd x15_4 0) : Int) < ((x8_3.length : Int) : Int) := of_decide_eq_true (by (with_reducible assumption))
                        obtain ⟨go68, co68, eo68, gb68, gl68, cl68, HG68⟩ := Kd.R_form HO_8.out (by omega)
                        (cases eo68)
                        have GB68 := Aside0.mk gb68
                        have GG68 := Aside0.mk HG68
                        clear gb68 gl68 HG68
                        (simp only [add_plain] at hx138_0)
                        obtain ⟨hx68_0, hf68_0⟩ := Kd.R_celln 0 HO_8.out ((rd x15_4 0) : Int) p68 q68
                        replace p68 := eq_true p68
                        replace q68 := eq_true q68
                        have HP73 := Kd.R_putg HO_8.out ((rd x15_4 0) : Int) (wrap64 ((rd x8_3 (rd x15_4 0)) - 1))
                        go_wp2_with (first | ((with_reducible refine gate_store (t := 3) (p := 99) rfl ?_); refine store_event (t := 3) (p := 99) (v := ?vo_w74) (w1 := (wr.setCell ⟨go68, ((rd x15_4 0) : Int).toNat, none⟩ (.int .i64 (wrap64 ((rd x8_3 (rd x15_4 0)) - 1))))) ?hg ?ho ?hn ?hr ?_; (case ho => rfl); (case hg => rfl); (case hn => rfl); (case hr => (go_simp; done)); intro w74 hw; have hg : wr.grownBy w74 (some go68) := (by rw [hw]; exact HP73.2); have hp_ : Kd.R (Kd.int .i64) 3 w74 w.heap.size (fun k_ => some k_ ≠ (.slice (some ad137) x15_4.length co71 : Value).ownBlock) (.slice (some ⟨go68, 0, none⟩) x8_3.length co72) y139 := (by rw [hw, Ny139.out]; exact HP73.1); clear HP73; have n0_ := Aside0.mk (Kd.R_over' (v := (.slice (some ⟨go68, 0, none⟩) x8_3.length co72)) (by (with_reducible repeat (fail)); exact HO_7.out) (Kd.R_typed HO_8.out) (by decide) hg); have n1_ := Aside0.mk (hp_); have n2_ := Aside0.mk (Kd.R_after (v := (.slice (some ⟨go68, 0, none⟩) x8_3.length co72)) (v1 := (.slice (some ⟨go68, 0, none⟩) x8_3.length co72)) (ok := (fun _ => True)) (by (with_reducible repeat (fail)); exact Kd.R_mono HO_15.out (fun _ hk => ⟨trivial, hk⟩)) hg (.inl rfl)); have n3_ := Aside0.mk (blk_grown (g := gb121) (o := .cells #[.int .i64 ((rd_T47 l1 x37_2).f0), .int .i64 ((rd_T47 l1 x37_2).f1)] 47 (0, 0)) (by (with_reducible repeat (fail)); exact BK121.out) hg (Kd.R_ne HO_8.out BK121.out (by decide))); have n4_ := Aside0.mk ((by rw [hw]; exact below_set (HB.out) GB68.out : Below w.heap.size w w74)); clear HO_7; clear HO_8; clear HO_15; clear BK121; clear HB; have HO_7 := n0_; have HO_8 := n1_; have HO_15 := n2_; have BK121 := n3_; have HB := n4_; clear n0_ n1_ n2_ n3_ n4_; clear hg hw hp_; have p140 : 0 ≤ (0 : Int) := (by omega); have q140 : 0 < (x15_4.length : Int) := of_decide_eq_true (by (with_reducible assumption)); obtain ⟨ad140, e140, hx140_0⟩ := Kd.at_int (Kd.R_reads' HO_15.out).2.2 0 p140 q140; obtain rfl : ad137 = ad140 := (by injection e140); have qi140 : (0 < x15_4.length) = True := eq_true (by omega); (try rw [show ((0 : Int)).toNat = 0 from rfl] at hx140_0); (try rw [Addr.add_zero'] at hx140_0); replace p140 := eq_true p140; replace q140 := eq_true q140; have p141 : 0 ≤ ((rd x15_4 0) : Int) := of_decide_eq_true (by (with_reducible assumption)); have q141 : (rd x15_4 0) < (l0.length : Int) := of_decide_eq_true (by (with_reducible assumption)); obtain ⟨ad141, e141, hx141_0, hx141_1, hx141_2, hx141_3⟩ := at_T45 HR0.out (rd x15_4 0) p141 q141; cases e141; replace hx141_0 := (HB.out.cell (World.block_lt_of_cell? w _ hx141_0)).trans hx141_0; replace hx141_1 := (HB.out.cell (World.block_lt_of_cell? w _ hx141_1)).trans hx141_1; replace hx141_2 := (HB.out.cell (World.block_lt_of_cell? w _ hx141_2)).trans hx141_2; replace hx141_3 := (HB.out.cell (World.block_lt_of_cell? w _ hx141_3)).trans hx141_3; replace p141 := eq_true p141; replace q141 := eq_true q141) | ((with_reducible refine gate_builtin (b := .append) (xs := #[.tmp 100, .tmp 113]) rfl ?_); at_builtin; refine Kd.R_append k51 (w0 := w) w.heap.size rfl (.tmp 100) (.tmp 113) 29 51 (.agg #[(.int .i64 0), (.int .i64 0), (.int .i64 0)]) 24 rfl Try.underlying29 info51 rfl (by decide) (by omega) u7 x7_3 (⟨(rd_T45 l0 (rd x15_4 0)).f0, x14_3, wrap64 (x14_3 + 1)⟩ : S51) [.int .i64 ((rd_T45 l0 (rd x15_4 0)).f0), .int .i64 x14_3, .int .i64 (wrap64 (x14_3 + 1))] (fun _ => True) (fun _ => False) rfl rfl ?aP (fun _ hk => hk.elim) ?aF ?aO ?aB ?aS ?aL ?_; (case aP => exact k51_mkM _ _ _ (⟨(rd_T45 l0 (rd x15_4 0)).f0, x14_3, wrap64 (x14_3 + 1)⟩ : S51)); (case aB => exact (by repeat ((with_reducible exact HB.out)))); (case aF => exact (fun _ _ => trivial)); (case aO => exact (by (with_reducible repeat (fail)); exact HO_7.out)); (case aS => exact (below_size (by repeat ((with_reducible exact HB.out))))); (case aL => have := LMc70.out; omega); intro v143 w75 ho hb hg hat; rw [← Ny142.out] at ho; have n0_ := Aside0.mk (Kd.R_over' (by (with_reducible repeat (fail)); exact HO_8.out) (Kd.R_typed (by (with_reducible repeat (fail)); exact HO_7.out)) (by decide) hg); have n1_ := Aside0.mk (Kd.R_over' (by (with_reducible repeat (fail)); exact HO_15.out) (Kd.R_typed (by (with_reducible repeat (fail)); exact HO_7.out)) (by decide) hg); have n2_ := Aside0.mk (blk_grown (g := gb121) (o := .cells #[.int .i64 ((rd_T47 l1 x37_2).f0), .int .i64 ((rd_T47 l1 x37_2).f1)] 47 (0, 0)) (by (with_reducible repeat (fail)); exact BK121.out) hg (Kd.R_ne HO_7.out BK121.out (by decide))); have n3_ := Aside0.mk (hb); have n4_ := Aside0.mk (ho); clear HO_8; clear HO_15; clear BK121; clear HB; clear HO_7; have HO_8 := n0_; have HO_15 := n1_; have BK121 := n2_; have HB := n3_; have HO144 := n4_; clear n0_ n1_ n2_ n3_ n4_; clear ho hb hg hat))
                        go_roundg k4
                        case measure => have := HK1.out; have := HK2.out; have := HK3.out; have := HK4.out; omega
                        case rel => exact ⟨(y142), (y139), (x11_3), (wrap64 (x14_3 + 1)), (by rfl), (by rfl), H', ⟨by have := HK1.out; have := HK2.out; have := HK3.out; have := HK4.out; omega⟩, ⟨by (with_reducible repeat (fail)); exact HO144.out⟩, ⟨by (with_reducible repeat (fail)); exact Kd.R_mono HO_8.out (fun _ hk => trivial)⟩, ⟨by (with_reducible repeat (fail)); exact BK121.out⟩, ⟨by repeat ((with_reducible exact HB.out))⟩⟩
                       ·rw [if_neg c70] at H
                        exact absurd H (by simp)
                      ·rw [if_neg c69] at H
                       exact absurd H (by simp)
                     ·rw [if_neg c67] at H
                      exact absurd H (by simp)
                    ·rw [if_neg c66] at H
                     exact absurd H (by simp)
                   ·rw [if_neg c65] at H
                    exact absurd H (by simp)
             ·rw [if_neg c24] at H
              have c24b0 : decide (x14_3 < ((rd_T47 l1 x37_2).f1)) = false := decide_eq_false c24
              clear c24
              have H' := Aside0.mk H
              clear H
              have hcz76_0 : wr.cell? ⟨gb121, 0, none⟩ = some (.int .i64 ((rd_T47 l1 x37_2).f0)) := (blk_cell BK121.out 0).trans rfl
              have hcz76_1 : wr.cell? ⟨gb121, 1, none⟩ = some (.int .i64 ((rd_T47 l1 x37_2).f1)) := (blk_cell BK121.out 1).trans rfl
              have hfz76_0 := blk_frozen BK121.out 0
              have hfz76_1 := blk_frozen BK121.out 1
              go_wp2
              go_roundg k3
              case measure => have := HK1.out; have := HK2.out; have := HK3.out; omega
              case rel => exact ⟨(x7_3), (x8_3), (x11_3), (wrap64 (x37_2 + 1)), (by rfl), (by rfl), H', ⟨by have := HK1.out; have := HK2.out; have := HK3.out; omega⟩, ⟨by (with_reducible repeat (fail)); exact HO_7.out⟩, ⟨by (with_reducible repeat (fail)); exact HO_8.out⟩, ⟨by repeat ((with_reducible exact HB.out))⟩⟩
          ·rw [if_neg c21] at H
           exact absurd H (by simp)
         ·rw [if_neg c20] at H
          exact absurd H (by simp)
        ·rw [if_neg c19] at H
         have c19b0 : decide (x37_2 < (l1.length : Int)) = false := decide_eq_false c19
         clear c19
         obtain rfl := Option.some.inj H
         go_wp2
         go_ret
         exact ⟨_, by rfl, by (with_reducible repeat (fail)); exact HO_7.out, by repeat ((with_reducible exact HB.out))⟩
  ·rw [if_neg c5] at H
   exact absurd H (by simp)
 ·rw [if_neg c4] at H
  exact absurd H (by simp)
end Go.Proofs.Ytbnjdlafnejanaa.Pr
namespace Go.Proofs.Ytbnjdlafnejanaa.Pr
open Go.RowKit Go.Proofs.YtbnjdlafnejanaaW.PrintWords Go.Proofs.YtbnjdlafnejanaaW.PrintLast Go.Proofs.YtbnjdlafnejanaaW.PrintMore
/-- The greatest difference of end and due date. -/
def worstX (m : Int) (e : Sh.Job → Int) : List Sh.Job → Int × Bool
  | [] => (m, true)
  | x :: l => if e x < 0 then (0, false) else worstX (max m (e x - x.due)) e l
theorem worst_l0 (l : List S45) (e : Sh.Job → Int) (hl : l.length ≤ 1000000) (he : ∀ x ∈ l.map toJ, -1 ≤ e x ∧ e x ≤ 1051898399 ∧ 0 ≤ x.due ∧ x.due ≤ 1051898399) (d : Nat) : ∀ (i : Nat) (m : Int), i ≤ l.length → l.length - i = d →
    Ev (fun k => letterbaglaw30_worst.l0 k l m (rowOf l e) ((rowOf l e).length : Int) (i : Int)) (worstX m e ((l.map toJ).drop i)) := by
  have hr := rowOf_len l e
  induction d with
  | zero =>
    intro i m hi hd
    refine Ev.step (fun k => letterbaglaw30_worst.l0.eq_2 _ _ _ _ _ k) ?_
    refine ev_neg (by rw [hr]; omega) (ev_eq ?_ (Ev.now _))
    rw [List.drop_of_length_le (by rw [List.length_map]; omega)]; rfl
  | succ d ih =>
    intro i m hi hd
    have c : i < l.length := by omega
    have ci : (i : Int) < ((rowOf l e).length : Int) := by rw [hr]; omega
    have ci2 : (i : Int) < (l.length : Int) := by omega
    have er : rd (rowOf l e) (i : Int) = e (toJ l[i]) := by
      rw [rowOf_rd (by omega) ci2, rd45_get c]
    have hb := he (toJ l[i]) (List.mem_map.2 ⟨_, List.getElem_mem c, rfl⟩)
    have e1 : (toJ l[i]).due = l[i].f2 := rfl
    rw [e1] at hb
    have ih1 := ih (i + 1) (max m (e (toJ l[i]) - l[i].f2)) (by omega) (by omega)
    have cj : i < (l.map toJ).length := by rw [List.length_map]; exact c
    have ed : (l.map toJ).drop i = toJ l[i] :: (l.map toJ).drop (i + 1) := by
      rw [List.drop_eq_getElem_cons cj]; simp
    rw [ed]
    have hw : wrap64 (e (toJ l[i]) - l[i].f2) = e (toJ l[i]) - l[i].f2 := w64 (by omega) (by omega)
    have hmx : mx m (e (toJ l[i]) - l[i].f2) = max m (e (toJ l[i]) - l[i].f2) := by unfold mx; split <;> omega
    refine Ev.step (fun k => letterbaglaw30_worst.l0.eq_2 _ _ _ _ _ k) ?_
    refine ev_pos ci (ev_pos (by clear hw hmx; omega) (ev_pos ci ?_))
    rw [er, rd45_get c, hw, hmx, wsucc c hl]
    unfold worstX
    by_cases c1 : e (toJ l[i]) < 0
    · exact ev_pos c1 (ev_eq (by rw [if_pos c1]) (Ev.now _))
    · refine ev_neg c1 (ev_pos ci2 (ev_eq ?_ ih1))
      rw [if_neg c1, e1]
theorem worst_f {l : List S45} {a : List S51} (h : EndsOk l a) : Ev (fun k => letterbaglaw30_worst.f k l a) (worstX (-1051898399) (fun x => Sh.endOf x (a.map toL)) (l.map toJ)) := by
  unfold letterbaglaw30_worst.f
  refine Ev.bind (ev_val (ends_ok h)) ?_
  refine ev_pos (by rw [rowOf_len]) ?_
  have hl := h.len
  have key := worst_l0 l (fun x => Sh.endOf x (a.map toL)) (by omega) (fun x hx => ?_) (l.length - 0) 0 (-1051898399) (by omega) rfl
  · rw [List.drop_zero] at key
    exact key
  · have hb := h.bj.bd x hx
    have hend : -1 ≤ Sh.endOf x (a.map toL) ∧ Sh.endOf x (a.map toL) ≤ 1051898399 := by
      unfold Sh.endOf
      split
      · omega
      · obtain ⟨_, ht⟩ := Sh.timed_iff.1 h.timed
        rcases Sh.lastTo_mem (id := x.id) (d := -1) (a.map toL) with ⟨u, hu, _, h2, _⟩ | ⟨_, h2⟩
        · have := ht u hu; omega
        · omega
    omega
theorem worstX_all {e : Sh.Job → Int} : ∀ {J : List Sh.Job} {m : Int}, (worstX m e J).2 = true ↔ ∀ x ∈ J, 0 ≤ e x := by
  intro J
  induction J with
  | nil => intro m; simp [worstX]
  | cons x J ih =>
    intro m
    unfold worstX
    by_cases c : e x < 0
    · rw [if_pos c]
      simp only [Bool.false_eq_true, false_iff]
      intro h
      have := h x (by simp); omega
    · rw [if_neg c, ih]
      simp only [List.mem_cons, forall_eq_or_imp]
      constructor
      · intro h; exact ⟨by omega, h⟩
      · exact fun h => h.2
theorem worstX_le {e : Sh.Job → Int} : ∀ {J : List Sh.Job} {m T : Int}, (∀ x ∈ J, 0 ≤ e x) → ((worstX m e J).1 ≤ T ↔ m ≤ T ∧ ∀ x ∈ J, e x ≤ x.due + T) := by
  intro J
  induction J with
  | nil => intro m T _; simp [worstX]
  | cons x J ih =>
    intro m T h
    unfold worstX
    have h0 := h x (by simp)
    rw [if_neg (by omega), ih (fun y hy => h y (by simp [hy]))]
    simp only [List.mem_cons, forall_eq_or_imp]
    constructor
    · rintro ⟨h1, h2⟩; exact ⟨by omega, by omega, h2⟩
    · rintro ⟨h1, h2, h3⟩; exact ⟨by omega, h3⟩
end Go.Proofs.Ytbnjdlafnejanaa.Pr
namespace Go.Proofs.Ytbnjdlafnejanaa.Pr
open Go.RowKit Go.Proofs.YtbnjdlafnejanaaW.PrintWords Go.Proofs.YtbnjdlafnejanaaW.PrintLast Go.Proofs.YtbnjdlafnejanaaW.PrintMore
/-- A job that may run at t. -/
def May (l0 : List S45) (p : List S51) (t : Int) (m : Nat) : Prop := ∃ h : m < l0.length, l0[m].f1 ≤ t ∧ 0 < l0[m].f3 - Sh.ran l0[m].f0 (p.map toL)
theorem OAt.next {l0 : List S45} {l1 : List S47} {t : Int} {p : List S51} {n : Int} (h : OAt l0 l1 t p n) : OAt l0 l1 (t + 1) p (n + 1) :=
  ⟨h.sched, fun u hu => by have := h.before u hu; omega, by have := h.len; omega, by have := h.n0; omega, by have := h.nt; omega⟩
/-- What holds at the end. -/
def Fin (l0 : List S45) (l1 : List S47) (b : List S51) : Prop := Sh.Sched (l0.map toJ) (l1.map toS) (b.map toL) ∧ b.length ≤ 256
theorem other_l3 {l0 : List S45} {l1 : List S47} {l2 : List Int} (hJ : Sh.BJ (l0.map toJ)) (hl0 : l0.length ≤ 8) (hl2 : ∀ v ∈ l2, 0 ≤ v ∧ v ≤ 255) (i : Nat) (a b t : Int) (p : List S51) (n : Int) (h : OAt l0 l1 t p n) (ht : t ≤ 255) (hin : ∃ s ∈ l1, s.f0 ≤ t ∧ t < s.f1)
    (hK : ∀ p' n', OAt l0 l1 (t + 1) p' n' → ∃ r, Fin l0 l1 r ∧ Ev (fun k => letterbaglaw30_other.l2 k l0 l2 p' (leftOf l0 p') n' (t + 1) l1 (l1.length : Int) (i : Int) a b) r)
    (d : Nat) : ∀ (j : Nat) (can : List Int), j ≤ l0.length → l0.length - j = d → can.length ≤ j → (∀ c ∈ can, ∃ m : Nat, c = m ∧ May l0 p t m) →
    ∃ r, Fin l0 l1 r ∧ Ev (fun k => letterbaglaw30_other.l3 k l0 l2 p (leftOf l0 p) n t can l1 (l1.length : Int) (i : Int) l0 (l0.length : Int) (j : Int) a b) r := by
  have hleft : ∀ m : Nat, ∀ hm : m < l0.length, rd (leftOf l0 p) (m : Int) = l0[m].f3 - Sh.ran l0[m].f0 (p.map toL) := by
    intro m hm
    unfold leftOf
    rw [rowOf_rd (by omega) (by omega), rd45_get hm]
    rfl
  have hll : (leftOf l0 p).length = l0.length := rowOf_len _ _
  have hlen := h.len
  have hn0 := h.n0
  have hnt := h.nt
  have hpl : p.length < 5864062014805 := lt_of (show p.length ≤ 1000 by omega) (by decide)
  have ht1 : wrap64 (t + 1) = t + 1 := w64 (by omega) (by omega)
  have hn1 : wrap64 (n + 1) = n + 1 := w64 (by clear ht1; omega) (by clear ht1; omega)
  induction d with
  | zero =>
    intro j can hj hd hc hcan
    have hgo : ∀ m : Nat, May l0 p t m → ∀ n' : Int, 0 ≤ n' → n' ≤ t + 1 → ∃ hm : m < l0.length, 0 ≤ (m : Int) ∧ (m : Int) < ((leftOf l0 p).length : Int) ∧ (m : Int) < (l0.length : Int) ∧
        ∃ r, Fin l0 l1 r ∧ Ev (fun k => letterbaglaw30_other.l2 k l0 l2 (p ++ [⟨(rd_T45 l0 (m : Int)).f0, t, wrap64 (t + 1)⟩]) ((leftOf l0 p).set (m : Int).toNat (wrap64 (rd (leftOf l0 p) (m : Int) - 1))) n' (wrap64 (t + 1)) l1 (l1.length : Int) (i : Int) a b) r := by
      rintro m ⟨hm, h1, h2⟩ n' h3 h4
      refine ⟨hm, by clear ht1 hn1; omega, by rw [hll]; clear ht1 hn1; omega, by clear ht1 hn1; omega, ?_⟩
      obtain ⟨hO, hset⟩ := h.go hJ hin hm h1 h2 h3 h4
      have hx : toJ l0[m] ∈ l0.map toJ := List.mem_map.2 ⟨_, List.getElem_mem hm, rfl⟩
      have hb := hJ.bd _ hx
      simp only [toJ] at hb
      have hw : wrap64 (l0[m].f3 - Sh.ran l0[m].f0 (p.map toL) - 1) = l0[m].f3 - Sh.ran l0[m].f0 (p.map toL) - 1 := by
        have hnn : 0 ≤ Sh.ran l0[m].f0 (p.map toL) := Sh.ran_nonneg (fun u hu => by obtain ⟨_, _, _, h5, _⟩ := h.sched.mem hu; exact h5)
        exact w64 (by clear ht1 hn1; omega) (by clear ht1 hn1; omega)
      rw [rd45_get hm, hleft m hm, hw, ht1, Int.toNat_natCast, hset]
      exact hK _ _ hO
    have hstep : ∀ r, Fin l0 l1 r → Ev (fun k => if n < (l2.length : Int) then (if 0 ≤ n then (if (wrap64 ((can.length : Int) + 1)) = 0 then (none) else (if (Int.tmod (wrap64 (rd l2 n)) (wrap64 ((can.length : Int) + 1))) = (can.length : Int) then (letterbaglaw30_other.l2 k l0 l2 p (leftOf l0 p) (wrap64 (n + 1)) (wrap64 (t + 1)) l1 (l1.length : Int) (i : Int) a b) else (if 0 ≤ (Int.tmod (wrap64 (rd l2 n)) (wrap64 ((can.length : Int) + 1))) then (if (Int.tmod (wrap64 (rd l2 n)) (wrap64 ((can.length : Int) + 1))) < (can.length : Int) then (if 0 ≤ (rd can (Int.tmod (wrap64 (rd l2 n)) (wrap64 ((can.length : Int) + 1)))) then (if (rd can (Int.tmod (wrap64 (rd l2 n)) (wrap64 ((can.length : Int) + 1)))) < ((leftOf l0 p).length : Int) then (if (rd can (Int.tmod (wrap64 (rd l2 n)) (wrap64 ((can.length : Int) + 1)))) < (l0.length : Int) then (if p.length < 5864062014805 then (letterbaglaw30_other.l2 k l0 l2 (p ++ [(⟨(rd_T45 l0 (rd can (Int.tmod (wrap64 (rd l2 n)) (wrap64 ((can.length : Int) + 1))))).f0, t, wrap64 (t + 1)⟩ : S51)]) ((leftOf l0 p).set ((rd can (Int.tmod (wrap64 (rd l2 n)) (wrap64 ((can.length : Int) + 1)))) : Int).toNat (wrap64 ((rd (leftOf l0 p) (rd can (Int.tmod (wrap64 (rd l2 n)) (wrap64 ((can.length : Int) + 1))))) - 1))) (wrap64 (n + 1)) (wrap64 (t + 1)) l1 (l1.length : Int) (i : Int) a b) else (none)) else (none)) else (none)) else (none)) else (none)) else (none)))) else (none)) else (if 0 = (can.length : Int) then (letterbaglaw30_other.l2 k l0 l2 p (leftOf l0 p) n (wrap64 (t + 1)) l1 (l1.length : Int) (i : Int) a b) else (if 0 < (can.length : Int) then (if 0 ≤ (rd can 0) then (if (rd can 0) < ((leftOf l0 p).length : Int) then (if (rd can 0) < (l0.length : Int) then (if p.length < 5864062014805 then (letterbaglaw30_other.l2 k l0 l2 (p ++ [(⟨(rd_T45 l0 (rd can 0)).f0, t, wrap64 (t + 1)⟩ : S51)]) ((leftOf l0 p).set ((rd can 0) : Int).toNat (wrap64 ((rd (leftOf l0 p) (rd can 0)) - 1))) n (wrap64 (t + 1)) l1 (l1.length : Int) (i : Int) a b) else (none)) else (none)) else (none)) else (none)) else (none)))) r →
        ∃ r, Fin l0 l1 r ∧ Ev (fun k => letterbaglaw30_other.l3 k l0 l2 p (leftOf l0 p) n t can l1 (l1.length : Int) (i : Int) l0 (l0.length : Int) (j : Int) a b) r := by
      intro r hr hE
      refine ⟨r, hr, Ev.step (fun k => letterbaglaw30_other.l3.eq_2 _ _ _ _ _ _ _ _ _ _ _ _ _ _ _ k) ?_⟩
      exact ev_neg (by clear ht1 hn1; omega) hE
    have hcl : can.length ≤ 8 := by clear ht1 hn1; omega
    by_cases c1 : n < (l2.length : Int)
    · have hnn : n.toNat < l2.length := by clear ht1 hn1; omega
      have hv := hl2 _ (List.getElem_mem hnn)
      have hrd : rd l2 n = l2[n.toNat] := by
        have := rd_get hnn
        rwa [show ((n.toNat : Nat) : Int) = n by clear ht1 hn1; omega] at this
      have hq0 : 0 ≤ l2[n.toNat] % ((can.length : Int) + 1) := Int.emod_nonneg _ (by clear ht1 hn1; omega)
      have hq1 : l2[n.toNat] % ((can.length : Int) + 1) < (can.length : Int) + 1 := Int.emod_lt_of_pos _ (by clear ht1 hn1; omega)
      have hcb : (-9223372036854775808 ≤ (can.length : Int) + 1 ∧ (can.length : Int) + 1 ≤ 9223372036854775807) ∧ -9223372036854775808 ≤ l2[n.toNat] ∧ l2[n.toNat] ≤ 9223372036854775807 ∧ ¬ (can.length : Int) + 1 = 0 := by clear ht1 hn1; omega
      have hw1 : wrap64 ((can.length : Int) + 1) = (can.length : Int) + 1 := w64 hcb.1.1 hcb.1.2
      have hw2 : Int.tmod (wrap64 (rd l2 n)) (wrap64 ((can.length : Int) + 1)) = l2[n.toNat] % ((can.length : Int) + 1) := by
        rw [hrd, hw1, w64 hcb.2.1 hcb.2.2.1, Int.tmod_eq_emod_of_nonneg hv.1]
      generalize hq : l2[n.toNat] % ((can.length : Int) + 1) = q at *
      by_cases c2 : q = (can.length : Int)
      · obtain ⟨r, hr, hE⟩ := hK p (n + 1) h.next
        refine hstep r hr ?_
        rw [hw2, hw1, hn1, ht1]
        exact ev_pos c1 (ev_pos hn0 (ev_neg hcb.2.2.2 (ev_pos c2 hE)))
      · have hqn : q.toNat < can.length := by clear ht1 hn1 hw1 hw2 hq; omega
        obtain ⟨m, hm, hmay⟩ := hcan _ (List.getElem_mem hqn)
        have hqr : rd can q = (m : Int) := by
          rw [← hm]
          have := rd_get hqn
          rwa [show ((q.toNat : Nat) : Int) = q by clear ht1 hn1 hw1 hw2 hq; omega] at this
        have hqlt : q < (can.length : Int) := by clear ht1 hn1 hw1 hw2 hq; omega
        obtain ⟨hmm, h5, h6, h7, r, hr, hE⟩ := hgo m hmay (n + 1) (by clear ht1 hn1 hw1 hw2 hq; omega) (by clear ht1 hn1 hw1 hw2 hq; omega)
        refine hstep r hr ?_
        rw [hw2, hw1, hqr, hn1]
        exact ev_pos c1 (ev_pos hn0 (ev_neg hcb.2.2.2 (ev_neg c2 (ev_pos hq0 (ev_pos hqlt (ev_pos h5 (ev_pos h6 (ev_pos h7 (ev_pos hpl hE)))))))))
    · by_cases c2 : 0 = (can.length : Int)
      · obtain ⟨r, hr, hE⟩ := hK p n (h.wait (by clear ht1 hn1; omega))
        refine hstep r hr ?_
        rw [ht1]
        exact ev_neg c1 (ev_pos c2 hE)
      · have hqn : 0 < can.length := by clear ht1 hn1; omega
        obtain ⟨m, hm, hmay⟩ := hcan _ (List.getElem_mem hqn)
        have hqr : rd can 0 = (m : Int) := by
          rw [← hm]
          exact rd_get hqn
        have hqlt : 0 < (can.length : Int) := by clear ht1 hn1; omega
        obtain ⟨hmm, h5, h6, h7, r, hr, hE⟩ := hgo m hmay n (by clear ht1 hn1; omega) (by clear ht1 hn1; omega)
        refine hstep r hr ?_
        rw [hqr]
        exact ev_neg c1 (ev_neg c2 (ev_pos hqlt (ev_pos h5 (ev_pos h6 (ev_pos h7 (ev_pos hpl hE))))))
  | succ d ih =>
    intro j can hj hd hc hcan
    have c : j < l0.length := by clear ht1 hn1; omega
    have ci : (j : Int) < (l0.length : Int) := by clear ht1 hn1; omega
    have cl : (j : Int) < ((leftOf l0 p).length : Int) := by rw [hll]; exact ci
    have hcl : can.length < 17592186044416 := lt_of (show can.length ≤ 8 by clear ht1 hn1; omega) (by decide)
    have hj0 : 0 ≤ (j : Int) := by clear ht1 hn1; omega
    have hd' : j + 1 ≤ l0.length ∧ l0.length - (j + 1) = d ∧ can.length ≤ j + 1 ∧ can.length + 1 ≤ j + 1 := by clear ht1 hn1; omega
    have hws := wsucc c (by clear ht1 hn1; omega)
    obtain ⟨r1, hr1, hE1⟩ := ih (j + 1) can hd'.1 hd'.2.1 hd'.2.2.1 hcan
    by_cases c1 : l0[j].f1 ≤ t
    · by_cases c2 : l0[j].f3 - Sh.ran l0[j].f0 (p.map toL) > 0
      · obtain ⟨r2, hr2, hE2⟩ := ih (j + 1) (can ++ [(j : Int)]) hd'.1 hd'.2.1 (by rw [List.length_append, List.length_singleton]; exact hd'.2.2.2) (fun x hx => by
          rcases List.mem_append.1 hx with h1 | h1
          · exact hcan x h1
          · rw [List.mem_singleton] at h1
            exact ⟨j, h1, c, c1, c2⟩)
        refine ⟨r2, hr2, Ev.step (fun k => letterbaglaw30_other.l3.eq_2 _ _ _ _ _ _ _ _ _ _ _ _ _ _ _ k) ?_⟩
        rw [rd45_get c, hleft j c, hws]
        exact ev_pos ci (ev_pos hj0 (ev_pos ci (ev_pos c1 (ev_pos cl (ev_pos c2 (ev_pos hcl hE2))))))
      · refine ⟨r1, hr1, Ev.step (fun k => letterbaglaw30_other.l3.eq_2 _ _ _ _ _ _ _ _ _ _ _ _ _ _ _ k) ?_⟩
        rw [rd45_get c, hleft j c, hws]
        exact ev_pos ci (ev_pos hj0 (ev_pos ci (ev_pos c1 (ev_pos cl (ev_neg c2 hE1)))))
    · refine ⟨r1, hr1, Ev.step (fun k => letterbaglaw30_other.l3.eq_2 _ _ _ _ _ _ _ _ _ _ _ _ _ _ _ k) ?_⟩
      rw [rd45_get c, hws]
      exact ev_pos ci (ev_pos hj0 (ev_pos ci (ev_neg c1 hE1)))
theorem other_l2 {l0 : List S45} {l1 : List S47} {l2 : List Int} (hJ : Sh.BJ (l0.map toJ)) (hl0 : l0.length ≤ 8) (hl2 : ∀ v ∈ l2, 0 ≤ v ∧ v ≤ 255) (i : Nat) (hi : i < l1.length) (h0 : 0 ≤ l1[i].f0) (h256 : l1[i].f1 ≤ 256) (hord : l1[i].f0 < l1[i].f1)
    (hK : ∀ p' n', OAt l0 l1 l1[i].f1 p' n' → ∃ r, Fin l0 l1 r ∧ Ev (fun k => letterbaglaw30_other.l1 k l0 l2 p' (leftOf l0 p') n' l1 (l1.length : Int) (wrap64 ((i : Int) + 1))) r)
    (d : Nat) : ∀ (t : Int) (p : List S51) (n : Int), l1[i].f0 ≤ t → t ≤ l1[i].f1 → l1[i].f1 - t = d → OAt l0 l1 t p n →
    ∃ r, Fin l0 l1 r ∧ Ev (fun k => letterbaglaw30_other.l2 k l0 l2 p (leftOf l0 p) n t l1 (l1.length : Int) (i : Int) l1[i].f0 l1[i].f1) r := by
  induction d with
  | zero =>
    intro t p n h1 h2 hd h
    obtain ⟨r, hr, hE⟩ := hK p n (h.wait (by omega))
    refine ⟨r, hr, Ev.step (fun k => letterbaglaw30_other.l2.eq_2 _ _ _ _ _ _ _ _ _ _ _ k) ?_⟩
    exact ev_neg (by omega) hE
  | succ d ih =>
    intro t p n h1 h2 hd h
    obtain ⟨r, hr, hE⟩ := other_l3 (l2 := l2) hJ hl0 hl2 i l1[i].f0 l1[i].f1 t p n h (by omega) ⟨l1[i], List.getElem_mem hi, h1, by omega⟩
      (fun p' n' h' => ih (t + 1) p' n' (by omega) (by omega) (by omega) h') (l0.length - 0) 0 [] (by omega) rfl (by simp) (by simp)
    refine ⟨r, hr, Ev.step (fun k => letterbaglaw30_other.l2.eq_2 _ _ _ _ _ _ _ _ _ _ _ k) ?_⟩
    exact ev_pos (by omega) hE
theorem other_l1 {l0 : List S45} {l1 : List S47} {l2 : List Int} (hJ : Sh.BJ (l0.map toJ)) (hS : Sh.BS (l1.map toS)) (hb : ∀ s ∈ l1.map toS, s.to ≤ 256) (hl0 : l0.length ≤ 8) (hl1 : l1.length ≤ 8) (hl2 : ∀ v ∈ l2, 0 ≤ v ∧ v ≤ 255) (d : Nat) : ∀ (i : Nat) (p : List S51) (n t : Int), i ≤ l1.length → l1.length - i = d → OAt l0 l1 t p n → (t ≤ 256) → (∀ h : i < l1.length, t ≤ l1[i].f0) →
    ∃ r, Fin l0 l1 r ∧ Ev (fun k => letterbaglaw30_other.l1 k l0 l2 p (leftOf l0 p) n l1 (l1.length : Int) (i : Int)) r := by
  induction d with
  | zero =>
    intro i p n t hi hd h h256 _
    have hlen := h.len
    refine ⟨p, ⟨h.sched, by omega⟩, Ev.step (fun k => letterbaglaw30_other.l1.eq_2 _ _ _ _ _ _ _ _ k) ?_⟩
    exact ev_neg (by omega) (Ev.now _)
  | succ d ih =>
    intro i p n t hi hd h h256 hle
    have c : i < l1.length := by omega
    have ci : (i : Int) < (l1.length : Int) := by omega
    have hm : toS l1[i] ∈ l1.map toS := List.mem_map.2 ⟨_, List.getElem_mem c, rfl⟩
    have h1 := hS.vs.pos _ hm
    have h2 := hb _ hm
    simp only [toS] at h1 h2
    have h3 := hle c
    obtain ⟨r, hr, hE⟩ := other_l2 (l2 := l2) hJ hl0 hl2 i c h1.1 h2 h1.2 (fun p' n' h' => by
      rw [wsucc c (by omega)]
      refine ih (i + 1) p' n' l1[i].f1 (by omega) (by omega) h' h2 (fun hk => ?_)
      have hp := List.pairwise_iff_getElem.1 hS.vs.ord i (i + 1) (by simpa using c) (by simpa using hk) (by omega)
      simpa [toS] using hp) (l1[i].f1 - l1[i].f0).toNat l1[i].f0 p n (Int.le_refl _) (by omega) (by omega) (h.wait h3)
    refine ⟨r, hr, Ev.step (fun k => letterbaglaw30_other.l1.eq_2 _ _ _ _ _ _ _ _ k) ?_⟩
    refine ev_pos ci (ev_pos (by omega) (ev_pos ci ?_))
    rw [rd47_get c]
    exact hE
theorem other_l0 {l0 : List S45} {l1 : List S47} {l2 : List Int} (hl : l0.length ≤ 8) {r : List S51} (hK : Ev (fun k => letterbaglaw30_other.l1 k l0 l2 [] (l0.map fun x => x.f3) 0 l1 (l1.length : Int) 0) r) (d : Nat) : ∀ (i : Nat) (x8 : List Int), i ≤ l0.length → l0.length - i = d → x8.length = l0.length → (∀ (j : Nat) (h : j < x8.length) (h' : j < l0.length), j < i → x8[j] = l0[j].f3) →
    Ev (fun k => letterbaglaw30_other.l0 k l0 l1 l2 x8 l0 (l0.length : Int) (i : Int)) r := by
  induction d with
  | zero =>
    intro i x8 hi hd h8 hx
    refine Ev.step (fun k => letterbaglaw30_other.l0.eq_2 _ _ _ _ _ _ _ k) ?_
    refine ev_neg (by omega) ?_
    have e : x8 = l0.map fun x => x.f3 := by
      apply List.ext_getElem
      · rw [h8, List.length_map]
      · intro j h1 h2
        have h3 : j < l0.length := by omega
        rw [hx j h1 h3 (by omega), List.getElem_map]
    rw [e]
    exact hK
  | succ d ih =>
    intro i x8 hi hd h8 hx
    have c : i < l0.length := by omega
    have ci : (i : Int) < (l0.length : Int) := by omega
    have ih1 := ih (i + 1) (x8.set i l0[i].f3) (by omega) (by omega) (by rw [List.length_set]; exact h8) (fun j h1 h2 h3 => by
      by_cases e : i = j
      · subst e; rw [List.getElem_set_self]
      · rw [List.getElem_set_ne e]; exact hx j (by simpa using h1) h2 (by omega))
    refine Ev.step (fun k => letterbaglaw30_other.l0.eq_2 _ _ _ _ _ _ _ k) ?_
    refine ev_pos ci (ev_pos (by omega) (ev_pos ci (ev_pos (by rw [h8]; exact ci) ?_)))
    rw [rd45_get c, wsucc c (by omega), Int.toNat_natCast]
    exact ih1
theorem other_f {l0 : List S45} {l1 : List S47} {l2 : List Int} (hJ : Sh.BJ (l0.map toJ)) (hS : Sh.BS (l1.map toS)) (hb : ∀ s ∈ l1.map toS, s.to ≤ 256) (hl0 : l0.length ≤ 8) (hl1 : l1.length ≤ 8) (hl2 : ∀ v ∈ l2, 0 ≤ v ∧ v ≤ 255) :
    ∃ b, Fin l0 l1 b ∧ Ev (fun k => letterbaglaw30_other.f k l0 l1 l2) b := by
  obtain ⟨r, hr, hE⟩ := other_l1 (l2 := l2) hJ hS hb hl0 hl1 hl2 (l1.length - 0) 0 [] 0 0 (by omega) rfl
    ⟨fun i hi => absurd hi (by simp), by simp, by simp, Int.le_refl _, Int.le_refl _⟩ (by omega) (fun h => by
      have hm : toS l1[0] ∈ l1.map toS := List.mem_map.2 ⟨_, List.getElem_mem h, rfl⟩
      have := hS.vs.pos _ hm
      simp only [toS] at this
      exact this.1)
  refine ⟨r, hr, ?_⟩
  unfold letterbaglaw30_other.f
  refine ev_pos (by omega) (ev_pos (Nat.le_of_lt (lt_of (show (l0.length : Int).toNat ≤ 8 by omega) (by decide))) ?_)
  refine other_l0 hl0 ?_ (l0.length - 0) 0 _ (by omega) rfl (by simp) (by intro j _ _ h; omega)
  have e : leftOf l0 [] = l0.map fun x => x.f3 := by
    unfold leftOf rowOf
    rw [List.map_map]
    apply List.map_congr_left
    intro x _
    simp [toJ, Sh.ran]
  rw [e] at hE
  exact hE
end Go.Proofs.Ytbnjdlafnejanaa.Pr
namespace Go.Proofs.Ytbnjdlafnejanaa.Pr
open Go.RowKit Go.Proofs.YtbnjdlafnejanaaW.PrintWords Go.Proofs.YtbnjdlafnejanaaW.PrintLast Go.Proofs.YtbnjdlafnejanaaW.PrintMore
/-- A valid schedule ends its jobs within bounds no better than that which Make returns. -/
theorem optimal_ends {l : List S45} {l1 : List S47} {b : List S51} (hJ : Sh.BJ (l.map toJ)) (hS : Sh.BS (l1.map toS)) (h : Sh.Sched (l.map toJ) (l1.map toS) (b.map toL)) (L : Int)
    (hb : ∀ x ∈ l.map toJ, 0 ≤ Sh.endOf x (b.map toL) ∧ Sh.endOf x (b.map toL) ≤ x.due + L) :
    ∀ x ∈ l.map toJ, 0 ≤ Sh.endOf x ((planOf l l1).map toL) ∧ Sh.endOf x ((planOf l l1).map toL) ≤ x.due + L := by
  rw [planOf_toL]
  have hM := Sh.made_makeX hJ.vj hS.vs
  have hV := h.isV hJ.vj hS.vs
  have hO := (Sh.Sched.ord hJ.vj hS.vs _ h).1
  have hO2 := (Sh.Sched.ord hJ.vj hS.vs _ (hM.sched hJ.vj hS.vs)).1
  intro x hx
  rw [Sh.end_iff ⟨(hJ.vj.pos x hx).1, (hJ.vj.pos x hx).2.2⟩ hO2 ((hM.ise.isV hJ.vj).most x hx)]
  refine Sh.IsE.optimal hJ.vj hS.vs hM.ise hV (fun y hy => ?_) x hx
  rw [← Sh.end_iff ⟨(hJ.vj.pos y hy).1, (hJ.vj.pos y hy).2.2⟩ hO (hV.most y hy)]
  exact hb y hy
end Go.Proofs.Ytbnjdlafnejanaa.Pr
namespace Go.Proofs.Ytbnjdlafnejanaa.Pr
open Go.RowKit Go.Proofs.YtbnjdlafnejanaaW.PrintWords Go.Proofs.YtbnjdlafnejanaaW.PrintLast Go.Proofs.YtbnjdlafnejanaaW.PrintMore
attribute [local go_sem] max2_int min2_int max_two min_two max_three min_three max_four min_four   -- for this text's walks alone
set_option linter.unusedVariables false
set_option linter.unusedSimpArgs false
mutual
def letterbaglaw30_ShiftOptimal.j0 : Nat → List (S45) → List (S51) → List (S51) → Bool → Option (Bool)
 | 0, _, _, _, _ => none
 | k + 1, x7, x9, x11, x47 => if x47 = true then (some false) else ((shift_Late.f k x7 x11).bind fun t264 => ((shift_Late.f k x7 x9).bind fun t267 => (if (t267.length : Int) > 0 then (letterbaglaw30_ShiftOptimal.j1 k x7 x9 x11 ((t264.length : Int) == 0)) else (letterbaglaw30_ShiftOptimal.j1 k x7 x9 x11 false))))
def letterbaglaw30_ShiftOptimal.j1 : Nat → List (S45) → List (S51) → List (S51) → Bool → Option (Bool)
 | 0, _, _, _, _ => none
 | k + 1, x7, x9, x11, x60 => if x60 = true then (some false) else ((letterbaglaw30_worst.f k x7 x9).bind fun bt270 => ((letterbaglaw30_worst.f k x7 x11).bind fun bt272 => (if bt272.2 = true then (if bt270.2 = true then (if (x7.length : Int) = 0 then ((letterbaglaw30_awake.f k).bind fun t274 => (some t274)) else (if bt270.1 ≤ bt272.1 then ((letterbaglaw30_awake.f k).bind fun t275 => (some t275)) else (some false))) else (some false)) else ((letterbaglaw30_awake.f k).bind fun t276 => (some t276)))))
end
def letterbaglaw30_ShiftOptimal.f (k : Nat) (l0 : List (S61)) (l1 : List (S55)) (l2 : List Int) : Option (Bool) := (letterbaglaw30_work.f k l0).bind fun t249 => ((letterbaglaw30_hours.f k l1).bind fun t252 => ((shift_Make.f t249 t252).bind fun bt255 => (if bt255.2 = 0 then ((letterbaglaw30_other.f k t249 t252 l2).bind fun t259 => ((shift_Check.f t249 t252 t259).bind fun bt262 => (if bt262.1 = 0 then (letterbaglaw30_ShiftOptimal.j0 k t249 bt255.1 t259 (bt262.2 != 0)) else (letterbaglaw30_ShiftOptimal.j0 k t249 bt255.1 t259 true)))) else (some false))))
set_option maxHeartbeats 8000000 in
set_option maxRecDepth 100000 in
theorem letterbaglaw30_ShiftOptimal.calls (k : Nat) (A0 : Option Addr) (c0 : Nat) (l0 : List (S61)) (A1 : Option Addr) (c1 : Nat) (l1 : List (S55)) (A2 : Option Addr) (c2 : Nat) (l2 : List Int) (w : World) (hr0 : Kd.C k61 w A0 l0.length l0) (hc0 : l0.length ≤ c0) (hr1 : Kd.C k55 w A1 l1.length l1) (hc1 : l1.length ≤ c1) (hr2 : Kd.C (Kd.int .u8) w A2 l2.length l2) (hc2 : l2.length ≤ c2) (h : letterbaglaw30_ShiftOptimal.f k l0 l1 l2 = some true) :
  Calls Try.prog 3 #[.slice A0 l0.length c0, .slice A1 l1.length c1, .slice A2 l2.length c2] w fun e w' => e = .returned (.bool true) ∧ Below w.heap.size w w' := by
 have HR0 := Aside0.mk hr0
 have HC0 := Aside0.mk hc0
 clear hr0 hc0
 have HR1 := Aside0.mk hr1
 have HC1 := Aside0.mk hc1
 clear hr1 hc1
 have HR2 := Aside0.mk hr2
 have HC2 := Aside0.mk hc2
 clear hr2 hc2
 have HB := Aside0.mk (Below.refl w.heap.size w)
 have H : ((letterbaglaw30_work.f k l0).bind fun t249 => ((letterbaglaw30_hours.f k l1).bind fun t252 => ((shift_Make.f t249 t252).bind fun bt255 => (if bt255.2 = 0 then ((letterbaglaw30_other.f k t249 t252 l2).bind fun t259 => ((shift_Check.f t249 t252 t259).bind fun bt262 => (if bt262.1 = 0 then (letterbaglaw30_ShiftOptimal.j0 k t249 bt255.1 t259 (bt262.2 != 0)) else (letterbaglaw30_ShiftOptimal.j0 k t249 bt255.1 t259 true)))) else (some false))))) = some true := h
 clear h
 replace H := Option.bind_eq_some_iff.mp H
 obtain ⟨t249, A40, H⟩ := H
 replace H : ((letterbaglaw30_hours.f k l1).bind fun t252 => ((shift_Make.f t249 t252).bind fun bt255 => (if bt255.2 = 0 then ((letterbaglaw30_other.f k t249 t252 l2).bind fun t259 => ((shift_Check.f t249 t252 t259).bind fun bt262 => (if bt262.1 = 0 then (letterbaglaw30_ShiftOptimal.j0 k t249 bt255.1 t259 (bt262.2 != 0)) else (letterbaglaw30_ShiftOptimal.j0 k t249 bt255.1 t259 true)))) else (some false)))) = some true := H
 have A4 := Aside0.mk A40
 clear A40
 replace H := Option.bind_eq_some_iff.mp H
 obtain ⟨t252, A50, H⟩ := H
 replace H : ((shift_Make.f t249 t252).bind fun bt255 => (if bt255.2 = 0 then ((letterbaglaw30_other.f k t249 t252 l2).bind fun t259 => ((shift_Check.f t249 t252 t259).bind fun bt262 => (if bt262.1 = 0 then (letterbaglaw30_ShiftOptimal.j0 k t249 bt255.1 t259 (bt262.2 != 0)) else (letterbaglaw30_ShiftOptimal.j0 k t249 bt255.1 t259 true)))) else (some false))) = some true := H
 have A5 := Aside0.mk A50
 clear A50
 replace H := Option.bind_eq_some_iff.mp H
 obtain ⟨⟨t255, t256⟩, A60, H⟩ := H
 replace H : (if t256 = 0 then ((letterbaglaw30_other.f k t249 t252 l2).bind fun t259 => ((shift_Check.f t249 t252 t259).bind fun bt262 => (if bt262.1 = 0 then (letterbaglaw30_ShiftOptimal.j0 k t249 t255 t259 (bt262.2 != 0)) else (letterbaglaw30_ShiftOptimal.j0 k t249 t255 t259 true)))) else (some false)) = some true := H
 have A6 := Aside0.mk A60
 clear A60
 by_cases c7 : t256 = 0
 ·rw [if_pos c7] at H
  have c7b0 : (t256 == 0) = true := beq_iff_eq.mpr c7
  have c7b1 : (t256 != 0) = false := bne_eq_false_iff_eq.mpr c7
  clear c7
  replace H := Option.bind_eq_some_iff.mp H
  obtain ⟨t259, A80, H⟩ := H
  replace H : ((shift_Check.f t249 t252 t259).bind fun bt262 => (if bt262.1 = 0 then (letterbaglaw30_ShiftOptimal.j0 k t249 t255 t259 (bt262.2 != 0)) else (letterbaglaw30_ShiftOptimal.j0 k t249 t255 t259 true))) = some true := H
  have A8 := Aside0.mk A80
  clear A80
  replace H := Option.bind_eq_some_iff.mp H
  obtain ⟨⟨t262, t263⟩, A90, H⟩ := H
  replace H : (if t262 = 0 then (letterbaglaw30_ShiftOptimal.j0 k t249 t255 t259 (t263 != 0)) else (letterbaglaw30_ShiftOptimal.j0 k t249 t255 t259 true)) = some true := H
  have A9 := Aside0.mk A90
  clear A90
  have HC10 := Aside0.mk H
  clear H
  go_enter Try.func3, Try.ntmps3
  go_upto_region 7 with (first | ((with_reducible refine gate_callee (f := 10) rfl ?_); refine goesL_ (some 20) rfl rfl Try.func10 (by kernel_rfl) rfl #[.slice A0 l0.length c0] rfl (by (try simp only [List.map_toArray, List.map_cons, List.map_nil]); rfl) ?_; (with_reducible refine (letterbaglaw30_work.calls k _ _ l0 t249 _ ?side1 ?side2 A4.out).mono ?_); (case side1 => repeat (exact HR0.out)); (case side2 => exact HC0.out); rintro e w11 ⟨v250, rfl, ho0, hb⟩; refine ⟨_, rfl, ?_⟩; have n0_ := Aside0.mk (Kd.R_lower ho0 (below_size (by repeat ((with_reducible exact HB.out))))); have n1_ := Aside0.mk (below_step (by repeat ((with_reducible exact HB.out))) hb); clear HB; have HO251 := n0_; have HB := n1_; clear n0_ n1_; (try clear hb); (try clear hb2); (try clear hk); (try clear hi); (try clear ho0)) | ((with_reducible refine gate_callee (f := 11) rfl ?_); refine goesL_ (some 22) rfl rfl Try.func11 (by kernel_rfl) rfl #[.slice A1 l1.length c1] rfl (by (try simp only [List.map_toArray, List.map_cons, List.map_nil]); rfl) ?_; (with_reducible refine (letterbaglaw30_hours.calls k _ _ l1 t252 _ ?side1 ?side2 A5.out).mono ?_); (case side1 => repeat (exact (Kd.C_below HR1.out HB.out))); (case side2 => exact HC1.out); rintro e w12 ⟨v253, rfl, ho0, hb⟩; refine ⟨_, rfl, ?_⟩; have n0_ := Aside0.mk (Kd.R_below (by (with_reducible repeat (fail)); exact HO251.out) hb); have n1_ := Aside0.mk (Kd.R_lower ho0 (below_size (by repeat ((with_reducible exact HB.out))))); have n2_ := Aside0.mk (below_step (by repeat ((with_reducible exact HB.out))) hb); clear HO251; clear HB; have HO251 := n0_; have HO254 := n1_; have HB := n2_; clear n0_ n1_ n2_; (try clear hb); (try clear hb2); (try clear hk); (try clear hi); (try clear ho0); obtain ⟨Ao13, co13, eo13⟩ := Kd.R_slice HO251.out; subst eo13; obtain ⟨Ao14, co14, eo14⟩ := Kd.R_slice HO254.out; subst eo14) | ((with_reducible refine gate_callee (f := 12) rfl ?_); refine goesL_ (some 26) rfl rfl Try.func12 (by kernel_rfl) rfl #[.slice Ao13 t249.length co13, .slice Ao14 t252.length co14] rfl (by (try simp only [List.map_toArray, List.map_cons, List.map_nil]); rfl) ?_; (with_reducible refine (shift_Make.calls _ _ t249 _ _ t252 t255 t256 _ ?side1 ?side2 ?side3 ?side4 A6.out).mono ?_); (case side1 => repeat (exact (Kd.R_reads' HO251.out).2.2)); (case side2 => exact (Kd.R_reads' HO251.out).2.1); (case side3 => repeat (exact (Kd.R_reads' HO254.out).2.2)); (case side4 => exact (Kd.R_reads' HO254.out).2.1); rintro e w15 ⟨v257, rfl, ho0, hb⟩; refine ⟨_, rfl, ?_⟩; have n0_ := Aside0.mk (Kd.R_below (by (with_reducible repeat (fail)); exact HO251.out) hb); have n1_ := Aside0.mk (Kd.R_below (by (with_reducible repeat (fail)); exact HO254.out) hb); have n2_ := Aside0.mk (Kd.R_lower ho0 (below_size (by repeat ((with_reducible exact HB.out))))); have n3_ := Aside0.mk (below_step (by repeat ((with_reducible exact HB.out))) hb); clear HO251; clear HO254; clear HB; have HO251 := n0_; have HO254 := n1_; have HO258 := n2_; have HB := n3_; clear n0_ n1_ n2_ n3_; (try clear hb); (try clear hb2); (try clear hk); (try clear hi); (try clear ho0)) | ((with_reducible refine gate_callee (f := 13) rfl ?_); refine goesL_ (some 34) rfl rfl Try.func13 (by kernel_rfl) rfl #[.slice Ao13 t249.length co13, .slice Ao14 t252.length co14, .slice A2 l2.length c2] rfl (by (try simp only [List.map_toArray, List.map_cons, List.map_nil]); rfl) ?_; (with_reducible refine (letterbaglaw30_other.calls k _ _ t249 _ _ t252 _ _ l2 t259 _ ?side1 ?side2 ?side3 ?side4 ?side5 ?side6 A8.out).mono ?_); (case side1 => repeat (exact (Kd.R_reads' HO251.out).2.2)); (case side2 => exact (Kd.R_reads' HO251.out).2.1); (case side3 => repeat (exact (Kd.R_reads' HO254.out).2.2)); (case side4 => exact (Kd.R_reads' HO254.out).2.1); (case side5 => repeat (exact (Kd.C_below HR2.out HB.out))); (case side6 => exact HC2.out); rintro e w16 ⟨v260, rfl, ho0, hb⟩; refine ⟨_, rfl, ?_⟩; have n0_ := Aside0.mk (Kd.R_below (by (with_reducible repeat (fail)); exact HO251.out) hb); have n1_ := Aside0.mk (Kd.R_below (by (with_reducible repeat (fail)); exact HO254.out) hb); have n2_ := Aside0.mk (Kd.R_elder' (by (with_reducible repeat (fail)); exact HO258.out) (Kd.R_base ho0) hb); have n3_ := Aside0.mk (Kd.R_lower (Kd.R_new' ho0 (Kd.R_lt (by (with_reducible repeat (fail)); exact HO258.out))) (below_size (by repeat ((with_reducible exact HB.out))))); have n4_ := Aside0.mk (below_step (by repeat ((with_reducible exact HB.out))) hb); clear HO251; clear HO254; clear HO258; clear HB; have HO251 := n0_; have HO254 := n1_; have HO258 := n2_; have HO261 := n3_; have HB := n4_; clear n0_ n1_ n2_ n3_ n4_; (try clear hb); (try clear hb2); (try clear hk); (try clear hi); (try clear ho0); obtain ⟨Ao17, co17, eo17⟩ := Kd.R_slice HO261.out; subst eo17) | ((with_reducible refine gate_callee (f := 14) rfl ?_); refine goesL_ (some 39) rfl rfl Try.func14 (by kernel_rfl) rfl #[.slice Ao13 t249.length co13, .slice Ao14 t252.length co14, .slice Ao17 t259.length co17] rfl (by (try simp only [List.map_toArray, List.map_cons, List.map_nil]); rfl) ?_; (with_reducible refine (shift_Check.calls _ _ t249 _ _ t252 _ _ t259 t262 t263 _ ?side1 ?side2 ?side3 ?side4 ?side5 ?side6 A9.out).mono ?_); (case side1 => repeat (exact (Kd.R_reads' HO251.out).2.2)); (case side2 => exact (Kd.R_reads' HO251.out).2.1); (case side3 => repeat (exact (Kd.R_reads' HO254.out).2.2)); (case side4 => exact (Kd.R_reads' HO254.out).2.1); (case side5 => repeat (exact (Kd.R_reads' HO261.out).2.2)); (case side6 => exact (Kd.R_reads' HO261.out).2.1); rintro e w18 ⟨rfl, hb⟩; refine ⟨_, rfl, ?_⟩; have n0_ := Aside0.mk (Kd.R_below (by (with_reducible repeat (fail)); exact HO251.out) hb); have n1_ := Aside0.mk (Kd.R_below (by (with_reducible repeat (fail)); exact HO254.out) hb); have n2_ := Aside0.mk (Kd.R_below (by (with_reducible repeat (fail)); exact HO258.out) hb); have n3_ := Aside0.mk (Kd.R_below (by (with_reducible repeat (fail)); exact HO261.out) hb); have n4_ := Aside0.mk (below_step (by repeat ((with_reducible exact HB.out))) hb); clear HO251; clear HO254; clear HO258; clear HO261; clear HB; have HO251 := n0_; have HO254 := n1_; have HO258 := n2_; have HO261 := n3_; have HB := n4_; clear n0_ n1_ n2_ n3_ n4_; (try clear hb); (try clear hb2); (try clear hk); (try clear hi)))
  (try simp only [Act.put, List.setIfInBounds_toArray, List.set_cons_zero, List.set_cons_succ])
  go_cut [47] (fun v47 wc => ∃ (kq : Nat) (x47_9 : Bool), v47 = .bool x47_9 ∧ Aside0 (letterbaglaw30_ShiftOptimal.j0 kq t249 t255 t259 x47_9 = some true) ∧ Aside0 (kq ≤ k) ∧ Aside0 (Kd.R k45 45 wc w.heap.size (fun _ => True) (.slice Ao13 t249.length co13) t249) ∧ Aside0 (Kd.R k51 51 wc w.heap.size (fun k_ => some k_ ≠ ((.slice Ao17 t259.length co17) : Value).ownBlock) v257 t255) ∧ Aside0 (Kd.R k51 51 wc w.heap.size (fun k_ => some k_ ≠ (v257 : Value).ownBlock) (.slice Ao17 t259.length co17) t259) ∧ Aside0 (Below w.heap.size w wc))
  case first =>
   have H := HC10.out
   clear HC10
   by_cases c19 : t262 = 0
   ·rw [if_pos c19] at H
    have c19b0 : (t262 == 0) = true := beq_iff_eq.mpr c19
    have c19b1 : (t262 != 0) = false := bne_eq_false_iff_eq.mpr c19
    clear c19
    (skip)
    have H' := Aside0.mk H
    clear H
    go_wp2
    go_meet
    case rel => exact ⟨_, ((t263 != 0)), (by rfl), H', ⟨by omega⟩, ⟨by (with_reducible repeat (fail)); exact HO251.out⟩, ⟨by (with_reducible repeat (fail)); exact Kd.R_mono HO258.out (fun _ hk => hk.2)⟩, ⟨by (with_reducible repeat (fail)); exact Kd.R_mono HO261.out (fun _ hk => hk.2)⟩, ⟨by repeat ((with_reducible exact HB.out))⟩⟩
   ·rw [if_neg c19] at H
    have c19b0 : (t262 == 0) = false := beq_eq_false_iff_ne.mpr c19
    have c19b1 : (t262 != 0) = true := bne_iff_ne.mpr c19
    (skip)
    have H' := Aside0.mk H
    clear H
    go_wp2
    go_meet
    case rel => exact ⟨_, (true), (by rfl), H', ⟨by omega⟩, ⟨by (with_reducible repeat (fail)); exact HO251.out⟩, ⟨by (with_reducible repeat (fail)); exact Kd.R_mono HO258.out (fun _ hk => hk.2)⟩, ⟨by (with_reducible repeat (fail)); exact Kd.R_mono HO261.out (fun _ hk => hk.2)⟩, ⟨by repeat ((with_reducible exact HB.out))⟩⟩
  case rest =>
   clear HC10
   try clear c1
   try clear c2
   try clear p2
   try clear c3
   try clear c7
   try clear c7b0
   try clear c7b1
   try clear c10
   try clear c11
   try clear c12
   try clear c13
   try clear c14
   try clear c19
   try clear c19b0
   try clear c19b1
   obtain ⟨kq, x47_9, rfl, HA, HJ9, HO_7, HO_9, HO_11, HB⟩ := hcut
   cases kq with
   | zero => exact absurd HA.out (by simp [letterbaglaw30_ShiftOptimal.j0])
   | succ kj9 =>
    have H := HA.out
    clear HA
    simp only [letterbaglaw30_ShiftOptimal.j0] at H
    by_cases c20 : x47_9 = true
    ·subst c20
     have H1 : (some false) = some true := by rw [if_pos rfl] at H; exact H
     clear H
     have H := H1
     clear H1
     exact absurd H (by simp)
    ·replace c20 := Bool.eq_false_iff.mpr c20
     subst c20
     have H1 : ((shift_Late.f kj9 t249 t259).bind fun t264 => ((shift_Late.f kj9 t249 t255).bind fun t267 => (if (t267.length : Int) > 0 then (letterbaglaw30_ShiftOptimal.j1 kj9 t249 t255 t259 ((t264.length : Int) == 0)) else (letterbaglaw30_ShiftOptimal.j1 kj9 t249 t255 t259 false)))) = some true := by rw [if_neg (show ¬ (false = true) by decide)] at H; exact H
     clear H
     have H := H1
     clear H1
     replace H := Option.bind_eq_some_iff.mp H
     obtain ⟨t264, A210, H⟩ := H
     replace H : ((shift_Late.f kj9 t249 t255).bind fun t267 => (if (t267.length : Int) > 0 then (letterbaglaw30_ShiftOptimal.j1 kj9 t249 t255 t259 ((t264.length : Int) == 0)) else (letterbaglaw30_ShiftOptimal.j1 kj9 t249 t255 t259 false))) = some true := H
     have A21 := Aside0.mk A210
     clear A210
     have HC22 := Aside0.mk H
     clear H
     go_upto_region 10 with (((with_reducible refine gate_callee (f := 15) rfl ?_); refine goesL_ (some 50) rfl rfl Try.func15 (by kernel_rfl) rfl #[.slice Ao13 t249.length co13, .slice Ao17 t259.length co17] rfl (by (try simp only [List.map_toArray, List.map_cons, List.map_nil]); rfl) ?_; (with_reducible refine (shift_Late.calls kj9 _ _ t249 _ _ t259 t264 _ ?side1 ?side2 ?side3 ?side4 A21.out).mono ?_); (case side1 => repeat (exact (Kd.R_reads' HO_7.out).2.2)); (case side2 => exact (Kd.R_reads' HO_7.out).2.1); (case side3 => repeat (exact (Kd.R_reads' HO_11.out).2.2)); (case side4 => exact (Kd.R_reads' HO_11.out).2.1); rintro e w23 ⟨v265, rfl, ho0, hb⟩; refine ⟨_, rfl, ?_⟩; have n0_ := Aside0.mk (Kd.R_below (by (with_reducible repeat (fail)); exact HO_7.out) hb); have n1_ := Aside0.mk (Kd.R_below (by (with_reducible repeat (fail)); exact HO_9.out) hb); have n2_ := Aside0.mk (Kd.R_below (by (with_reducible repeat (fail)); exact HO_11.out) hb); have n3_ := Aside0.mk (Kd.R_lower ho0 (below_size (by repeat ((with_reducible exact HB.out))))); have n4_ := Aside0.mk (below_step (by repeat ((with_reducible exact HB.out))) hb); clear HO_7; clear HO_9; clear HO_11; clear HB; have HO_7 := n0_; have HO_9 := n1_; have HO_11 := n2_; have HO266 := n3_; have HB := n4_; clear n0_ n1_ n2_ n3_ n4_; (try clear hb); (try clear hb2); (try clear hk); (try clear hi); (try clear ho0)))
     (try simp only [Act.put, List.setIfInBounds_toArray, List.set_cons_zero, List.set_cons_succ])
     go_cut [60] (fun v60 wc => ∃ (kq : Nat) (x60_21 : Bool), v60 = .bool x60_21 ∧ Aside0 (letterbaglaw30_ShiftOptimal.j1 kq t249 t255 t259 x60_21 = some true) ∧ Aside0 (kq ≤ kj9) ∧ Aside0 (Kd.R k45 45 wc w.heap.size (fun _ => True) (.slice Ao13 t249.length co13) t249) ∧ Aside0 (Kd.R k51 51 wc w.heap.size (fun k_ => some k_ ≠ ((.slice Ao17 t259.length co17) : Value).ownBlock) v257 t255) ∧ Aside0 (Kd.R k51 51 wc w.heap.size (fun k_ => some k_ ≠ (v257 : Value).ownBlock) (.slice Ao17 t259.length co17) t259) ∧ Aside0 (Below w.heap.size w wc))
     case first =>
      have H := HC22.out
      clear HC22
      replace H := Option.bind_eq_some_iff.mp H
      obtain ⟨t267, A240, H⟩ := H
      replace H : (if (t267.length : Int) > 0 then (letterbaglaw30_ShiftOptimal.j1 kj9 t249 t255 t259 ((t264.length : Int) == 0)) else (letterbaglaw30_ShiftOptimal.j1 kj9 t249 t255 t259 false)) = some true := H
      have A24 := Aside0.mk A240
      clear A240
      by_cases c25 : (t267.length : Int) > 0
      ·rw [if_pos c25] at H
       have c25b0 : decide (0 < (t267.length : Int)) = true := decide_eq_true c25
       have c25b1 : decide (0 < t267.length) = true := decide_eq_true (by omega)
       clear c25
       (skip)
       have H' := Aside0.mk H
       clear H
       obtain ⟨Ao26, co26, eo26⟩ := Kd.R_slice HO_9.out
       subst eo26
       go_wp2_with (((with_reducible refine gate_callee (f := 15) rfl ?_); refine goesL_ (some 53) rfl rfl Try.func15 (by kernel_rfl) rfl #[.slice Ao13 t249.length co13, .slice Ao26 t255.length co26] rfl (by (try simp only [List.map_toArray, List.map_cons, List.map_nil]); rfl) ?_; (with_reducible refine (shift_Late.calls kj9 _ _ t249 _ _ t255 t267 _ ?side1 ?side2 ?side3 ?side4 A24.out).mono ?_); (case side1 => repeat (exact (Kd.R_reads' HO_7.out).2.2)); (case side2 => exact (Kd.R_reads' HO_7.out).2.1); (case side3 => repeat (exact (Kd.R_reads' HO_9.out).2.2)); (case side4 => exact (Kd.R_reads' HO_9.out).2.1); rintro e w27 ⟨v268, rfl, ho0, hb⟩; refine ⟨_, rfl, ?_⟩; have n0_ := Aside0.mk (Kd.R_below (by (with_reducible repeat (fail)); exact HO_7.out) hb); have n1_ := Aside0.mk (Kd.R_below (by (with_reducible repeat (fail)); exact HO_9.out) hb); have n2_ := Aside0.mk (Kd.R_below (by (with_reducible repeat (fail)); exact HO_11.out) hb); have n3_ := Aside0.mk (Kd.R_elder' (by (with_reducible repeat (fail)); exact HO266.out) (Kd.R_base ho0) hb); have n4_ := Aside0.mk (Kd.R_lower (Kd.R_new' ho0 (Kd.R_lt (by (with_reducible repeat (fail)); exact HO266.out))) (below_size (by repeat ((with_reducible exact HB.out))))); have n5_ := Aside0.mk (below_step (by repeat ((with_reducible exact HB.out))) hb); clear HO_7; clear HO_9; clear HO_11; clear HO266; clear HB; have HO_7 := n0_; have HO_9 := n1_; have HO_11 := n2_; have HO266 := n3_; have HO269 := n4_; have HB := n5_; clear n0_ n1_ n2_ n3_ n4_ n5_; (try clear hb); (try clear hb2); (try clear hk); (try clear hi); (try clear ho0); obtain ⟨Ao28, co28, eo28⟩ := Kd.R_slice HO269.out; subst eo28; obtain ⟨Ao29, co29, eo29⟩ := Kd.R_slice HO266.out; subst eo29))
       go_meet
       case rel => exact ⟨_, (((t264.length : Int) == 0)), (by rfl), H', ⟨by have := HJ9.out; omega⟩, ⟨by (with_reducible repeat (fail)); exact HO_7.out⟩, ⟨by (with_reducible repeat (fail)); exact HO_9.out⟩, ⟨by (with_reducible repeat (fail)); exact HO_11.out⟩, ⟨by repeat ((with_reducible exact HB.out))⟩⟩
      ·rw [if_neg c25] at H
       have c25b0 : decide (0 < (t267.length : Int)) = false := decide_eq_false c25
       have c25b1 : decide (0 < t267.length) = false := decide_eq_false (by omega)
       clear c25
       (skip)
       have H' := Aside0.mk H
       clear H
       obtain ⟨Ao30, co30, eo30⟩ := Kd.R_slice HO_9.out
       subst eo30
       go_wp2_with (((with_reducible refine gate_callee (f := 15) rfl ?_); refine goesL_ (some 53) rfl rfl Try.func15 (by kernel_rfl) rfl #[.slice Ao13 t249.length co13, .slice Ao30 t255.length co30] rfl (by (try simp only [List.map_toArray, List.map_cons, List.map_nil]); rfl) ?_; (with_reducible refine (shift_Late.calls kj9 _ _ t249 _ _ t255 t267 _ ?side1 ?side2 ?side3 ?side4 A24.out).mono ?_); (case side1 => repeat (exact (Kd.R_reads' HO_7.out).2.2)); (case side2 => exact (Kd.R_reads' HO_7.out).2.1); (case side3 => repeat (exact (Kd.R_reads' HO_9.out).2.2)); (case side4 => exact (Kd.R_reads' HO_9.out).2.1); rintro e w31 ⟨v268, rfl, ho0, hb⟩; refine ⟨_, rfl, ?_⟩; have n0_ := Aside0.mk (Kd.R_below (by (with_reducible repeat (fail)); exact HO_7.out) hb); have n1_ := Aside0.mk (Kd.R_below (by (with_reducible repeat (fail)); exact HO_9.out) hb); have n2_ := Aside0.mk (Kd.R_below (by (with_reducible repeat (fail)); exact HO_11.out) hb); have n3_ := Aside0.mk (Kd.R_elder' (by (with_reducible repeat (fail)); exact HO266.out) (Kd.R_base ho0) hb); have n4_ := Aside0.mk (Kd.R_lower (Kd.R_new' ho0 (Kd.R_lt (by (with_reducible repeat (fail)); exact HO266.out))) (below_size (by repeat ((with_reducible exact HB.out))))); have n5_ := Aside0.mk (below_step (by repeat ((with_reducible exact HB.out))) hb); clear HO_7; clear HO_9; clear HO_11; clear HO266; clear HB; have HO_7 := n0_; have HO_9 := n1_; have HO_11 := n2_; have HO266 := n3_; have HO269 := n4_; have HB := n5_; clear n0_ n1_ n2_ n3_ n4_ n5_; (try clear hb); (try clear hb2); (try clear hk); (try clear hi); (try clear ho0); obtain ⟨Ao32, co32, eo32⟩ := Kd.R_slice HO269.out; subst eo32))
       go_meet
       case rel => exact ⟨_, (false), (by rfl), H', ⟨by have := HJ9.out; omega⟩, ⟨by (with_reducible repeat (fail)); exact HO_7.out⟩, ⟨by (with_reducible repeat (fail)); exact HO_9.out⟩, ⟨by (with_reducible repeat (fail)); exact HO_11.out⟩, ⟨by repeat ((with_reducible exact HB.out))⟩⟩
     case rest =>
      clear HC22
      try clear c1
      try clear c2
      try clear p2
      try clear c3
      try clear c7
      try clear c7b0
      try clear c7b1
      try clear c10
      try clear c11
      try clear c12
      try clear c13
      try clear c14
      try clear c15
      try clear c19
      try clear c19b0
      try clear c19b1
      try clear c20
      try clear c25
      try clear c25b0
      try clear c25b1
      try clear p2
      obtain ⟨kq, x60_21, rfl, HA, HJ21, HO_7, HO_9, HO_11, HB⟩ := hcut
      cases kq with
      | zero => exact absurd HA.out (by simp [letterbaglaw30_ShiftOptimal.j1])
      | succ kj21 =>
       have H := HA.out
       clear HA
       simp only [letterbaglaw30_ShiftOptimal.j1] at H
       by_cases c33 : x60_21 = true
       ·subst c33
        have H1 : (some false) = some true := by rw [if_pos rfl] at H; exact H
        clear H
        have H := H1
        clear H1
        exact absurd H (by simp)
       ·replace c33 := Bool.eq_false_iff.mpr c33
        subst c33
        have H1 : ((letterbaglaw30_worst.f kj21 t249 t255).bind fun bt270 => ((letterbaglaw30_worst.f kj21 t249 t259).bind fun bt272 => (if bt272.2 = true then (if bt270.2 = true then (if (t249.length : Int) = 0 then ((letterbaglaw30_awake.f kj21).bind fun t274 => (some t274)) else (if bt270.1 ≤ bt272.1 then ((letterbaglaw30_awake.f kj21).bind fun t275 => (some t275)) else (some false))) else (some false)) else ((letterbaglaw30_awake.f kj21).bind fun t276 => (some t276))))) = some true := by rw [if_neg (show ¬ (false = true) by decide)] at H; exact H
        clear H
        have H := H1
        clear H1
        replace H := Option.bind_eq_some_iff.mp H
        obtain ⟨⟨t270, t271⟩, A340, H⟩ := H
        replace H : ((letterbaglaw30_worst.f kj21 t249 t259).bind fun bt272 => (if bt272.2 = true then (if t271 = true then (if (t249.length : Int) = 0 then ((letterbaglaw30_awake.f kj21).bind fun t274 => (some t274)) else (if t270 ≤ bt272.1 then ((letterbaglaw30_awake.f kj21).bind fun t275 => (some t275)) else (some false))) else (some false)) else ((letterbaglaw30_awake.f kj21).bind fun t276 => (some t276)))) = some true := H
        have A34 := Aside0.mk A340
        clear A340
        replace H := Option.bind_eq_some_iff.mp H
        obtain ⟨⟨t272, t273⟩, A350, H⟩ := H
        replace H : (if t273 = true then (if t271 = true then (if (t249.length : Int) = 0 then ((letterbaglaw30_awake.f kj21).bind fun t274 => (some t274)) else (if t270 ≤ t272 then ((letterbaglaw30_awake.f kj21).bind fun t275 => (some t275)) else (some false))) else (some false)) else ((letterbaglaw30_awake.f kj21).bind fun t276 => (some t276))) = some true := H
        have A35 := Aside0.mk A350
        clear A350
        by_cases c36 : t273 = true
        ·subst c36
         have H1 : (if t271 = true then (if (t249.length : Int) = 0 then ((letterbaglaw30_awake.f kj21).bind fun t274 => (some t274)) else (if t270 ≤ t272 then ((letterbaglaw30_awake.f kj21).bind fun t275 => (some t275)) else (some false))) else (some false)) = some true := by rw [if_pos rfl] at H; exact H
         clear H
         have H := H1
         clear H1
         by_cases c37 : t271 = true
         ·subst c37
          have H1 : (if (t249.length : Int) = 0 then ((letterbaglaw30_awake.f kj21).bind fun t274 => (some t274)) else (if t270 ≤ t272 then ((letterbaglaw30_awake.f kj21).bind fun t275 => (some t275)) else (some false))) = some true := by rw [if_pos rfl] at H; exact H
          clear H
          have H := H1
          clear H1
          by_cases c38 : (t249.length : Int) = 0
          ·rw [if_pos c38] at H
           have c38b0 : ((t249.length : Int) == 0) = true := beq_iff_eq.mpr c38
           have c38b1 : ((t249.length : Int) != 0) = false := bne_eq_false_iff_eq.mpr c38
           clear c38
           replace H := Option.bind_eq_some_iff.mp H
           obtain ⟨t274, A390, H⟩ := H
           replace H : (some t274) = some true := H
           have A39 := Aside0.mk A390
           clear A390
           have HT_ := Aside0.mk (Option.some.inj H)
           obtain ⟨Ao40, co40, eo40⟩ := Kd.R_slice HO_9.out
           subst eo40
           go_wp2_with (first | ((with_reducible refine gate_callee (f := 16) rfl ?_); refine goesL_ (some 64) rfl rfl Try.func16 (by kernel_rfl) rfl #[.slice Ao13 t249.length co13, .slice Ao40 t255.length co40] rfl (by (try simp only [List.map_toArray, List.map_cons, List.map_nil]); rfl) ?_; (with_reducible refine (letterbaglaw30_worst.calls kj21 _ _ t249 _ _ t255 t270 true _ ?side1 ?side2 ?side3 ?side4 A34.out).mono ?_); (case side1 => repeat (exact (Kd.R_reads' HO_7.out).2.2)); (case side2 => exact (Kd.R_reads' HO_7.out).2.1); (case side3 => repeat (exact (Kd.R_reads' HO_9.out).2.2)); (case side4 => exact (Kd.R_reads' HO_9.out).2.1); rintro e w41 ⟨rfl, hb⟩; refine ⟨_, rfl, ?_⟩; have n0_ := Aside0.mk (Kd.R_below (by (with_reducible repeat (fail)); exact HO_7.out) hb); have n1_ := Aside0.mk (Kd.R_below (by (with_reducible repeat (fail)); exact HO_9.out) hb); have n2_ := Aside0.mk (Kd.R_below (by (with_reducible repeat (fail)); exact HO_11.out) hb); have n3_ := Aside0.mk (below_step (by repeat ((with_reducible exact HB.out))) hb); clear HO_7; clear HO_9; clear HO_11; clear HB; have HO_7 := n0_; have HO_9 := n1_; have HO_11 := n2_; have HB := n3_; clear n0_ n1_ n2_ n3_; (try clear hb); (try clear hb2); (try clear hk); (try clear hi)) | ((with_reducible refine gate_callee (f := 16) rfl ?_); refine goesL_ (some 70) rfl rfl Try.func16 (by kernel_rfl) rfl #[.slice Ao13 t249.length co13, .slice Ao17 t259.length co17] rfl (by (try simp only [List.map_toArray, List.map_cons, List.map_nil]); rfl) ?_; (with_reducible refine (letterbaglaw30_worst.calls kj21 _ _ t249 _ _ t259 t272 true _ ?side1 ?side2 ?side3 ?side4 A35.out).mono ?_); (case side1 => repeat (exact (Kd.R_reads' HO_7.out).2.2)); (case side2 => exact (Kd.R_reads' HO_7.out).2.1); (case side3 => repeat (exact (Kd.R_reads' HO_11.out).2.2)); (case side4 => exact (Kd.R_reads' HO_11.out).2.1); rintro e w42 ⟨rfl, hb⟩; refine ⟨_, rfl, ?_⟩; have n0_ := Aside0.mk (Kd.R_below (by (with_reducible repeat (fail)); exact HO_7.out) hb); have n1_ := Aside0.mk (Kd.R_below (by (with_reducible repeat (fail)); exact HO_9.out) hb); have n2_ := Aside0.mk (Kd.R_below (by (with_reducible repeat (fail)); exact HO_11.out) hb); have n3_ := Aside0.mk (below_step (by repeat ((with_reducible exact HB.out))) hb); clear HO_7; clear HO_9; clear HO_11; clear HB; have HO_7 := n0_; have HO_9 := n1_; have HO_11 := n2_; have HB := n3_; clear n0_ n1_ n2_ n3_; (try clear hb); (try clear hb2); (try clear hk); (try clear hi)) | (go_at_call 17; (with_reducible refine (letterbaglaw30_awake.calls kj21  t274 _ A39.out).mono ?_); rintro e w43 ⟨rfl, hb⟩; have n0_ := Aside0.mk (Kd.R_below (by (with_reducible repeat (fail)); exact HO_7.out) hb); have n1_ := Aside0.mk (Kd.R_below (by (with_reducible repeat (fail)); exact HO_9.out) hb); have n2_ := Aside0.mk (Kd.R_below (by (with_reducible repeat (fail)); exact HO_11.out) hb); have n3_ := Aside0.mk (below_step (by repeat ((with_reducible exact HB.out))) hb); clear HO_7; clear HO_9; clear HO_11; clear HB; have HO_7 := n0_; have HO_9 := n1_; have HO_11 := n2_; have HB := n3_; clear n0_ n1_ n2_ n3_; (try clear hb); (try clear hb2); (try clear hk); (try clear hi)))
           go_ret
           exact ⟨by (rw [HT_.out]; rfl), by repeat ((with_reducible exact HB.out))⟩
          ·rw [if_neg c38] at H
           have c38b0 : ((t249.length : Int) == 0) = false := beq_eq_false_iff_ne.mpr c38
           have c38b1 : ((t249.length : Int) != 0) = true := bne_iff_ne.mpr c38
           have c38b2 : ¬ (t249 = []) := fun h_ => c38 (by rw [h_]; rfl)
           by_cases c44 : t270 ≤ t272
           ·rw [if_pos c44] at H
            have c44b0 : decide (t270 ≤ t272) = true := decide_eq_true c44
            clear c44
            replace H := Option.bind_eq_some_iff.mp H
            obtain ⟨t275, A450, H⟩ := H
            replace H : (some t275) = some true := H
            have A45 := Aside0.mk A450
            clear A450
            have HT_ := Aside0.mk (Option.some.inj H)
            obtain ⟨Ao46, co46, eo46⟩ := Kd.R_slice HO_9.out
            subst eo46
            go_wp2_with (first | ((with_reducible refine gate_callee (f := 16) rfl ?_); refine goesL_ (some 64) rfl rfl Try.func16 (by kernel_rfl) rfl #[.slice Ao13 t249.length co13, .slice Ao46 t255.length co46] rfl (by (try simp only [List.map_toArray, List.map_cons, List.map_nil]); rfl) ?_; (with_reducible refine (letterbaglaw30_worst.calls kj21 _ _ t249 _ _ t255 t270 true _ ?side1 ?side2 ?side3 ?side4 A34.out).mono ?_); (case side1 => repeat (exact (Kd.R_reads' HO_7.out).2.2)); (case side2 => exact (Kd.R_reads' HO_7.out).2.1); (case side3 => repeat (exact (Kd.R_reads' HO_9.out).2.2)); (case side4 => exact (Kd.R_reads' HO_9.out).2.1); rintro e w47 ⟨rfl, hb⟩; refine ⟨_, rfl, ?_⟩; have n0_ := Aside0.mk (Kd.R_below (by (with_reducible repeat (fail)); exact HO_7.out) hb); have n1_ := Aside0.mk (Kd.R_below (by (with_reducible repeat (fail)); exact HO_9.out) hb); have n2_ := Aside0.mk (Kd.R_below (by (with_reducible repeat (fail)); exact HO_11.out) hb); have n3_ := Aside0.mk (below_step (by repeat ((with_reducible exact HB.out))) hb); clear HO_7; clear HO_9; clear HO_11; clear HB; have HO_7 := n0_; have HO_9 := n1_; have HO_11 := n2_; have HB := n3_; clear n0_ n1_ n2_ n3_; (try clear hb); (try clear hb2); (try clear hk); (try clear hi)) | ((with_reducible refine gate_callee (f := 16) rfl ?_); refine goesL_ (some 70) rfl rfl Try.func16 (by kernel_rfl) rfl #[.slice Ao13 t249.length co13, .slice Ao17 t259.length co17] rfl (by (try simp only [List.map_toArray, List.map_cons, List.map_nil]); rfl) ?_; (with_reducible refine (letterbaglaw30_worst.calls kj21 _ _ t249 _ _ t259 t272 true _ ?side1 ?side2 ?side3 ?side4 A35.out).mono ?_); (case side1 => repeat (exact (Kd.R_reads' HO_7.out).2.2)); (case side2 => exact (Kd.R_reads' HO_7.out).2.1); (case side3 => repeat (exact (Kd.R_reads' HO_11.out).2.2)); (case side4 => exact (Kd.R_reads' HO_11.out).2.1); rintro e w48 ⟨rfl, hb⟩; refine ⟨_, rfl, ?_⟩; have n0_ := Aside0.mk (Kd.R_below (by (with_reducible repeat (fail)); exact HO_7.out) hb); have n1_ := Aside0.mk (Kd.R_below (by (with_reducible repeat (fail)); exact HO_9.out) hb); have n2_ := Aside0.mk (Kd.R_below (by (with_reducible repeat (fail)); exact HO_11.out) hb); have n3_ := Aside0.mk (below_step (by repeat ((with_reducible exact HB.out))) hb); clear HO_7; clear HO_9; clear HO_11; clear HB; have HO_7 := n0_; have HO_9 := n1_; have HO_11 := n2_; have HB := n3_; clear n0_ n1_ n2_ n3_; (try clear hb); (try clear hb2); (try clear hk); (try clear hi)) | (go_at_call 17; (with_reducible refine (letterbaglaw30_awake.calls kj21  t275 _ A45.out).mono ?_); rintro e w49 ⟨rfl, hb⟩; have n0_ := Aside0.mk (Kd.R_below (by (with_reducible repeat (fail)); exact HO_7.out) hb); have n1_ := Aside0.mk (Kd.R_below (by (with_reducible repeat (fail)); exact HO_9.out) hb); have n2_ := Aside0.mk (Kd.R_below (by (with_reducible repeat (fail)); exact HO_11.out) hb); have n3_ := Aside0.mk (below_step (by repeat ((with_reducible exact HB.out))) hb); clear HO_7; clear HO_9; clear HO_11; clear HB; have HO_7 := n0_; have HO_9 := n1_; have HO_11 := n2_; have HB := n3_; clear n0_ n1_ n2_ n3_; (try clear hb); (try clear hb2); (try clear hk); (try clear hi)))
            go_ret
            exact ⟨by (rw [HT_.out]; rfl), by repeat ((with_reducible exact HB.out))⟩
           ·rw [if_neg c44] at H
            have c44b0 : decide (t270 ≤ t272) = false := decide_eq_false c44
            clear c44
            exact absurd H (by simp)
         ·replace c37 := Bool.eq_false_iff.mpr c37
          subst c37
          have H1 : (some false) = some true := by rw [if_neg (show ¬ (false = true) by decide)] at H; exact H
          clear H
          have H := H1
          clear H1
          exact absurd H (by simp)
        ·replace c36 := Bool.eq_false_iff.mpr c36
         subst c36
         have H1 : ((letterbaglaw30_awake.f kj21).bind fun t276 => (some t276)) = some true := by rw [if_neg (show ¬ (false = true) by decide)] at H; exact H
         clear H
         have H := H1
         clear H1
         replace H := Option.bind_eq_some_iff.mp H
         obtain ⟨t276, A500, H⟩ := H
         replace H : (some t276) = some true := H
         have A50 := Aside0.mk A500
         clear A500
         have HT_ := Aside0.mk (Option.some.inj H)
         obtain ⟨Ao51, co51, eo51⟩ := Kd.R_slice HO_9.out
         subst eo51
         go_wp2_with (first | ((with_reducible refine gate_callee (f := 16) rfl ?_); refine goesL_ (some 64) rfl rfl Try.func16 (by kernel_rfl) rfl #[.slice Ao13 t249.length co13, .slice Ao51 t255.length co51] rfl (by (try simp only [List.map_toArray, List.map_cons, List.map_nil]); rfl) ?_; (with_reducible refine (letterbaglaw30_worst.calls kj21 _ _ t249 _ _ t255 t270 t271 _ ?side1 ?side2 ?side3 ?side4 A34.out).mono ?_); (case side1 => repeat (exact (Kd.R_reads' HO_7.out).2.2)); (case side2 => exact (Kd.R_reads' HO_7.out).2.1); (case side3 => repeat (exact (Kd.R_reads' HO_9.out).2.2)); (case side4 => exact (Kd.R_reads' HO_9.out).2.1); rintro e w52 ⟨rfl, hb⟩; refine ⟨_, rfl, ?_⟩; have n0_ := Aside0.mk (Kd.R_below (by (with_reducible repeat (fail)); exact HO_7.out) hb); have n1_ := Aside0.mk (Kd.R_below (by (with_reducible repeat (fail)); exact HO_9.out) hb); have n2_ := Aside0.mk (Kd.R_below (by (with_reducible repeat (fail)); exact HO_11.out) hb); have n3_ := Aside0.mk (below_step (by repeat ((with_reducible exact HB.out))) hb); clear HO_7; clear HO_9; clear HO_11; clear HB; have HO_7 := n0_; have HO_9 := n1_; have HO_11 := n2_; have HB := n3_; clear n0_ n1_ n2_ n3_; (try clear hb); (try clear hb2); (try clear hk); (try clear hi)) | ((with_reducible refine gate_callee (f := 16) rfl ?_); refine goesL_ (some 70) rfl rfl Try.func16 (by kernel_rfl) rfl #[.slice Ao13 t249.length co13, .slice Ao17 t259.length co17] rfl (by (try simp only [List.map_toArray, List.map_cons, List.map_nil]); rfl) ?_; (with_reducible refine (letterbaglaw30_worst.calls kj21 _ _ t249 _ _ t259 t272 false _ ?side1 ?side2 ?side3 ?side4 A35.out).mono ?_); (case side1 => repeat (exact (Kd.R_reads' HO_7.out).2.2)); (case side2 => exact (Kd.R_reads' HO_7.out).2.1); (case side3 => repeat (exact (Kd.R_reads' HO_11.out).2.2)); (case side4 => exact (Kd.R_reads' HO_11.out).2.1); rintro e w53 ⟨rfl, hb⟩; refine ⟨_, rfl, ?_⟩; have n0_ := Aside0.mk (Kd.R_below (by (with_reducible repeat (fail)); exact HO_7.out) hb); have n1_ := Aside0.mk (Kd.R_below (by (with_reducible repeat (fail)); exact HO_9.out) hb); have n2_ := Aside0.mk (Kd.R_below (by (with_reducible repeat (fail)); exact HO_11.out) hb); have n3_ := Aside0.mk (below_step (by repeat ((with_reducible exact HB.out))) hb); clear HO_7; clear HO_9; clear HO_11; clear HB; have HO_7 := n0_; have HO_9 := n1_; have HO_11 := n2_; have HB := n3_; clear n0_ n1_ n2_ n3_; (try clear hb); (try clear hb2); (try clear hk); (try clear hi)) | (go_at_call 17; (with_reducible refine (letterbaglaw30_awake.calls kj21  t276 _ A50.out).mono ?_); rintro e w54 ⟨rfl, hb⟩; have n0_ := Aside0.mk (Kd.R_below (by (with_reducible repeat (fail)); exact HO_7.out) hb); have n1_ := Aside0.mk (Kd.R_below (by (with_reducible repeat (fail)); exact HO_9.out) hb); have n2_ := Aside0.mk (Kd.R_below (by (with_reducible repeat (fail)); exact HO_11.out) hb); have n3_ := Aside0.mk (below_step (by repeat ((with_reducible exact HB.out))) hb); clear HO_7; clear HO_9; clear HO_11; clear HB; have HO_7 := n0_; have HO_9 := n1_; have HO_11 := n2_; have HB := n3_; clear n0_ n1_ n2_ n3_; (try clear hb); (try clear hb2); (try clear hk); (try clear hi)))
         go_ret
         exact ⟨by (rw [HT_.out]; rfl), by repeat ((with_reducible exact HB.out))⟩
 ·rw [if_neg c7] at H
  have c7b0 : (t256 == 0) = false := beq_eq_false_iff_ne.mpr c7
  have c7b1 : (t256 != 0) = true := bne_iff_ne.mpr c7
  exact absurd H (by simp)
end Go.Proofs.Ytbnjdlafnejanaa.Pr
namespace Go.Proofs.Ytbnjdlafnejanaa.Pr
open Go.RowKit Go.Proofs.YtbnjdlafnejanaaW.PrintWords Go.Proofs.YtbnjdlafnejanaaW.PrintLast Go.Proofs.YtbnjdlafnejanaaW.PrintMore
theorem optimal_j1 {l : List S45} {l1 : List S47} {b : List S51} (hJ : Sh.BJ (l.map toJ)) (hS : Sh.BS (l1.map toS)) (hl : l.length ≤ 200) (hl1 : l1.length ≤ 200) (h : Sh.Sched (l.map toJ) (l1.map toS) (b.map toL)) (hlen : b.length ≤ 1000000)
    (hpl : (planOf l l1).length ≤ 1000000) : Ev (fun k => letterbaglaw30_ShiftOptimal.j1 k l (planOf l l1) b false) true := by
  have hEa := ends_sched hJ hS hl (plan_sched hJ hS) hpl
  have hEb := ends_sched hJ hS hl h hlen
  refine Ev.step (fun k => letterbaglaw30_ShiftOptimal.j1.eq_2 _ _ _ _ k) ?_
  refine ev_neg (by decide) ?_
  refine Ev.bind (worst_f hEa) (Ev.bind (worst_f hEb) ?_)
  have hA : Ev (fun k => (letterbaglaw30_awake.f k).bind fun t => some t) true := Ev.bind awake_f (Ev.now _)
  by_cases cb : (worstX (-1051898399) (fun x => Sh.endOf x (b.map toL)) (l.map toJ)).2 = true
  · refine ev_pos cb ?_
    have hb := worstX_all.1 cb
    have hle : ∀ T : Int, (∀ x ∈ l.map toJ, Sh.endOf x (b.map toL) ≤ x.due + T) → ∀ x ∈ l.map toJ, 0 ≤ Sh.endOf x ((planOf l l1).map toL) ∧ Sh.endOf x ((planOf l l1).map toL) ≤ x.due + T :=
      fun T hT => optimal_ends hJ hS h T (fun x hx => ⟨hb x hx, hT x hx⟩)
    have hT := (worstX_le (m := -1051898399) (T := (worstX (-1051898399) (fun x => Sh.endOf x (b.map toL)) (l.map toJ)).1) hb).1 (Int.le_refl _)
    have ha := hle _ hT.2
    have ca : (worstX (-1051898399) (fun x => Sh.endOf x ((planOf l l1).map toL)) (l.map toJ)).2 = true := worstX_all.2 (fun x hx => (ha x hx).1)
    refine ev_pos ca ?_
    by_cases c0 : (l.length : Int) = 0
    · exact ev_pos c0 hA
    · refine ev_neg c0 (ev_pos ?_ hA)
      rw [worstX_le (fun x hx => (ha x hx).1)]
      exact ⟨hT.1, fun x hx => (ha x hx).2⟩
  · exact ev_neg cb hA
theorem optimal_all (l0 : List S61) (l1 : List S55) (l2 : List Int) (h0 : ∀ x ∈ l0, b61 x) (h1 : ∀ x ∈ l1, b55 x) (h2 : ∀ v ∈ l2, 0 ≤ v ∧ v ≤ 255) : Ev (fun k => letterbaglaw30_ShiftOptimal.f k l0 l1 l2) true := by
  have hJ := workX_BJ h0
  have hS := hoursX_BS h1
  have hl := workX_len l0
  have hl1 := hoursX_len l1
  have hb : ∀ s ∈ (hoursX l1).map toS, s.to ≤ 256 := fun s hs => (hoursX_bd h1 s hs).2.2.2
  obtain ⟨b, ⟨hb1, hb2⟩, hE⟩ := other_f (l2 := l2) hJ hS hb hl hl1 h2
  have hpl := plan_len hJ hS (hi := 256) (by decide) hb
  unfold letterbaglaw30_ShiftOptimal.f
  refine Ev.bind (work_f h0) (Ev.bind (hours_f h1) (Ev.bind (ev_val (make_f hJ hS (by omega) (by omega))) ?_))
  refine ev_pos rfl (Ev.bind hE (Ev.bind (ev_val (check_sched hJ hS (by omega) (by omega) hb1 (by omega))) (ev_pos rfl ?_)))
  refine Ev.step (fun k => letterbaglaw30_ShiftOptimal.j0.eq_2 _ _ _ _ k) ?_
  refine ev_neg (by decide) ?_
  have hEa := ends_sched hJ hS (by omega) (plan_sched hJ hS) (show (planOf (workX l0) (hoursX l1)).length ≤ 1000000 by omega)
  have hEb := ends_sched hJ hS (by omega) hb1 (show b.length ≤ 1000000 by omega)
  refine Ev.bind (late_f hEb) (Ev.bind (late_f hEa) ?_)
  have hj1 := optimal_j1 hJ hS (by omega) (by omega) hb1 (by omega) (show (planOf (workX l0) (hoursX l1)).length ≤ 1000000 by omega)
  by_cases c : ((lateX (workX l0) fun x => Sh.endOf x ((planOf (workX l0) (hoursX l1)).map toL)).length : Int) > 0
  · refine ev_pos c ?_
    have hne : lateX (workX l0) (fun x => Sh.endOf x (b.map toL)) ≠ [] := by
      intro h
      have h3 := lateX_nil.1 h
      have h4 := optimal_ends hJ hS hb1 0 (fun x hx => by have := h3 x hx; omega)
      have h5 := lateX_nil.2 (fun x hx => by have := h4 x hx; omega : ∀ x ∈ (workX l0).map toJ, 0 ≤ Sh.endOf x ((planOf (workX l0) (hoursX l1)).map toL) ∧ Sh.endOf x ((planOf (workX l0) (hoursX l1)).map toL) ≤ x.due)
      rw [h5] at c
      simp at c
    have e : (((lateX (workX l0) fun x => Sh.endOf x (b.map toL)).length : Int) == 0) = false := by
      rw [beq_eq_false_iff_ne]
      intro hc
      exact hne (List.length_eq_zero_iff.1 (by omega))
    rw [e]
    exact hj1
  · exact ev_neg c hj1
end Go.Proofs.Ytbnjdlafnejanaa.Pr
namespace Go.Proofs.Ytbnjdlafnejanaa.shiftOptimal
open Go.ChangeShapes Go.WideShapes Go.ChangeAt Go.RowKit
set_option linter.unusedVariables false
theorem own : ownKnob Try.prog.godebug = none := by kernel_rfl
theorem laidOut : laidOutB Try.prog = true := by kernel_rfl
set_option maxRecDepth 100000 in
theorem lifted (os : Os) (started : os.Started) (H : Type) (enc : TypeId × Value → H) :
    ReturnsInHanded {} Try.checked os 3 .any (Rows.shiftOptimalSpec.pre6 enc Try.prog Try.f3 Rows.shiftOptimalRow.domain false) (Rows.shiftOptimalSpec.post enc Try.prog Try.f3 false true false false) := by
  refine returnsInHanded_of_change_sized (C := Try.checked) own started (by kernel_rfl) Try.func3
    (ChangeSpec.witness6 (enc := enc) (C := Try.checked) false ⟨#[], #[.slice none 0 0, .slice none 0 0, .slice none 0 0], []⟩ 8 (by kernel_rfl) (by kernel_rfl) (by kernel_rfl) (by kernel_rfl)) ?_
  intro W base args ds gs before hval0 hW hcnd hsz0 _
  have hval : ∀ (j : Nat) t v, Try.f3.params[j]? = some t → args[j]? = some v → Value.okWide Try.prog W .any base t v := hval0
  have hW' := hW
  obtain ⟨p, q, hA0, hV, rfl, hfz, hnd⟩ := hW
  have hA : DataW.TrodAll enc Try.prog W 0 (fun _ => true) true Try.f3.params.toList args.toList ds p := hA0
  rw [Try.params3] at hA hval
  obtain ⟨v0, vs0, d0, ds0, p0, q0, hargs, rfl, rfl, h0, r0⟩ := trodAll_cons hA
  obtain ⟨v1, vs1, d1, ds1, p1, q1, rfl, rfl, rfl, h1, r1⟩ := trodAll_cons r0
  obtain ⟨v2, vs2, d2, ds2, p2, q2, rfl, rfl, rfl, h2, r2⟩ := trodAll_cons r1
  obtain ⟨rfl, rfl, rfl⟩ := trodAll_nil r2
  obtain rfl : args = #[v0, v1, v2] := by cases args; simp_all
  obtain ⟨rfl, rfl⟩ := trodVars_none hV
  obtain ⟨a0, len0, cap0, rfl⟩ := okWide_slice Try.underlying22 (hval 0 22 v0 rfl rfl)
  have k0 := h0
  have lt0 : ∀ x ∈ p0, x.block < W.heap.size := by obtain ⟨m, hm⟩ := k0; exact DataW.trod_lt m _ _ _ hm
  obtain ⟨l0, e0, c0, hr0, hb0⟩ := Pr.open61 h0
  subst e0
  obtain ⟨a1, len1, cap1, rfl⟩ := okWide_slice Try.underlying23 (hval 1 23 v1 rfl rfl)
  have k1 := h1
  have lt1 : ∀ x ∈ p1, x.block < W.heap.size := by obtain ⟨m, hm⟩ := k1; exact DataW.trod_lt m _ _ _ hm
  obtain ⟨l1, e1, c1, hr1, hb1⟩ := Pr.open55 h1
  subst e1
  obtain ⟨a2, len2, cap2, rfl⟩ := okWide_slice Try.underlying24 (hval 2 24 v2 rfl rfl)
  have k2 := h2
  have lt2 : ∀ x ∈ p2, x.block < W.heap.size := by obtain ⟨m, hm⟩ := k2; exact DataW.trod_lt m _ _ _ hm
  obtain ⟨l2, e2, c2, hr2, hb2⟩ := Pr.open_u8s h2
  subst e2
  clear hA0 hval0 hsz0
  obtain ⟨k, hk⟩ := (Pr.optimal_all l0 l1 l2 hb0 hb1 hb2).rounds
  refine (Pr.letterbaglaw30_ShiftOptimal.calls k a0 cap0 l0 a1 cap1 l1 a2 cap2 l2 W hr0 c0 hr1 c1 hr2 c2 hk).mono fun e W' ⟨he, bel⟩ => ?_
  subst he
  exact ⟨_, rfl, _, _, _, [], _, [], hW', trodAll_mk1 (shut_bool Try.underlying4 _), (trodAll_cons_mk (Below.trod laidOut (by kernel_rfl) (of_decide_eq_true (by kernel_rfl)) k0 bel lt0) (trodAll_cons_mk (Below.trod laidOut (by kernel_rfl) (of_decide_eq_true (by kernel_rfl)) k1 bel lt1) (trodAll_cons_mk (Below.trod laidOut (by kernel_rfl) (of_decide_eq_true (by kernel_rfl)) k2 bel lt2) trodAll_mk0))), rfl, bel.frame _, fun h => by cases h⟩
theorem over : Rows.shiftOptimalRow.holds Try.pinned (OpenSpec.ofChange Rows.shiftOptimalSpec) :=
  OpenClaim.holds_of_wide 3 Try.f3 rfl rfl rfl rfl rfl rfl rfl ⟨rfl, rfl, rfl, rfl, rfl⟩ rfl rfl rfl rfl rfl (by kernel_rfl) Try.func3 (by kernel_rfl)
    (of_decide_eq_true (by kernel_rfl)) (by unfold Func.isWrapper; first | (rw [if_pos (by decide +kernel)]; kernel_rfl) | (rw [if_neg (by decide +kernel)]; exact ⟨rfl, rfl⟩))
    (fun os started H enc _ => lifted os started H enc)
theorem proved : Rows.ShiftOptimalSaid := over
end Go.Proofs.Ytbnjdlafnejanaa.shiftOptimal
namespace Go.Proofs.Ytbnjdlafnejanaa
/-- The row, under a short name, for the claim. -/
theorem shiftOptimal_holds : Rows.ShiftOptimalSaid := shiftOptimal.proved
end Go.Proofs.Ytbnjdlafnejanaa
