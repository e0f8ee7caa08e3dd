/- Joined by a program of this session (pack2.py): parts of the kit's printed words, printed walks and this session's own texts that several laws share. -/
import Derived.Test.YtbnjdlafnejanaaBa
import Derived.Test.YtbnjdlafnejanaaBb
import Derived.Test.YtbnjdlafnejanaaProg
import Derived.Below
import Derived.Deep.Draws
import Derived.Deep.AppendLies
import Derived.Maps.AppendAt
import Derived.OwnWalk
import Derived.Laws.BytesArg
import Derived.Laws.MakeOwn
import Derived.Laws.OwnMore
import Derived.Deep.OwnRows
import Derived.Tactics
import Derived.Lib.ConvBytes
import Derived.Laws.Slices
import Derived.WalkKit
import Derived.KernelRfl
import Derived.RowKit3
import Derived.Deep.LoopGhost
import Derived.Deep.QuietTactic
import Derived.BigQuiet
import Derived.WideLaws
import Derived.Deep.DeepCutAuto
import Derived.Deep.CutBlock
import Derived.Deep.RegionHeld3
import Derived.Laws.Rows
import Derived.Lib.AppendStr
import Derived.ArgAppend
import Derived.Laws.IdiomCopy
import Derived.OrdersHeld
import Derived.Laws.BitsLemmas
import Derived.RowKit
import Derived.Maps.Own
import Derived.Maps.OwnOps
import Derived.Maps.OwnSet
import Derived.Deep.Slices
import Derived.Deep.Fields
import Derived.ChangeSame
import Derived.DataShut
import Derived.ProofKit
import Derived.OpenShut
namespace Go.Proofs.Ytbnjdlafnejanaa.Pr
open Go.RowKit Go.Proofs.YtbnjdlafnejanaaW.PrintWords Go.Proofs.YtbnjdlafnejanaaW.PrintLast Go.Proofs.YtbnjdlafnejanaaW.PrintMore
attribute [local go_sem] max2_int min2_int max_two min_two max_three min_three max_four min_four   -- for this text's walks alone
set_option linter.unusedVariables false
set_option linter.unusedSimpArgs false
def errW : Option Int → Value
 | none => .nilIface
 | some c => .iface 0 (.int .i64 c)
theorem errW_none : errW none = .nilIface := rfl
theorem errW_some (c : Int) : errW (some c) = .iface 0 (.int .i64 c) := rfl
theorem info3 : (Try.prog.info? 3).map (fun i => (i.zero, i.size, i.bytes)) = some (some (.int .i64 0), 1, 8) := by kernel_rfl
theorem info45 : (Try.prog.info? 45).map (fun i => (i.zero, i.size, i.bytes)) = some (some (.agg #[(.int .i64 0), (.int .i64 0), (.int .i64 0), (.int .i64 0)]), 4, 32) := by kernel_rfl
theorem info47 : (Try.prog.info? 47).map (fun i => (i.zero, i.size, i.bytes)) = some (some (.agg #[(.int .i64 0), (.int .i64 0)]), 2, 16) := by kernel_rfl
theorem info51 : (Try.prog.info? 51).map (fun i => (i.zero, i.size, i.bytes)) = some (some (.agg #[(.int .i64 0), (.int .i64 0), (.int .i64 0)]), 3, 24) := by kernel_rfl
structure S61 where
 f0 : Int
 f1 : Int
 f2 : Int
def z61 : S61 := ⟨(0 : Int), (0 : Int), (0 : Int)⟩
def k61 : Kd S61 := Kd.iso (Kd.pair (Kd.int .u8) (Kd.pair (Kd.int .u8) (Kd.int .u8))) (fun x : S61 => (x.f0, x.f1, x.f2))
theorem k61_open {w : World} {x : S61} {cs : List Value} (h : k61.K w x cs) : cs = [.int .u8 x.f0, .int .u8 x.f1, .int .u8 x.f2] := by
 obtain ⟨_, _, rfl, rfl, ⟨_, _, rfl, rfl, rfl⟩⟩ := h
 exact rfl
theorem k61_mk (w : World) (x : S61)  : k61.K w x [.int .u8 x.f0, .int .u8 x.f1, .int .u8 x.f2] := ⟨[.int .u8 x.f0], [.int .u8 x.f1, .int .u8 x.f2], rfl, rfl, ⟨[.int .u8 x.f1], [.int .u8 x.f2], rfl, rfl, rfl⟩⟩
def rd_T61 (xs : List S61) (i : Int) : S61 := xs.getD i.toNat z61
theorem at_T61 {w : World} {A : Option Addr} {n : Nat} {xs : List S61} (h : Kd.C k61 w A n xs) (i : Int) (h0 : 0 ≤ i) (h1 : i < n) : ∃ ad , A = some ad ∧ w.cell? (ad.add (i.toNat * 3)) = some (.int .u8 (rd_T61 xs i).f0) ∧ w.cell? ⟨(ad.add (i.toNat * 3)).block, (ad.add (i.toNat * 3)).off + 1, none⟩ = some (.int .u8 (rd_T61 xs i).f1) ∧ w.cell? ⟨(ad.add (i.toNat * 3)).block, (ad.add (i.toNat * 3)).off + 2, none⟩ = some (.int .u8 (rd_T61 xs i).f2) := by
 obtain ⟨ad, c, e, _, hK, hc0⟩ := Kd.C_get h z61 i h0 h1
 have hc : ∀ j u, c[j]? = some u → w.cell? (ad.add (i.toNat * 3 + j)) = some u := hc0
 obtain rfl := k61_open hK
 exact ⟨ad, e, hc 0 _ rfl, by rw [← add_field _ _ 1 (by omega)]; exact hc 1 _ rfl, by rw [← add_field _ _ 2 (by omega)]; exact hc 2 _ rfl⟩
structure S45 where
 f0 : Int
 f1 : Int
 f2 : Int
 f3 : Int
def z45 : S45 := ⟨(0 : Int), (0 : Int), (0 : Int), (0 : Int)⟩
def k45 : Kd S45 := Kd.iso (Kd.pair (Kd.int .i64) (Kd.pair (Kd.int .i64) (Kd.pair (Kd.int .i64) (Kd.int .i64)))) (fun x : S45 => (x.f0, x.f1, x.f2, x.f3))
theorem k45_open {w : World} {x : S45} {cs : List Value} (h : k45.K w x cs) : cs = [.int .i64 x.f0, .int .i64 x.f1, .int .i64 x.f2, .int .i64 x.f3] := by
 obtain ⟨_, _, rfl, rfl, ⟨_, _, rfl, rfl, ⟨_, _, rfl, rfl, rfl⟩⟩⟩ := h
 exact rfl
theorem k45_openM {w : World} {base : Nat} {ok : Nat → Prop} {x : S45} {cs : List Value} (h : k45.M w base ok x cs) : cs = [.int .i64 x.f0, .int .i64 x.f1, .int .i64 x.f2, .int .i64 x.f3] := by
 obtain ⟨_, _, rfl, rfl, ⟨_, _, rfl, rfl, ⟨_, _, rfl, rfl, rfl⟩⟩⟩ := h
 exact rfl
theorem k45_mkM (w : World) (base : Nat) (ok : Nat → Prop) (x : S45)  : k45.M w base ok x [.int .i64 x.f0, .int .i64 x.f1, .int .i64 x.f2, .int .i64 x.f3] := ⟨[.int .i64 x.f0], [.int .i64 x.f1, .int .i64 x.f2, .int .i64 x.f3], rfl, rfl, ⟨[.int .i64 x.f1], [.int .i64 x.f2, .int .i64 x.f3], rfl, rfl, ⟨[.int .i64 x.f2], [.int .i64 x.f3], rfl, rfl, rfl⟩⟩⟩
def rd_T45 (xs : List S45) (i : Int) : S45 := xs.getD i.toNat z45
theorem at_T45 {w : World} {A : Option Addr} {n : Nat} {xs : List S45} (h : Kd.C k45 w A n xs) (i : Int) (h0 : 0 ≤ i) (h1 : i < n) : ∃ ad , A = some ad ∧ w.cell? (ad.add (i.toNat * 4)) = some (.int .i64 (rd_T45 xs i).f0) ∧ w.cell? ⟨(ad.add (i.toNat * 4)).block, (ad.add (i.toNat * 4)).off + 1, none⟩ = some (.int .i64 (rd_T45 xs i).f1) ∧ w.cell? ⟨(ad.add (i.toNat * 4)).block, (ad.add (i.toNat * 4)).off + 2, none⟩ = some (.int .i64 (rd_T45 xs i).f2) ∧ w.cell? ⟨(ad.add (i.toNat * 4)).block, (ad.add (i.toNat * 4)).off + 3, none⟩ = some (.int .i64 (rd_T45 xs i).f3) := by
 obtain ⟨ad, c, e, _, hK, hc0⟩ := Kd.C_get h z45 i h0 h1
 have hc : ∀ j u, c[j]? = some u → w.cell? (ad.add (i.toNat * 4 + j)) = some u := hc0
 obtain rfl := k45_open hK
 exact ⟨ad, e, hc 0 _ rfl, by rw [← add_field _ _ 1 (by omega)]; exact hc 1 _ rfl, by rw [← add_field _ _ 2 (by omega)]; exact hc 2 _ rfl, by rw [← add_field _ _ 3 (by omega)]; exact hc 3 _ rfl⟩
structure S55 where
 f0 : Int
 f1 : Int
def z55 : S55 := ⟨(0 : Int), (0 : Int)⟩
def k55 : Kd S55 := Kd.iso (Kd.pair (Kd.int .u8) (Kd.int .u8)) (fun x : S55 => (x.f0, x.f1))
theorem k55_open {w : World} {x : S55} {cs : List Value} (h : k55.K w x cs) : cs = [.int .u8 x.f0, .int .u8 x.f1] := by
 obtain ⟨_, _, rfl, rfl, rfl⟩ := h
 exact rfl
theorem k55_mk (w : World) (x : S55)  : k55.K w x [.int .u8 x.f0, .int .u8 x.f1] := ⟨[.int .u8 x.f0], [.int .u8 x.f1], rfl, rfl, rfl⟩
def rd_T55 (xs : List S55) (i : Int) : S55 := xs.getD i.toNat z55
theorem at_T55 {w : World} {A : Option Addr} {n : Nat} {xs : List S55} (h : Kd.C k55 w A n xs) (i : Int) (h0 : 0 ≤ i) (h1 : i < n) : ∃ ad , A = some ad ∧ w.cell? (ad.add (i.toNat * 2)) = some (.int .u8 (rd_T55 xs i).f0) ∧ w.cell? ⟨(ad.add (i.toNat * 2)).block, (ad.add (i.toNat * 2)).off + 1, none⟩ = some (.int .u8 (rd_T55 xs i).f1) := by
 obtain ⟨ad, c, e, _, hK, hc0⟩ := Kd.C_get h z55 i h0 h1
 have hc : ∀ j u, c[j]? = some u → w.cell? (ad.add (i.toNat * 2 + j)) = some u := hc0
 obtain rfl := k55_open hK
 exact ⟨ad, e, hc 0 _ rfl, by rw [← add_field _ _ 1 (by omega)]; exact hc 1 _ rfl⟩
structure S47 where
 f0 : Int
 f1 : Int
def z47 : S47 := ⟨(0 : Int), (0 : Int)⟩
def k47 : Kd S47 := Kd.iso (Kd.pair (Kd.int .i64) (Kd.int .i64)) (fun x : S47 => (x.f0, x.f1))
theorem k47_open {w : World} {x : S47} {cs : List Value} (h : k47.K w x cs) : cs = [.int .i64 x.f0, .int .i64 x.f1] := by
 obtain ⟨_, _, rfl, rfl, rfl⟩ := h
 exact rfl
theorem k47_openM {w : World} {base : Nat} {ok : Nat → Prop} {x : S47} {cs : List Value} (h : k47.M w base ok x cs) : cs = [.int .i64 x.f0, .int .i64 x.f1] := by
 obtain ⟨_, _, rfl, rfl, rfl⟩ := h
 exact rfl
theorem k47_mkM (w : World) (base : Nat) (ok : Nat → Prop) (x : S47)  : k47.M w base ok x [.int .i64 x.f0, .int .i64 x.f1] := ⟨[.int .i64 x.f0], [.int .i64 x.f1], rfl, rfl, rfl⟩
def rd_T47 (xs : List S47) (i : Int) : S47 := xs.getD i.toNat z47
theorem at_T47 {w : World} {A : Option Addr} {n : Nat} {xs : List S47} (h : Kd.C k47 w A n xs) (i : Int) (h0 : 0 ≤ i) (h1 : i < n) : ∃ ad , A = some ad ∧ w.cell? (ad.add (i.toNat * 2)) = some (.int .i64 (rd_T47 xs i).f0) ∧ w.cell? ⟨(ad.add (i.toNat * 2)).block, (ad.add (i.toNat * 2)).off + 1, none⟩ = some (.int .i64 (rd_T47 xs i).f1) := by
 obtain ⟨ad, c, e, _, hK, hc0⟩ := Kd.C_get h z47 i h0 h1
 have hc : ∀ j u, c[j]? = some u → w.cell? (ad.add (i.toNat * 2 + j)) = some u := hc0
 obtain rfl := k47_open hK
 exact ⟨ad, e, hc 0 _ rfl, by rw [← add_field _ _ 1 (by omega)]; exact hc 1 _ rfl⟩
structure S51 where
 f0 : Int
 f1 : Int
 f2 : Int
def z51 : S51 := ⟨(0 : Int), (0 : Int), (0 : Int)⟩
def k51 : Kd S51 := Kd.iso (Kd.pair (Kd.int .i64) (Kd.pair (Kd.int .i64) (Kd.int .i64))) (fun x : S51 => (x.f0, x.f1, x.f2))
theorem k51_open {w : World} {x : S51} {cs : List Value} (h : k51.K w x cs) : cs = [.int .i64 x.f0, .int .i64 x.f1, .int .i64 x.f2] := by
 obtain ⟨_, _, rfl, rfl, ⟨_, _, rfl, rfl, rfl⟩⟩ := h
 exact rfl
theorem k51_openM {w : World} {base : Nat} {ok : Nat → Prop} {x : S51} {cs : List Value} (h : k51.M w base ok x cs) : cs = [.int .i64 x.f0, .int .i64 x.f1, .int .i64 x.f2] := by
 obtain ⟨_, _, rfl, rfl, ⟨_, _, rfl, rfl, rfl⟩⟩ := h
 exact rfl
theorem k51_mkM (w : World) (base : Nat) (ok : Nat → Prop) (x : S51)  : k51.M w base ok x [.int .i64 x.f0, .int .i64 x.f1, .int .i64 x.f2] := ⟨[.int .i64 x.f0], [.int .i64 x.f1, .int .i64 x.f2], rfl, rfl, ⟨[.int .i64 x.f1], [.int .i64 x.f2], rfl, rfl, rfl⟩⟩
def rd_T51 (xs : List S51) (i : Int) : S51 := xs.getD i.toNat z51
theorem at_T51 {w : World} {A : Option Addr} {n : Nat} {xs : List S51} (h : Kd.C k51 w A n xs) (i : Int) (h0 : 0 ≤ i) (h1 : i < n) : ∃ ad , A = some ad ∧ w.cell? (ad.add (i.toNat * 3)) = some (.int .i64 (rd_T51 xs i).f0) ∧ w.cell? ⟨(ad.add (i.toNat * 3)).block, (ad.add (i.toNat * 3)).off + 1, none⟩ = some (.int .i64 (rd_T51 xs i).f1) ∧ w.cell? ⟨(ad.add (i.toNat * 3)).block, (ad.add (i.toNat * 3)).off + 2, none⟩ = some (.int .i64 (rd_T51 xs i).f2) := by
 obtain ⟨ad, c, e, _, hK, hc0⟩ := Kd.C_get h z51 i h0 h1
 have hc : ∀ j u, c[j]? = some u → w.cell? (ad.add (i.toNat * 3 + j)) = some u := hc0
 obtain rfl := k51_open hK
 exact ⟨ad, e, hc 0 _ rfl, by rw [← add_field _ _ 1 (by omega)]; exact hc 1 _ rfl, by rw [← add_field _ _ 2 (by omega)]; exact hc 2 _ rfl⟩
end Go.Proofs.Ytbnjdlafnejanaa.Pr
namespace Go.Proofs.Ytbnjdlafnejanaa.Pr
open Go.RowKit Go.Proofs.YtbnjdlafnejanaaW.PrintWords Go.Proofs.YtbnjdlafnejanaaW.PrintLast Go.Proofs.YtbnjdlafnejanaaW.PrintMore
attribute [local go_sem] max2_int min2_int max_two min_two max_three min_three max_four min_four   -- for this text's walks alone
set_option linter.unusedVariables false
set_option linter.unusedSimpArgs false
theorem eqA51 (d : Nat) (w : World) (x0 y0 : Int) (x1 y1 : Int) (x2 y2 : Int) :
  (Op.equalIn (d + 2) 51 (.agg #[.int .i64 x0, .int .i64 x1, .int .i64 x2]) (.agg #[.int .i64 y0, .int .i64 y1, .int .i64 y2])).run Try.prog w = .ok (x0 == y0 && (x1 == y1 && (x2 == y2))) w := by
 refine eqA_of Try.underlying51 (by kernel_rfl) ?_
 refine eqf_cons (by rfl) (by go_simp; rfl) (by go_simp; rfl) (by go_simp) ?_
 refine eqf_cons (by rfl) (by go_simp; rfl) (by go_simp; rfl) (by go_simp) ?_
 exact eqf_last (by rfl) (by go_simp; rfl) (by go_simp; rfl) (by go_simp)
end Go.Proofs.Ytbnjdlafnejanaa.Pr
namespace Go.Proofs.Ytbnjdlafnejanaa.Pr
open Go.RowKit Go.Proofs.YtbnjdlafnejanaaW.PrintWords Go.Proofs.YtbnjdlafnejanaaW.PrintLast Go.Proofs.YtbnjdlafnejanaaW.PrintMore
attribute [local go_sem] max2_int min2_int max_two min_two max_three min_three max_four min_four   -- for this text's walks alone
set_option linter.unusedVariables false
set_option linter.unusedSimpArgs false
def letterbaglaw30_work.l0 : Nat → List (S45) → List (S61) → Int → Int → Option ((List (S45)))
 | 0, _, _, _, _ => none
 | k + 1, x3, x6, x7, x8 => if x8 < x7 then (if 0 ≤ x8 then (if x8 < (x6.length : Int) then (if x8 = 8 then (some x3) else (if x3.length < 4398046511104 then (letterbaglaw30_work.l0 k (x3 ++ [(⟨wrap64 ((Int.tmod (wrap64 (7 * x8)) 9) + 1), wrap64 (Int.tmod ((rd_T61 x6 x8).f0) 64), wrap64 (Int.tmod ((rd_T61 x6 x8).f1) 64), wrap64 (1 + (wrap64 (Int.tmod ((rd_T61 x6 x8).f2) 8)))⟩ : S45)]) x6 x7 (wrap64 (x8 + 1))) else (none))) else (none)) else (none)) else (some x3)
def letterbaglaw30_work.f (k : Nat) (l0 : List (S61)) : Option ((List (S45))) := letterbaglaw30_work.l0 k ([] : List (S45)) l0 (l0.length : Int) 0
set_option maxHeartbeats 8000000 in
set_option maxRecDepth 100000 in
theorem letterbaglaw30_work.calls (k : Nat) (A0 : Option Addr) (c0 : Nat) (l0 : List (S61)) (r : List (S45)) (w : World) (hr0 : Kd.C k61 w A0 l0.length l0) (hc0 : l0.length ≤ c0) (h : letterbaglaw30_work.f k l0 = some r) :
  Calls Try.prog 10 #[.slice A0 l0.length c0] w fun e w' => ∃ v0_ : Value, e = .returned (v0_) ∧ Kd.R k45 45 w' w.heap.size (fun _ => True) v0_ r ∧ Below w.heap.size w w' := by
 have hu61 := Try.underlying61
 have hu45 := Try.underlying45
 have HR0 := Aside0.mk hr0
 have HC0 := Aside0.mk hc0
 clear hr0 hc0
 have HB := Aside0.mk (Below.refl w.heap.size w)
 have H : (letterbaglaw30_work.l0 k ([] : List (S45)) l0 (l0.length : Int) 0) = some r := h
 clear h
 have H' := Aside0.mk H
 clear H
 go_enter Try.func10, Try.ntmps10
 go_wp2
 go_loopg [3, 8] k (fun kq v3 v8 w' => ∃ (x3_1 : List (S45)) (x8_1 : Int), v8 = .int .i64 x8_1 ∧ Aside0 (letterbaglaw30_work.l0 kq x3_1 l0 (l0.length : Int) x8_1 = some r) ∧ Aside0 (kq ≤ k) ∧ Aside0 (Kd.R k45 45 w' w.heap.size (fun _ => True) v3 x3_1) ∧ Aside0 (Below w.heap.size w w'))
 case atStart => exact ⟨(([] : List (S45))), (0), (by rfl), H', ⟨Nat.le_refl _⟩, ⟨by exact Kd.R_nil _ _ _ _ _⟩, ⟨by repeat ((with_reducible exact HB.out))⟩⟩
 case round =>
  clear H'
  try clear c1
  obtain ⟨x3_1, x8_1, rfl, HA, HK1, HO_3, HB⟩ := hrel
  cases gk with
  | zero => exact absurd HA.out (by simp [letterbaglaw30_work.l0])
  | succ k1 =>
   have H := HA.out
   clear HA
   simp only [letterbaglaw30_work.l0] at H
   by_cases c2 : x8_1 < (l0.length : Int)
   ·rw [if_pos c2] at H
    have c2b0 : decide (x8_1 < (l0.length : Int)) = true := decide_eq_true c2
    clear c2
    by_cases c3 : 0 ≤ x8_1
    ·rw [if_pos c3] at H
     have c3b0 : decide (0 ≤ x8_1) = true := decide_eq_true c3
     clear c3
     by_cases c4 : x8_1 < (l0.length : Int)
     ·rw [if_pos c4] at H
      have c4b0 : decide (x8_1 < (l0.length : Int)) = true := decide_eq_true c4
      clear c4
      by_cases c5 : x8_1 = 8
      ·rw [if_pos c5] at H
       have c5b0 : (x8_1 == 8) = true := beq_iff_eq.mpr c5
       have c5b1 : (x8_1 != 8) = false := bne_eq_false_iff_eq.mpr c5
       clear c5
       obtain rfl := Option.some.inj H
       have p101 : 0 ≤ (x8_1 : Int) := of_decide_eq_true (by (with_reducible assumption))
       have q101 : x8_1 < (l0.length : Int) := of_decide_eq_true (by (with_reducible assumption))
       obtain ⟨ad101, e101, hx101_0, hx101_1, hx101_2⟩ := at_T61 HR0.out x8_1 p101 q101
       cases e101
       replace hx101_0 := (HB.out.cell (World.block_lt_of_cell? w _ hx101_0)).trans hx101_0
       replace hx101_1 := (HB.out.cell (World.block_lt_of_cell? w _ hx101_1)).trans hx101_1
       replace hx101_2 := (HB.out.cell (World.block_lt_of_cell? w _ hx101_2)).trans hx101_2
       replace p101 := eq_true p101
       replace q101 := eq_true q101
       go_wp2_with (((with_reducible refine gate_dst (N := 5) rfl ?_); refine box_event ?hg (N := 5) ?hd (cs := #[.int .u8 0, .int .u8 0, .int .u8 0]) (t := 61) ?hr ?_; (case hd => rfl); (case hg => rfl); (case hr => (go_simp; done)); intro gb102 hg w6 hbox hb; have n0_ := Aside0.mk (Kd.R_below (by (with_reducible repeat (fail)); exact HO_3.out) hb); have n1_ := Aside0.mk (below_step (by repeat ((with_reducible exact HB.out))) hb); have n2_ := Aside0.mk (hbox); have n3_ := Aside0.mk ((by rw [hg]; exact (below_size (by repeat ((with_reducible exact HB.out)))) : w.heap.size ≤ gb102)); have n4_ := Aside0.mk ((by rw [hg]; exact (below_size (by repeat ((with_reducible exact HB.out)))) : w.heap.size ≤ gb102)); clear HO_3; clear HB; have HO_3 := n0_; have HB := n1_; have BK102 := n2_; have GW102 := n3_; have GE102 := n4_; clear n0_ n1_ n2_ n3_ n4_; clear hb hbox hg; have hcz7_0 : w6.cell? ⟨gb102, 0, none⟩ = some (.int .u8 0) := (blk_cell BK102.out 0).trans rfl; have hcz7_1 : w6.cell? ⟨gb102, 1, none⟩ = some (.int .u8 0) := (blk_cell BK102.out 1).trans rfl; have hcz7_2 : w6.cell? ⟨gb102, 2, none⟩ = some (.int .u8 0) := (blk_cell BK102.out 2).trans rfl; have hfz7_0 := blk_frozen BK102.out 0; have hfz7_1 := blk_frozen BK102.out 1; have hfz7_2 := blk_frozen BK102.out 2))
       go_ret
       exact ⟨_, by rfl, by (with_reducible repeat (fail)); exact Kd.R_mono (Kd.R_far (p := ⟨gb102, 2, none⟩) (Kd.R_far (p := ⟨gb102, 1, none⟩) (Kd.R_far (p := ⟨gb102, 0, none⟩) (Kd.R_types HO_3.out BK102.out (by decide)) (fun _ hk => hk.2) (.int .u8 ((rd_T61 l0 x8_1).f0))) (fun _ hk => hk.2) (.int .u8 ((rd_T61 l0 x8_1).f1))) (fun _ hk => hk.2) (.int .u8 ((rd_T61 l0 x8_1).f2))) (fun _ hk => trivial), by repeat ((with_reducible first | exact HB.out | refine below_set ?_ GE102.out))⟩
      ·rw [if_neg c5] at H
       have c5b0 : (x8_1 == 8) = false := beq_eq_false_iff_ne.mpr c5
       have c5b1 : (x8_1 != 8) = true := bne_iff_ne.mpr c5
       by_cases c8 : x3_1.length < 4398046511104
       ·rw [if_pos c8] at H
        have LMc8 := Aside0.mk c8
        clear c8
        obtain ⟨y103, hy103⟩ : ∃ y_ : List (S45), y_ = (x3_1 ++ [(⟨wrap64 ((Int.tmod (wrap64 (7 * x8_1)) 9) + 1), wrap64 (Int.tmod ((rd_T61 l0 x8_1).f0) 64), wrap64 (Int.tmod ((rd_T61 l0 x8_1).f1) 64), wrap64 (1 + (wrap64 (Int.tmod ((rd_T61 l0 x8_1).f2) 8)))⟩ : S45)]) := ⟨_, rfl⟩
        replace H : (letterbaglaw30_work.l0 k1 y103 l0 (l0.length : Int) (wrap64 (x8_1 + 1))) = some r := by (rw [hy103]; with_reducible exact H)
        have Ny103 := Aside0.mk hy103
        clear hy103
        have H' := Aside0.mk H
        clear H
        have p101 : 0 ≤ (x8_1 : Int) := of_decide_eq_true (by (with_reducible assumption))
        have q101 : x8_1 < (l0.length : Int) := of_decide_eq_true (by (with_reducible assumption))
        obtain ⟨ad101, e101, hx101_0, hx101_1, hx101_2⟩ := at_T61 HR0.out x8_1 p101 q101
        cases e101
        replace hx101_0 := (HB.out.cell (World.block_lt_of_cell? w _ hx101_0)).trans hx101_0
        replace hx101_1 := (HB.out.cell (World.block_lt_of_cell? w _ hx101_1)).trans hx101_1
        replace hx101_2 := (HB.out.cell (World.block_lt_of_cell? w _ hx101_2)).trans hx101_2
        replace p101 := eq_true p101
        replace q101 := eq_true q101
        go_wp2_with (first | ((with_reducible refine gate_dst (N := 5) rfl ?_); refine box_event ?hg (N := 5) ?hd (cs := #[.int .u8 0, .int .u8 0, .int .u8 0]) (t := 61) ?hr ?_; (case hd => rfl); (case hg => rfl); (case hr => (go_simp; done)); intro gb102 hg w9 hbox hb; have n0_ := Aside0.mk (Kd.R_below (by (with_reducible repeat (fail)); exact HO_3.out) hb); have n1_ := Aside0.mk (below_step (by repeat ((with_reducible exact HB.out))) hb); have n2_ := Aside0.mk (hbox); have n3_ := Aside0.mk ((by rw [hg]; exact (below_size (by repeat ((with_reducible exact HB.out)))) : w.heap.size ≤ gb102)); have n4_ := Aside0.mk ((by rw [hg]; exact (below_size (by repeat ((with_reducible exact HB.out)))) : w.heap.size ≤ gb102)); clear HO_3; clear HB; have HO_3 := n0_; have HB := n1_; have BK102 := n2_; have GW102 := n3_; have GE102 := n4_; clear n0_ n1_ n2_ n3_ n4_; clear hb hbox hg; have hcz10_0 : w9.cell? ⟨gb102, 0, none⟩ = some (.int .u8 0) := (blk_cell BK102.out 0).trans rfl; have hcz10_1 : w9.cell? ⟨gb102, 1, none⟩ = some (.int .u8 0) := (blk_cell BK102.out 1).trans rfl; have hcz10_2 : w9.cell? ⟨gb102, 2, none⟩ = some (.int .u8 0) := (blk_cell BK102.out 2).trans rfl; have hfz10_0 := blk_frozen BK102.out 0; have hfz10_1 := blk_frozen BK102.out 1; have hfz10_2 := blk_frozen BK102.out 2) | ((with_reducible refine gate_builtin (b := .append) (xs := #[.tmp 15, .tmp 34]) rfl ?_); at_builtin; refine Kd.R_append k45 (w0 := w) w.heap.size rfl (.tmp 15) (.tmp 34) 25 45 (.agg #[(.int .i64 0), (.int .i64 0), (.int .i64 0), (.int .i64 0)]) 32 rfl Try.underlying25 info45 rfl (by decide) (by omega) u3 x3_1 (⟨wrap64 ((Int.tmod (wrap64 (7 * x8_1)) 9) + 1), wrap64 (Int.tmod ((rd_T61 l0 x8_1).f0) 64), wrap64 (Int.tmod ((rd_T61 l0 x8_1).f1) 64), wrap64 (1 + (wrap64 (Int.tmod ((rd_T61 l0 x8_1).f2) 8)))⟩ : S45) [.int .i64 (wrap64 ((Int.tmod (wrap64 (7 * x8_1)) 9) + 1)), .int .i64 (wrap64 (Int.tmod ((rd_T61 l0 x8_1).f0) 64)), .int .i64 (wrap64 (Int.tmod ((rd_T61 l0 x8_1).f1) 64)), .int .i64 (wrap64 (1 + (wrap64 (Int.tmod ((rd_T61 l0 x8_1).f2) 8))))] (fun _ => True) (fun _ => False) rfl (by (go_simp; done)) ?aP (fun _ hk => hk.elim) ?aF ?aO ?aB ?aS ?aL ?_; (case aP => exact k45_mkM _ _ _ (⟨wrap64 ((Int.tmod (wrap64 (7 * x8_1)) 9) + 1), wrap64 (Int.tmod ((rd_T61 l0 x8_1).f0) 64), wrap64 (Int.tmod ((rd_T61 l0 x8_1).f1) 64), wrap64 (1 + (wrap64 (Int.tmod ((rd_T61 l0 x8_1).f2) 8)))⟩ : S45)); (case aB => exact (by repeat ((with_reducible first | exact HB.out | refine below_set ?_ GE102.out)))); (case aF => exact (fun _ _ => trivial)); (case aO => exact (by (with_reducible repeat (fail)); exact Kd.R_mono (Kd.R_far (p := ⟨gb102, 2, none⟩) (Kd.R_far (p := ⟨gb102, 1, none⟩) (Kd.R_far (p := ⟨gb102, 0, none⟩) (Kd.R_types HO_3.out BK102.out (by decide)) (fun _ hk => hk.2) (.int .u8 ((rd_T61 l0 x8_1).f0))) (fun _ hk => hk.2) (.int .u8 ((rd_T61 l0 x8_1).f1))) (fun _ hk => hk.2) (.int .u8 ((rd_T61 l0 x8_1).f2))) (fun _ hk => trivial))); (case aS => exact (below_size (by repeat ((with_reducible first | exact HB.out | refine below_set ?_ GE102.out))))); (case aL => have := LMc8.out; omega); intro v104 w11 ho hb hg hat; rw [← Ny103.out] at ho; have n0_ := Aside0.mk (blk_grown (g := gb102) (o := .cells #[.int .u8 ((rd_T61 l0 x8_1).f0), .int .u8 ((rd_T61 l0 x8_1).f1), .int .u8 ((rd_T61 l0 x8_1).f2)] 61 (0, 0)) (by (with_reducible repeat (fail)); refine blk_put (cs := #[.int .u8 ((rd_T61 l0 x8_1).f0), .int .u8 ((rd_T61 l0 x8_1).f1), .int .u8 0]) ?_ 2 _ rfl; (with_reducible repeat (fail)); refine blk_put (cs := #[.int .u8 ((rd_T61 l0 x8_1).f0), .int .u8 0, .int .u8 0]) ?_ 1 _ rfl; (with_reducible repeat (fail)); refine blk_put (cs := #[.int .u8 0, .int .u8 0, .int .u8 0]) ?_ 0 _ rfl; (with_reducible repeat (fail)); exact BK102.out) hg (Kd.R_ne HO_3.out BK102.out (by decide))); have n1_ := Aside0.mk (hb); have n2_ := Aside0.mk (ho); clear BK102; clear HB; clear HO_3; have BK102 := n0_; have HB := n1_; have HO105 := n2_; clear n0_ n1_ n2_; clear ho hb hg hat))
        go_roundg k1
        case measure => have := HK1.out; omega
        case rel => exact ⟨(y103), (wrap64 (x8_1 + 1)), (by rfl), H', ⟨by have := HK1.out; omega⟩, ⟨by (with_reducible repeat (fail)); exact HO105.out⟩, ⟨by repeat ((with_reducible exact HB.out))⟩⟩
       ·rw [if_neg c8] at H
        exact absurd H (by simp)
     ·rw [if_neg c4] at H
      exact absurd H (by simp)
    ·rw [if_neg c3] at H
     exact absurd H (by simp)
   ·rw [if_neg c2] at H
    have c2b0 : decide (x8_1 < (l0.length : Int)) = false := decide_eq_false c2
    clear c2
    obtain rfl := Option.some.inj H
    go_wp2
    go_ret
    exact ⟨_, by rfl, by (with_reducible repeat (fail)); exact HO_3.out, by repeat ((with_reducible exact HB.out))⟩
def letterbaglaw30_hours.l0 : Nat → List (S47) → Int → List (S55) → Int → Int → Option ((List (S47)))
 | 0, _, _, _, _, _ => none
 | k + 1, x3, x4, x7, x8, x9 => if x9 < x8 then (if 0 ≤ x9 then (if x9 < (x7.length : Int) then (if x9 = 8 then (some x3) else (if x3.length < 8796093022208 then ((some (x3 ++ [(⟨wrap64 (x4 + (wrap64 (Int.tmod ((rd_T55 x7 x9).f0) 16))), wrap64 ((wrap64 ((wrap64 (x4 + (wrap64 (Int.tmod ((rd_T55 x7 x9).f0) 16)))) + 1)) + (wrap64 (Int.tmod ((rd_T55 x7 x9).f1) 16)))⟩ : S47)] : List (S47))).bind fun y108 => (if x9 < (y108.length : Int) then (letterbaglaw30_hours.l0 k y108 ((rd_T47 y108 x9).f1) x7 x8 (wrap64 (x9 + 1))) else (none))) else (none))) else (none)) else (none)) else (some x3)
def letterbaglaw30_hours.f (k : Nat) (l0 : List (S55)) : Option ((List (S47))) := letterbaglaw30_hours.l0 k ([] : List (S47)) 0 l0 (l0.length : Int) 0
set_option maxHeartbeats 8000000 in
set_option maxRecDepth 100000 in
theorem letterbaglaw30_hours.calls (k : Nat) (A0 : Option Addr) (c0 : Nat) (l0 : List (S55)) (r : List (S47)) (w : World) (hr0 : Kd.C k55 w A0 l0.length l0) (hc0 : l0.length ≤ c0) (h : letterbaglaw30_hours.f k l0 = some r) :
  Calls Try.prog 11 #[.slice A0 l0.length c0] w fun e w' => ∃ v0_ : Value, e = .returned (v0_) ∧ Kd.R k47 47 w' w.heap.size (fun _ => True) v0_ r ∧ Below w.heap.size w w' := by
 have hu55 := Try.underlying55
 have hu47 := Try.underlying47
 have HR0 := Aside0.mk hr0
 have HC0 := Aside0.mk hc0
 clear hr0 hc0
 have HB := Aside0.mk (Below.refl w.heap.size w)
 have H : (letterbaglaw30_hours.l0 k ([] : List (S47)) 0 l0 (l0.length : Int) 0) = some r := h
 clear h
 have H' := Aside0.mk H
 clear H
 go_enter Try.func11, Try.ntmps11
 go_wp2
 go_loopg [3, 4, 9] k (fun kq v3 v4 v9 w' => ∃ (x3_1 : List (S47)) (x4_1 : Int) (x9_1 : Int), v4 = .int .i64 x4_1 ∧ v9 = .int .i64 x9_1 ∧ Aside0 (letterbaglaw30_hours.l0 kq x3_1 x4_1 l0 (l0.length : Int) x9_1 = some r) ∧ Aside0 (kq ≤ k) ∧ Aside0 (Kd.R k47 47 w' w.heap.size (fun _ => True) v3 x3_1) ∧ Aside0 (Below w.heap.size w w'))
 case atStart => exact ⟨(([] : List (S47))), (0), (0), (by rfl), (by rfl), H', ⟨Nat.le_refl _⟩, ⟨by exact Kd.R_nil _ _ _ _ _⟩, ⟨by repeat ((with_reducible exact HB.out))⟩⟩
 case round =>
  clear H'
  try clear c1
  obtain ⟨x3_1, x4_1, x9_1, rfl, rfl, HA, HK1, HO_3, HB⟩ := hrel
  cases gk with
  | zero => exact absurd HA.out (by simp [letterbaglaw30_hours.l0])
  | succ k1 =>
   have H := HA.out
   clear HA
   simp only [letterbaglaw30_hours.l0] at H
   by_cases c2 : x9_1 < (l0.length : Int)
   ·rw [if_pos c2] at H
    have c2b0 : decide (x9_1 < (l0.length : Int)) = true := decide_eq_true c2
    clear c2
    by_cases c3 : 0 ≤ x9_1
    ·rw [if_pos c3] at H
     have c3b0 : decide (0 ≤ x9_1) = true := decide_eq_true c3
     clear c3
     by_cases c4 : x9_1 < (l0.length : Int)
     ·rw [if_pos c4] at H
      have c4b0 : decide (x9_1 < (l0.length : Int)) = true := decide_eq_true c4
      clear c4
      by_cases c5 : x9_1 = 8
      ·rw [if_pos c5] at H
       have c5b0 : (x9_1 == 8) = true := beq_iff_eq.mpr c5
       have c5b1 : (x9_1 != 8) = false := bne_eq_false_iff_eq.mpr c5
       clear c5
       obtain rfl := Option.some.inj H
       have p106 : 0 ≤ (x9_1 : Int) := of_decide_eq_true (by (with_reducible assumption))
       have q106 : x9_1 < (l0.length : Int) := of_decide_eq_true (by (with_reducible assumption))
       obtain ⟨ad106, e106, hx106_0, hx106_1⟩ := at_T55 HR0.out x9_1 p106 q106
       cases e106
       replace hx106_0 := (HB.out.cell (World.block_lt_of_cell? w _ hx106_0)).trans hx106_0
       replace hx106_1 := (HB.out.cell (World.block_lt_of_cell? w _ hx106_1)).trans hx106_1
       replace p106 := eq_true p106
       replace q106 := eq_true q106
       go_wp2_with (((with_reducible refine gate_dst (N := 6) rfl ?_); refine box_event ?hg (N := 6) ?hd (cs := #[.int .u8 0, .int .u8 0]) (t := 55) ?hr ?_; (case hd => rfl); (case hg => rfl); (case hr => (go_simp; done)); intro gb107 hg w6 hbox hb; have n0_ := Aside0.mk (Kd.R_below (by (with_reducible repeat (fail)); exact HO_3.out) hb); have n1_ := Aside0.mk (below_step (by repeat ((with_reducible exact HB.out))) hb); have n2_ := Aside0.mk (hbox); have n3_ := Aside0.mk ((by rw [hg]; exact (below_size (by repeat ((with_reducible exact HB.out)))) : w.heap.size ≤ gb107)); have n4_ := Aside0.mk ((by rw [hg]; exact (below_size (by repeat ((with_reducible exact HB.out)))) : w.heap.size ≤ gb107)); clear HO_3; clear HB; have HO_3 := n0_; have HB := n1_; have BK107 := n2_; have GW107 := n3_; have GE107 := n4_; clear n0_ n1_ n2_ n3_ n4_; clear hb hbox hg; have hcz7_0 : w6.cell? ⟨gb107, 0, none⟩ = some (.int .u8 0) := (blk_cell BK107.out 0).trans rfl; have hcz7_1 : w6.cell? ⟨gb107, 1, none⟩ = some (.int .u8 0) := (blk_cell BK107.out 1).trans rfl; have hfz7_0 := blk_frozen BK107.out 0; have hfz7_1 := blk_frozen BK107.out 1))
       go_ret
       exact ⟨_, by rfl, by (with_reducible repeat (fail)); exact Kd.R_mono (Kd.R_far (p := ⟨gb107, 1, none⟩) (Kd.R_far (p := ⟨gb107, 0, none⟩) (Kd.R_types HO_3.out BK107.out (by decide)) (fun _ hk => hk.2) (.int .u8 ((rd_T55 l0 x9_1).f0))) (fun _ hk => hk.2) (.int .u8 ((rd_T55 l0 x9_1).f1))) (fun _ hk => trivial), by repeat ((with_reducible first | exact HB.out | refine below_set ?_ GE107.out))⟩
      ·rw [if_neg c5] at H
       have c5b0 : (x9_1 == 8) = false := beq_eq_false_iff_ne.mpr c5
       have c5b1 : (x9_1 != 8) = true := bne_iff_ne.mpr c5
       by_cases c8 : x3_1.length < 8796093022208
       ·rw [if_pos c8] at H
        have LMc8 := Aside0.mk c8
        clear c8
        obtain ⟨y108, hy108⟩ : ∃ y_ : List (S47), y_ = (x3_1 ++ [(⟨wrap64 (x4_1 + (wrap64 (Int.tmod ((rd_T55 l0 x9_1).f0) 16))), wrap64 ((wrap64 ((wrap64 (x4_1 + (wrap64 (Int.tmod ((rd_T55 l0 x9_1).f0) 16)))) + 1)) + (wrap64 (Int.tmod ((rd_T55 l0 x9_1).f1) 16)))⟩ : S47)]) := ⟨_, rfl⟩
        replace H : (if x9_1 < (y108.length : Int) then (letterbaglaw30_hours.l0 k1 y108 ((rd_T47 y108 x9_1).f1) l0 (l0.length : Int) (wrap64 (x9_1 + 1))) else (none)) = some r := by (have H2_ := (Option.bind_some _ _).symm.trans H; rw [hy108]; with_reducible exact H2_)
        have Ny108 := Aside0.mk hy108
        clear hy108
        by_cases c9 : x9_1 < (y108.length : Int)
        ·rw [if_pos c9] at H
         have c9b0 : decide (x9_1 < (y108.length : Int)) = true := decide_eq_true c9
         clear c9
         have H' := Aside0.mk H
         clear H
         have p106 : 0 ≤ (x9_1 : Int) := of_decide_eq_true (by (with_reducible assumption))
         have q106 : x9_1 < (l0.length : Int) := of_decide_eq_true (by (with_reducible assumption))
         obtain ⟨ad106, e106, hx106_0, hx106_1⟩ := at_T55 HR0.out x9_1 p106 q106
         cases e106
         replace hx106_0 := (HB.out.cell (World.block_lt_of_cell? w _ hx106_0)).trans hx106_0
         replace hx106_1 := (HB.out.cell (World.block_lt_of_cell? w _ hx106_1)).trans hx106_1
         replace p106 := eq_true p106
         replace q106 := eq_true q106
         go_wp2_with (first | ((with_reducible refine gate_dst (N := 6) rfl ?_); refine box_event ?hg (N := 6) ?hd (cs := #[.int .u8 0, .int .u8 0]) (t := 55) ?hr ?_; (case hd => rfl); (case hg => rfl); (case hr => (go_simp; done)); intro gb107 hg w10 hbox hb; have n0_ := Aside0.mk (Kd.R_below (by (with_reducible repeat (fail)); exact HO_3.out) hb); have n1_ := Aside0.mk (below_step (by repeat ((with_reducible exact HB.out))) hb); have n2_ := Aside0.mk (hbox); have n3_ := Aside0.mk ((by rw [hg]; exact (below_size (by repeat ((with_reducible exact HB.out)))) : w.heap.size ≤ gb107)); have n4_ := Aside0.mk ((by rw [hg]; exact (below_size (by repeat ((with_reducible exact HB.out)))) : w.heap.size ≤ gb107)); clear HO_3; clear HB; have HO_3 := n0_; have HB := n1_; have BK107 := n2_; have GW107 := n3_; have GE107 := n4_; clear n0_ n1_ n2_ n3_ n4_; clear hb hbox hg; have hcz11_0 : w10.cell? ⟨gb107, 0, none⟩ = some (.int .u8 0) := (blk_cell BK107.out 0).trans rfl; have hcz11_1 : w10.cell? ⟨gb107, 1, none⟩ = some (.int .u8 0) := (blk_cell BK107.out 1).trans rfl; have hfz11_0 := blk_frozen BK107.out 0; have hfz11_1 := blk_frozen BK107.out 1) | ((with_reducible refine gate_builtin (b := .append) (xs := #[.tmp 22, .tmp 32]) rfl ?_); at_builtin; refine Kd.R_append k47 (w0 := w) w.heap.size rfl (.tmp 22) (.tmp 32) 27 47 (.agg #[(.int .i64 0), (.int .i64 0)]) 16 rfl Try.underlying27 info47 rfl (by decide) (by omega) u3 x3_1 (⟨wrap64 (x4_1 + (wrap64 (Int.tmod ((rd_T55 l0 x9_1).f0) 16))), wrap64 ((wrap64 ((wrap64 (x4_1 + (wrap64 (Int.tmod ((rd_T55 l0 x9_1).f0) 16)))) + 1)) + (wrap64 (Int.tmod ((rd_T55 l0 x9_1).f1) 16)))⟩ : S47) [.int .i64 (wrap64 (x4_1 + (wrap64 (Int.tmod ((rd_T55 l0 x9_1).f0) 16)))), .int .i64 (wrap64 ((wrap64 ((wrap64 (x4_1 + (wrap64 (Int.tmod ((rd_T55 l0 x9_1).f0) 16)))) + 1)) + (wrap64 (Int.tmod ((rd_T55 l0 x9_1).f1) 16))))] (fun _ => True) (fun _ => False) rfl (by (go_simp; done)) ?aP (fun _ hk => hk.elim) ?aF ?aO ?aB ?aS ?aL ?_; (case aP => exact k47_mkM _ _ _ (⟨wrap64 (x4_1 + (wrap64 (Int.tmod ((rd_T55 l0 x9_1).f0) 16))), wrap64 ((wrap64 ((wrap64 (x4_1 + (wrap64 (Int.tmod ((rd_T55 l0 x9_1).f0) 16)))) + 1)) + (wrap64 (Int.tmod ((rd_T55 l0 x9_1).f1) 16)))⟩ : S47)); (case aB => exact (by repeat ((with_reducible first | exact HB.out | refine below_set ?_ GE107.out)))); (case aF => exact (fun _ _ => trivial)); (case aO => exact (by (with_reducible repeat (fail)); exact Kd.R_mono (Kd.R_far (p := ⟨gb107, 1, none⟩) (Kd.R_far (p := ⟨gb107, 0, none⟩) (Kd.R_types HO_3.out BK107.out (by decide)) (fun _ hk => hk.2) (.int .u8 ((rd_T55 l0 x9_1).f0))) (fun _ hk => hk.2) (.int .u8 ((rd_T55 l0 x9_1).f1))) (fun _ hk => trivial))); (case aS => exact (below_size (by repeat ((with_reducible first | exact HB.out | refine below_set ?_ GE107.out))))); (case aL => have := LMc8.out; omega); intro v109 w12 ho hb hg hat; rw [← Ny108.out] at ho; have n0_ := Aside0.mk (blk_grown (g := gb107) (o := .cells #[.int .u8 ((rd_T55 l0 x9_1).f0), .int .u8 ((rd_T55 l0 x9_1).f1)] 55 (0, 0)) (by (with_reducible repeat (fail)); refine blk_put (cs := #[.int .u8 ((rd_T55 l0 x9_1).f0), .int .u8 0]) ?_ 1 _ rfl; (with_reducible repeat (fail)); refine blk_put (cs := #[.int .u8 0, .int .u8 0]) ?_ 0 _ rfl; (with_reducible repeat (fail)); exact BK107.out) hg (Kd.R_ne HO_3.out BK107.out (by decide))); have n1_ := Aside0.mk (hb); have n2_ := Aside0.mk (ho); clear BK107; clear HB; clear HO_3; have BK107 := n0_; have HB := n1_; have HO110 := n2_; clear n0_ n1_ n2_; clear ho hb hg hat; obtain ⟨Ao13, co13, eo13⟩ := Kd.R_slice HO110.out; subst eo13; have p111 : 0 ≤ (x9_1 : Int) := of_decide_eq_true (by (with_reducible assumption)); have q111 : x9_1 < (y108.length : Int) := of_decide_eq_true (by (with_reducible assumption)); obtain ⟨ad111, e111, hx111_0, hx111_1⟩ := at_T47 (Kd.R_reads' HO110.out).2.2 x9_1 p111 q111; cases e111; replace p111 := eq_true p111; replace q111 := eq_true q111))
         go_roundg k1
         case measure => have := HK1.out; omega
         case rel => exact ⟨(y108), ((rd_T47 y108 x9_1).f1), (wrap64 (x9_1 + 1)), (by rfl), (by rfl), H', ⟨by have := HK1.out; omega⟩, ⟨by (with_reducible repeat (fail)); exact HO110.out⟩, ⟨by repeat ((with_reducible exact HB.out))⟩⟩
        ·rw [if_neg c9] at H
         exact absurd H (by simp)
       ·rw [if_neg c8] at H
        exact absurd H (by simp)
     ·rw [if_neg c4] at H
      exact absurd H (by simp)
    ·rw [if_neg c3] at H
     exact absurd H (by simp)
   ·rw [if_neg c2] at H
    have c2b0 : decide (x9_1 < (l0.length : Int)) = false := decide_eq_false c2
    clear c2
    obtain rfl := Option.some.inj H
    go_wp2
    go_ret
    exact ⟨_, by rfl, by (with_reducible repeat (fail)); exact HO_3.out, by repeat ((with_reducible exact HB.out))⟩
def shift_broken.l0 : Nat → Int → List (S47) → Int → Int → Option (Int)
 | 0, _, _, _, _ => none
 | k + 1, x3, x6, x7, x8 => if x8 < x7 then (if 0 ≤ x8 then (if x8 < (x6.length : Int) then (if ((rd_T47 x6 x8).f0) < x3 then (some x8) else (if ((rd_T47 x6 x8).f1) ≤ ((rd_T47 x6 x8).f0) then (some x8) else (if ((rd_T47 x6 x8).f1) > 1051898399 then (some x8) else (shift_broken.l0 k ((rd_T47 x6 x8).f1) x6 x7 (wrap64 (x8 + 1)))))) else (none)) else (none)) else (some (-1))
def shift_broken.f (k : Nat) (l0 : List (S47)) : Option (Int) := shift_broken.l0 k 0 l0 (l0.length : Int) 0
set_option maxHeartbeats 8000000 in
set_option maxRecDepth 100000 in
theorem shift_broken.calls (k : Nat) (A0 : Option Addr) (c0 : Nat) (l0 : List (S47)) (r : Int) (w : World) (hr0 : Kd.C k47 w A0 l0.length l0) (hc0 : l0.length ≤ c0) (h : shift_broken.f k l0 = some r) :
  Calls Try.prog 28 #[.slice A0 l0.length c0] w fun e w' => e = .returned (.int .i64 r) ∧ Below w.heap.size w w' := by
 have hu47 := Try.underlying47
 have HR0 := Aside0.mk hr0
 have HC0 := Aside0.mk hc0
 clear hr0 hc0
 have HB := Aside0.mk (Below.refl w.heap.size w)
 have H : (shift_broken.l0 k 0 l0 (l0.length : Int) 0) = some r := h
 clear h
 have H' := Aside0.mk H
 clear H
 go_enter Try.func28, Try.ntmps28
 go_wp2
 go_loopg [3, 8] k (fun kq v3 v8 w' => ∃ (x3_1 : Int) (x8_1 : Int), v3 = .int .i64 x3_1 ∧ v8 = .int .i64 x8_1 ∧ Aside0 (shift_broken.l0 kq x3_1 l0 (l0.length : Int) x8_1 = some r) ∧ Aside0 (kq ≤ k) ∧ Aside0 (Below w.heap.size w w'))
 case atStart => exact ⟨(0), (0), (by rfl), (by rfl), H', ⟨Nat.le_refl _⟩, ⟨by repeat ((with_reducible exact HB.out))⟩⟩
 case round =>
  clear H'
  obtain ⟨x3_1, x8_1, rfl, rfl, HA, HK1, HB⟩ := hrel
  cases gk with
  | zero => exact absurd HA.out (by simp [shift_broken.l0])
  | succ k1 =>
   have H := HA.out
   clear HA
   simp only [shift_broken.l0] at H
   by_cases c2 : x8_1 < (l0.length : Int)
   ·rw [if_pos c2] at H
    have c2b0 : decide (x8_1 < (l0.length : Int)) = true := decide_eq_true c2
    clear c2
    by_cases c3 : 0 ≤ x8_1
    ·rw [if_pos c3] at H
     have c3b0 : decide (0 ≤ x8_1) = true := decide_eq_true c3
     clear c3
     by_cases c4 : x8_1 < (l0.length : Int)
     ·rw [if_pos c4] at H
      have c4b0 : decide (x8_1 < (l0.length : Int)) = true := decide_eq_true c4
      clear c4
      by_cases c5 : ((rd_T47 l0 x8_1).f0) < x3_1
      ·rw [if_pos c5] at H
       have c5b0 : decide (((rd_T47 l0 x8_1).f0) < x3_1) = true := decide_eq_true c5
       clear c5
       obtain rfl := Option.some.inj H
       have p112 : 0 ≤ (x8_1 : Int) := of_decide_eq_true (by (with_reducible assumption))
       have q112 : x8_1 < (l0.length : Int) := of_decide_eq_true (by (with_reducible assumption))
       obtain ⟨ad112, e112, hx112_0, hx112_1⟩ := at_T47 HR0.out x8_1 p112 q112
       cases e112
       replace hx112_0 := (HB.out.cell (World.block_lt_of_cell? w _ hx112_0)).trans hx112_0
       replace hx112_1 := (HB.out.cell (World.block_lt_of_cell? w _ hx112_1)).trans hx112_1
       replace p112 := eq_true p112
       replace q112 := eq_true q112
       go_wp2_with (((with_reducible refine gate_dst (N := 5) rfl ?_); refine box_event ?hg (N := 5) ?hd (cs := #[.int .i64 0, .int .i64 0]) (t := 47) ?hr ?_; (case hd => rfl); (case hg => rfl); (case hr => (go_simp; done)); intro gb113 hg w6 hbox hb; have n0_ := Aside0.mk (below_step (by repeat ((with_reducible exact HB.out))) hb); have n1_ := Aside0.mk (hbox); have n2_ := Aside0.mk ((by rw [hg]; exact (below_size (by repeat ((with_reducible exact HB.out)))) : w.heap.size ≤ gb113)); have n3_ := Aside0.mk ((by rw [hg]; exact (below_size (by repeat ((with_reducible exact HB.out)))) : w.heap.size ≤ gb113)); clear HB; have HB := n0_; have BK113 := n1_; have GW113 := n2_; have GE113 := n3_; clear n0_ n1_ n2_ n3_; clear hb hbox hg; have hcz7_0 : w6.cell? ⟨gb113, 0, none⟩ = some (.int .i64 0) := (blk_cell BK113.out 0).trans rfl; have hcz7_1 : w6.cell? ⟨gb113, 1, none⟩ = some (.int .i64 0) := (blk_cell BK113.out 1).trans rfl; have hfz7_0 := blk_frozen BK113.out 0; have hfz7_1 := blk_frozen BK113.out 1))
       go_ret
       exact ⟨by rfl, by repeat ((with_reducible first | exact HB.out | refine below_set ?_ GE113.out))⟩
      ·rw [if_neg c5] at H
       have c5b0 : decide (((rd_T47 l0 x8_1).f0) < x3_1) = false := decide_eq_false c5
       clear c5
       by_cases c8 : ((rd_T47 l0 x8_1).f1) ≤ ((rd_T47 l0 x8_1).f0)
       ·rw [if_pos c8] at H
        have c8b0 : decide (((rd_T47 l0 x8_1).f1) ≤ ((rd_T47 l0 x8_1).f0)) = true := decide_eq_true c8
        clear c8
        obtain rfl := Option.some.inj H
        have p112 : 0 ≤ (x8_1 : Int) := of_decide_eq_true (by (with_reducible assumption))
        have q112 : x8_1 < (l0.length : Int) := of_decide_eq_true (by (with_reducible assumption))
        obtain ⟨ad112, e112, hx112_0, hx112_1⟩ := at_T47 HR0.out x8_1 p112 q112
        cases e112
        replace hx112_0 := (HB.out.cell (World.block_lt_of_cell? w _ hx112_0)).trans hx112_0
        replace hx112_1 := (HB.out.cell (World.block_lt_of_cell? w _ hx112_1)).trans hx112_1
        replace p112 := eq_true p112
        replace q112 := eq_true q112
        go_wp2_with (((with_reducible refine gate_dst (N := 5) rfl ?_); refine box_event ?hg (N := 5) ?hd (cs := #[.int .i64 0, .int .i64 0]) (t := 47) ?hr ?_; (case hd => rfl); (case hg => rfl); (case hr => (go_simp; done)); intro gb113 hg w9 hbox hb; have n0_ := Aside0.mk (below_step (by repeat ((with_reducible exact HB.out))) hb); have n1_ := Aside0.mk (hbox); have n2_ := Aside0.mk ((by rw [hg]; exact (below_size (by repeat ((with_reducible exact HB.out)))) : w.heap.size ≤ gb113)); have n3_ := Aside0.mk ((by rw [hg]; exact (below_size (by repeat ((with_reducible exact HB.out)))) : w.heap.size ≤ gb113)); clear HB; have HB := n0_; have BK113 := n1_; have GW113 := n2_; have GE113 := n3_; clear n0_ n1_ n2_ n3_; clear hb hbox hg; have hcz10_0 : w9.cell? ⟨gb113, 0, none⟩ = some (.int .i64 0) := (blk_cell BK113.out 0).trans rfl; have hcz10_1 : w9.cell? ⟨gb113, 1, none⟩ = some (.int .i64 0) := (blk_cell BK113.out 1).trans rfl; have hfz10_0 := blk_frozen BK113.out 0; have hfz10_1 := blk_frozen BK113.out 1))
        go_ret
        exact ⟨by rfl, by repeat ((with_reducible first | exact HB.out | refine below_set ?_ GE113.out))⟩
       ·rw [if_neg c8] at H
        have c8b0 : decide (((rd_T47 l0 x8_1).f1) ≤ ((rd_T47 l0 x8_1).f0)) = false := decide_eq_false c8
        clear c8
        by_cases c11 : ((rd_T47 l0 x8_1).f1) > 1051898399
        ·rw [if_pos c11] at H
         have c11b0 : decide (1051898399 < ((rd_T47 l0 x8_1).f1)) = true := decide_eq_true c11
         clear c11
         obtain rfl := Option.some.inj H
         have p112 : 0 ≤ (x8_1 : Int) := of_decide_eq_true (by (with_reducible assumption))
         have q112 : x8_1 < (l0.length : Int) := of_decide_eq_true (by (with_reducible assumption))
         obtain ⟨ad112, e112, hx112_0, hx112_1⟩ := at_T47 HR0.out x8_1 p112 q112
         cases e112
         replace hx112_0 := (HB.out.cell (World.block_lt_of_cell? w _ hx112_0)).trans hx112_0
         replace hx112_1 := (HB.out.cell (World.block_lt_of_cell? w _ hx112_1)).trans hx112_1
         replace p112 := eq_true p112
         replace q112 := eq_true q112
         go_wp2_with (((with_reducible refine gate_dst (N := 5) rfl ?_); refine box_event ?hg (N := 5) ?hd (cs := #[.int .i64 0, .int .i64 0]) (t := 47) ?hr ?_; (case hd => rfl); (case hg => rfl); (case hr => (go_simp; done)); intro gb113 hg w12 hbox hb; have n0_ := Aside0.mk (below_step (by repeat ((with_reducible exact HB.out))) hb); have n1_ := Aside0.mk (hbox); have n2_ := Aside0.mk ((by rw [hg]; exact (below_size (by repeat ((with_reducible exact HB.out)))) : w.heap.size ≤ gb113)); have n3_ := Aside0.mk ((by rw [hg]; exact (below_size (by repeat ((with_reducible exact HB.out)))) : w.heap.size ≤ gb113)); clear HB; have HB := n0_; have BK113 := n1_; have GW113 := n2_; have GE113 := n3_; clear n0_ n1_ n2_ n3_; clear hb hbox hg; have hcz13_0 : w12.cell? ⟨gb113, 0, none⟩ = some (.int .i64 0) := (blk_cell BK113.out 0).trans rfl; have hcz13_1 : w12.cell? ⟨gb113, 1, none⟩ = some (.int .i64 0) := (blk_cell BK113.out 1).trans rfl; have hfz13_0 := blk_frozen BK113.out 0; have hfz13_1 := blk_frozen BK113.out 1))
         go_ret
         exact ⟨by rfl, by repeat ((with_reducible first | exact HB.out | refine below_set ?_ GE113.out))⟩
        ·rw [if_neg c11] at H
         have c11b0 : decide (1051898399 < ((rd_T47 l0 x8_1).f1)) = false := decide_eq_false c11
         clear c11
         have H' := Aside0.mk H
         clear H
         have p112 : 0 ≤ (x8_1 : Int) := of_decide_eq_true (by (with_reducible assumption))
         have q112 : x8_1 < (l0.length : Int) := of_decide_eq_true (by (with_reducible assumption))
         obtain ⟨ad112, e112, hx112_0, hx112_1⟩ := at_T47 HR0.out x8_1 p112 q112
         cases e112
         replace hx112_0 := (HB.out.cell (World.block_lt_of_cell? w _ hx112_0)).trans hx112_0
         replace hx112_1 := (HB.out.cell (World.block_lt_of_cell? w _ hx112_1)).trans hx112_1
         replace p112 := eq_true p112
         replace q112 := eq_true q112
         go_wp2_with (((with_reducible refine gate_dst (N := 5) rfl ?_); refine box_event ?hg (N := 5) ?hd (cs := #[.int .i64 0, .int .i64 0]) (t := 47) ?hr ?_; (case hd => rfl); (case hg => rfl); (case hr => (go_simp; done)); intro gb113 hg w14 hbox hb; have n0_ := Aside0.mk (below_step (by repeat ((with_reducible exact HB.out))) hb); have n1_ := Aside0.mk (hbox); have n2_ := Aside0.mk ((by rw [hg]; exact (below_size (by repeat ((with_reducible exact HB.out)))) : w.heap.size ≤ gb113)); have n3_ := Aside0.mk ((by rw [hg]; exact (below_size (by repeat ((with_reducible exact HB.out)))) : w.heap.size ≤ gb113)); clear HB; have HB := n0_; have BK113 := n1_; have GW113 := n2_; have GE113 := n3_; clear n0_ n1_ n2_ n3_; clear hb hbox hg; have hcz15_0 : w14.cell? ⟨gb113, 0, none⟩ = some (.int .i64 0) := (blk_cell BK113.out 0).trans rfl; have hcz15_1 : w14.cell? ⟨gb113, 1, none⟩ = some (.int .i64 0) := (blk_cell BK113.out 1).trans rfl; have hfz15_0 := blk_frozen BK113.out 0; have hfz15_1 := blk_frozen BK113.out 1))
         go_roundg k1
         case measure => have := HK1.out; omega
         case rel => exact ⟨((rd_T47 l0 x8_1).f1), (wrap64 (x8_1 + 1)), (by rfl), (by rfl), H', ⟨by have := HK1.out; omega⟩, ⟨by repeat ((with_reducible first | exact HB.out | refine below_set ?_ GE113.out))⟩⟩
     ·rw [if_neg c4] at H
      exact absurd H (by simp)
    ·rw [if_neg c3] at H
     exact absurd H (by simp)
   ·rw [if_neg c2] at H
    have c2b0 : decide (x8_1 < (l0.length : Int)) = false := decide_eq_false c2
    clear c2
    obtain rfl := Option.some.inj H
    go_wp2
    go_ret
    exact ⟨by rfl, by repeat ((with_reducible exact HB.out))⟩
end Go.Proofs.Ytbnjdlafnejanaa.Pr
namespace Go.Proofs.Ytbnjdlafnejanaa.Pr
open Go.Proofs.Ytbnjdlafnejanaa
def toJ (x : S45) : Sh.Job := ⟨x.f0, x.f1, x.f2, x.f3⟩
def toS (x : S47) : Sh.Shift := ⟨x.f0, x.f1⟩
def toL (x : S51) : Sh.Slice := ⟨x.f0, x.f1, x.f2⟩
def ofL (x : Sh.Slice) : S51 := ⟨x.job, x.frm, x.to⟩
/-- IDs that fit the machine's numbers. -/
def wf45 (l : List (S45)) : Bool := l.all fun x => (Lit.int .i64 x.f0).wf
def wf51 (l : List (S51)) : Bool := l.all fun x => (Lit.int .i64 x.f0).wf
def shift_valid.f (l0 : List (S45)) (l1 : List (S47)) : Option (Int × Int) := if wf45 l0 = true then some (Sh.validX (l0.map toJ) (l1.map toS)) else none
def shift_Make.f (l0 : List (S45)) (l1 : List (S47)) : Option ((List (S51)) × Int) :=
  if wf45 l0 = true then (if (Sh.validX (l0.map toJ) (l1.map toS)).2 = 0 then some ((Sh.makeX (l0.map toJ) (l1.map toS)).map ofL, 0) else some ([], (Sh.validX (l0.map toJ) (l1.map toS)).2)) else none
def shift_Check.f (l0 : List (S45)) (l1 : List (S47)) (l2 : List (S51)) : Option (Int × Int) :=
  if wf45 l0 = true then (if wf51 l2 = true then some (Sh.checkX (l0.map toJ) (l1.map toS) (l2.map toL)) else none) else none
def shift_Ends.f (l0 : List (S45)) (l1 : List (S51)) : Option (List Int) :=
  if wf45 l0 = true then (if wf51 l1 = true then (if Sh.firstJob [] (l0.map toJ) 0 = -1 then (if Sh.timed (l1.map toL) = true ∧ l0.length ≤ 200 then some ((l0.map toJ).map fun x => Sh.endOf x (l1.map toL)) else none) else none) else none) else none
end Go.Proofs.Ytbnjdlafnejanaa.Pr
namespace Go.Proofs.Ytbnjdlafnejanaa.Pr
open Go.RowKit Go.Maps Go.Proofs.YtbnjdlafnejanaaW.PrintWords Go.Proofs.YtbnjdlafnejanaaW.PrintLast Go.Proofs.YtbnjdlafnejanaaW.PrintMore
attribute [local go_sem] max2_int min2_int
theorem law3 : Keyed Try.prog 3 := int_keyed Try.underlying3
theorem zero3 (w : World) : (zeroValue 3).run Try.prog w = .ok (.int .i64 0) w := by kernel_rfl
/-- The map D holds each job's index at its ID. -/
structure MapOK (D : DataW Unit) (p : List Sh.Job) : Prop where
  map : IsMap D
  has : ∀ id : Int, Maps.has D (.int .i64 id) = p.any (fun y => decide (y.id = id))
  ids : ∀ i (h : i < p.length), ∀ z, D.atKey (.int .i64 p[i].id) z = .lit (.int .i64 i)
theorem MapOK.start : MapOK (.map []) [] := ⟨isMap_empty, fun _ => rfl, fun i h => absurd h (by simp)⟩
theorem lit_ne {a b : Int} (h : a ≠ b) : (Lit.int .i64 a) ≠ Lit.int .i64 b := fun e => h (by injection e)
theorem MapOK.step {D : DataW Unit} {p : List Sh.Job} (h : MapOK D p) {x : Sh.Job} (hx : ∀ y ∈ p, y.id ≠ x.id) (hk : WideAt.IsKeyLit (.int .i64 x.id)) {k : Int} (hkp : k = p.length) :
    MapOK (D.put (.int .i64 x.id) (.lit (.int .i64 k))) (p ++ [x]) := by
  subst hkp
  refine ⟨h.map.put _ _, fun id => ?_, fun i hi z => ?_⟩
  · by_cases e : x.id = id
    · subst e
      rw [has_put_same h.map hk]
      simp
    · rw [has_put_other (lit_ne (fun hh => e hh.symm)), h.has]
      simp [e]
  · by_cases hl : i < p.length
    · rw [List.getElem_append_left hl, atKey_put_other (lit_ne (hx _ (List.getElem_mem hl)))]
      exact h.ids i hl z
    · obtain rfl : i = p.length := by simp at hi; omega
      rw [List.getElem_append_right (Nat.le_refl _)]
      simp only [Nat.sub_self, List.getElem_cons_zero]
      exact atKey_put_same h.map hk _ z
theorem take_step {l : List (S45)} {i : Int} (h0 : 0 ≤ i) (h : i < (l.length : Int)) : l.map toJ = ((l.map toJ).take i.toNat ++ [toJ (rd_T45 l i)]) ++ (l.map toJ).drop (i.toNat + 1) := by
  have hn : i.toNat < (l.map toJ).length := by simp; omega
  rw [List.append_assoc, List.singleton_append]
  have e : toJ (rd_T45 l i) = (l.map toJ)[i.toNat] := by
    have hn' : i.toNat < l.length := by omega
    simp [rd_T45, hn']
  rw [e, ← List.drop_eq_getElem_cons hn, List.take_append_drop]
theorem take_next {l : List (S45)} {i : Int} (h0 : 0 ≤ i) (h : i < (l.length : Int)) : (l.map toJ).take (i + 1).toNat = (l.map toJ).take i.toNat ++ [toJ (rd_T45 l i)] := by
  have hn : i.toNat < (l.map toJ).length := by simp; omega
  have e : toJ (rd_T45 l i) = (l.map toJ)[i.toNat] := by
    have hn' : i.toNat < l.length := by omega
    simp [rd_T45, hn']
  rw [show (i + 1).toNat = i.toNat + 1 by omega, List.take_succ_eq_append_getElem hn, e]
theorem drop_next {l : List (S45)} {i : Int} (h0 : 0 ≤ i) (h : i < (l.length : Int)) : (l.map toJ).drop i.toNat = toJ (rd_T45 l i) :: (l.map toJ).drop (i + 1).toNat := by
  have hn : i.toNat < (l.map toJ).length := by simp; omega
  have e : toJ (rd_T45 l i) = (l.map toJ)[i.toNat] := by
    have hn' : i.toNat < l.length := by omega
    simp [rd_T45, hn']
  rw [show (i + 1).toNat = i.toNat + 1 by omega, e, ← List.drop_eq_getElem_cons hn]
theorem wf_rd {l : List (S45)} (hw : wf45 l = true) {i : Int} (h0 : 0 ≤ i) (h : i < (l.length : Int)) : (Lit.int .i64 (rd_T45 l i).f0).wf = true := by
  have hn : i.toNat < l.length := by omega
  have : rd_T45 l i ∈ l := by
    unfold rd_T45
    rw [List.getD_eq_getElem?_getD, List.getElem?_eq_getElem hn]
    exact List.getElem_mem hn
  exact List.all_eq_true.1 hw _ this
/-- What index leaves behind. -/
def IndexPost (l0 : List (S45)) (w : World) (e : Ending) (w' : World) : Prop :=
  Below w.heap.size w w' ∧
  ((Sh.firstJob [] (l0.map toJ) 0 = -1 ∧ ∃ (B : Nat) (D : DataW Unit), e = .returned (.tuple #[.map (some B), .int .i64 (-1)]) ∧ w.heap.size ≤ B ∧ w'.ownsMap Try.prog 3 (plainElem Try.prog 3) B l0.length D ∧ MapOK D (l0.map toJ)) ∨
   (0 ≤ Sh.firstJob [] (l0.map toJ) 0 ∧ e = .returned (.tuple #[.map none, .int .i64 (Sh.firstJob [] (l0.map toJ) 0)])))
/-- Where the loop stands. -/
def IndexAt (l0 : List (S45)) (w : World) (B : Nat) (x : Int) (wr : World) : Prop :=
  0 ≤ x ∧ x ≤ (l0.length : Int) ∧ Below w.heap.size w wr ∧ Sh.firstJob [] (l0.map toJ) 0 = Sh.firstJob ((l0.map toJ).take x.toNat) ((l0.map toJ).drop x.toNat) x ∧
  ∃ D : DataW Unit, wr.ownsMap Try.prog 3 (plainElem Try.prog 3) B x.toNat D ∧ MapOK D ((l0.map toJ).take x.toNat)
theorem index_bad {l0 : List (S45)} {x : Int} (h0 : 0 ≤ x) (hlt : x < (l0.length : Int)) (hF : Sh.firstJob [] (l0.map toJ) 0 = Sh.firstJob ((l0.map toJ).take x.toNat) ((l0.map toJ).drop x.toNat) x)
    {D : DataW Unit} (hM : MapOK D ((l0.map toJ).take x.toNat))
    (hb : Maps.has D (.int .i64 (rd_T45 l0 x).f0) = true ∨ (rd_T45 l0 x).f0 < 1 ∨ 999999 < (rd_T45 l0 x).f0 ∨ min (rd_T45 l0 x).f1 (rd_T45 l0 x).f2 < 0 ∨ 1051898399 < max (rd_T45 l0 x).f1 (rd_T45 l0 x).f2 ∨ (rd_T45 l0 x).f3 < 1 ∨ 100000 < (rd_T45 l0 x).f3) :
    Sh.firstJob [] (l0.map toJ) 0 = x := by
  rw [hF, drop_next h0 hlt, Sh.firstJob, if_pos]
  unfold Sh.badJob
  simp only [Bool.or_eq_true, decide_eq_true_eq]
  have e0 : (toJ (rd_T45 l0 x)).id = (rd_T45 l0 x).f0 := rfl
  have e1 : (toJ (rd_T45 l0 x)).rel = (rd_T45 l0 x).f1 := rfl
  have e2 : (toJ (rd_T45 l0 x)).due = (rd_T45 l0 x).f2 := rfl
  have e3 : (toJ (rd_T45 l0 x)).min = (rd_T45 l0 x).f3 := rfl
  rw [e0, e1, e2, e3, ← hM.has]
  rcases hb with h | h | h | h | h | h | h <;> simp [h]
theorem index_good {l0 : List (S45)} {x : Int} (h0 : 0 ≤ x) (hlt : x < (l0.length : Int)) (hF : Sh.firstJob [] (l0.map toJ) 0 = Sh.firstJob ((l0.map toJ).take x.toNat) ((l0.map toJ).drop x.toNat) x)
    {D : DataW Unit} (hM : MapOK D ((l0.map toJ).take x.toNat))
    (hn : ¬ Maps.has D (.int .i64 (rd_T45 l0 x).f0) = true) (hb : 1 ≤ (rd_T45 l0 x).f0 ∧ (rd_T45 l0 x).f0 ≤ 999999 ∧ 0 ≤ min (rd_T45 l0 x).f1 (rd_T45 l0 x).f2 ∧ max (rd_T45 l0 x).f1 (rd_T45 l0 x).f2 ≤ 1051898399 ∧ 1 ≤ (rd_T45 l0 x).f3 ∧ (rd_T45 l0 x).f3 ≤ 100000) :
    Sh.firstJob [] (l0.map toJ) 0 = Sh.firstJob ((l0.map toJ).take (x + 1).toNat) ((l0.map toJ).drop (x + 1).toNat) (x + 1) ∧ MapOK (D.put (.int .i64 (rd_T45 l0 x).f0) (.lit (.int .i64 x))) ((l0.map toJ).take (x + 1).toNat) := by
  have hid : ∀ y ∈ (l0.map toJ).take x.toNat, y.id ≠ (toJ (rd_T45 l0 x)).id := by
    intro y hy he
    rw [hM.has] at hn
    exact hn (List.any_eq_true.2 ⟨y, hy, by simpa [toJ] using he⟩)
  have e : Sh.badJob ((l0.map toJ).take x.toNat) (toJ (rd_T45 l0 x)) = false := by
    apply Sh.badJob_true
    refine ⟨hid, ?_⟩
    simp only [toJ]
    omega
  constructor
  · rw [hF, drop_next h0 hlt, Sh.firstJob, e, take_next h0 hlt]
    simp
  · rw [take_next h0 hlt]
    have := hM.step (x := toJ (rd_T45 l0 x)) hid trivial (k := x) (by simp; omega)
    exact this
set_option maxHeartbeats 4000000 in
set_option maxRecDepth 100000 in
theorem index_any (A0 : Option Addr) (c0 : Nat) (l0 : List (S45)) (w : World) (hr0 : Kd.C k45 w A0 l0.length l0) (hc0 : l0.length ≤ c0) (hw : wf45 l0 = true) :
    Calls Try.prog 26 #[.slice A0 l0.length c0] w (IndexPost l0 w) := by
  have hmm := @run_makeMap Try.prog
  have hu45 := Try.underlying45
  have HLEN := Aside0.mk hr0.2.1
  have HR0 := Aside0.mk hr0
  have HC0 := Aside0.mk hc0
  have HW := Aside0.mk hw
  clear hr0 hc0 hw
  go_enter Try.func26, Try.ntmps26
  go_wp2
  go_loopg [12] l0.length (fun kq v12 wr => ∃ x : Int, v12 = .int .i64 x ∧ Aside0 ((kq : Int) + x = l0.length) ∧ Aside0 (IndexAt l0 w w.heap.size x wr))
  case atStart => exact ⟨0, rfl, ⟨by simp⟩, ⟨Int.le_refl 0, by omega, (Below.refl _ _).alloc (Nat.le_refl _) _, rfl, .map [], World.ownsMap_made _ _ _ _, MapOK.start⟩⟩
  case round =>
    obtain ⟨x, rfl, HK, HI⟩ := hrel
    by_cases hlt : x < (l0.length : Int)
    · have c0b : decide (x < (l0.length : Int)) = true := decide_eq_true hlt
      have h0 : 0 ≤ x := HI.out.1
      have HL := Aside0.mk hlt
      have H0 := Aside0.mk h0
      obtain ⟨ad, ea, hx0, hx1, hx2, hx3⟩ := at_T45 HR0.out x h0 hlt
      have q0 := eq_true hlt
      clear hlt
      cases ea
      have hb : ∀ {a : Addr} {v : Value}, w.cell? a = some v → wr.cell? a = some v := fun hc => (HI.out.2.2.1.cell (World.block_lt_of_cell? w _ hc)).trans hc
      replace hx0 := hb hx0
      replace hx1 := hb hx1
      replace hx2 := hb hx2
      replace hx3 := hb hx3
      clear hb
      obtain ⟨_, _, HB, HF, D, HOWN, HM⟩ := HI.out
      have HB := Aside0.mk HB
      have HF := Aside0.mk HF
      have HOWN := Aside0.mk HOWN
      have HM := Aside0.mk HM
      have hkey : keyOf Try.prog 3 (.int .i64 (rd_T45 l0 x).f0) = some (.int .i64 (rd_T45 l0 x).f0) := keyOf_int_mk Try.underlying3 (wf_rd HW.out h0 HL.out)
      have EW : Aside0 (wrap64 (x + 1) = x + 1) := ⟨by have := HLEN.out; have := HL.out; unfold wrap64; omega⟩
      have HWF := Aside0.mk (WalkArith.wf_i64 (n := x) (by have := HLEN.out; have := HL.out; omega))
      replace h0 := eq_true h0
      go_wp2_with (first
        | (at_lookup; refine wpList_lookup_own_ok_int _ rfl _ _ 66 rfl 3 3 .i64 law3 Try.underlying66 Try.underlying3 (zero3 _) w.heap.size x.toNat _ rfl (HOWN.out.alloc _) _ _ rfl hkey ?_; intro c hat hwc)
        | (at_mapUpdate; refine wpList_mapUpdate_own _ rfl _ _ _ 66 rfl 3 3 law3 Try.underlying66 _ w.heap.size x.toNat _ rfl (HOWN.out.alloc _) (by unfold maxLen; have := HLEN.out; have := HL.out; omega) _ _ _ rfl rfl hkey _ [] (plainElem_int Try.underlying3 HWF.out) ?_; intro w1 hown1 hgrow1)
        | fail)
      all_goals first
        | (go_ret2
           have e := index_bad H0.out HL.out HF.out HM.out (by first | exact .inl (by assumption) | (right; omega))
           exact ⟨by repeat (first | exact HB.out | apply below_alloc), .inr ⟨by rw [e]; exact H0.out, by rw [e]; rfl⟩⟩)
        | (have hn : ¬ Maps.has D (.int .i64 (rd_T45 l0 x).f0) = true := by assumption
           have hg := index_good H0.out HL.out HF.out HM.out hn (by omega)
           have HG := Aside0.mk hg
           have HO1 := Aside0.mk hown1
           have HB1 := Aside0.mk ((below_alloc HB.out (.cells #[.int .i64 (rd_T45 l0 x).f0, .int .i64 (rd_T45 l0 x).f1, .int .i64 (rd_T45 l0 x).f2, .int .i64 (rd_T45 l0 x).f3] 45 (0, 0))).grown hgrow1 (below_alloc HB.out _).size (fun j hj => by cases hj; exact Nat.le_refl _))
           clear hg hown1 hgrow1
           go_roundg (l0.length - (x + 1).toNat)
           case measure => have := HK.out; have := HL.out; omega
           case rel => exact ⟨wrap64 (x + 1), rfl, by rw [EW.out]; exact ⟨by have := HK.out; have := HL.out; have := H0.out; omega⟩, by rw [EW.out]; exact ⟨by have := H0.out; omega, by have := HL.out; omega, HB1.out, HG.out.1, _, by rw [show (x + 1).toNat = x.toNat + 1 by have := H0.out; omega]; exact HO1.out, HG.out.2⟩⟩)
    · have c0b : decide (x < (l0.length : Int)) = false := decide_eq_false hlt
      have HL := Aside0.mk hlt
      clear hlt
      go_wp2
      go_ret2
      obtain ⟨h0, h1, HB, HF, D, HOWN, HM⟩ := HI.out
      obtain rfl : x = l0.length := by have := HL.out; omega
      have e1 : (l0.map toJ).take (l0.length : Int).toNat = l0.map toJ := List.take_of_length_le (by simp)
      have e2 : (l0.map toJ).drop (l0.length : Int).toNat = [] := List.drop_of_length_le (by simp)
      rw [e1] at HM
      rw [e1, e2] at HF
      exact ⟨HB, .inl ⟨by rw [HF]; rfl, _, D, rfl, Nat.le_refl _, by simpa using HOWN, HM⟩⟩
theorem dropS_next {l : List (S47)} {i : Int} (h0 : 0 ≤ i) (h : i < (l.length : Int)) : (l.map toS).drop i.toNat = toS (rd_T47 l i) :: (l.map toS).drop (i + 1).toNat := by
  have hn : i.toNat < (l.map toS).length := by simp; omega
  have e : toS (rd_T47 l i) = (l.map toS)[i.toNat] := by
    have hn' : i.toNat < l.length := by omega
    simp [rd_T47, hn']
  rw [show (i + 1).toNat = i.toNat + 1 by omega, e, ← List.drop_eq_getElem_cons hn]
theorem broken_at (l : List (S47)) (hl : l.length ≤ 9223372036854775807) (d : Nat) : ∀ (k : Nat) (e i : Int), 0 ≤ i → (l.length : Int) - i = d → d < k →
    shift_broken.l0 k e l (l.length : Int) i = some (Sh.firstShift e ((l.map toS).drop i.toNat) i) := by
  induction d with
  | zero =>
    intro k e i h0 hd hk
    obtain ⟨k, rfl⟩ : ∃ m, k = m + 1 := ⟨k - 1, by omega⟩
    simp only [shift_broken.l0]
    rw [if_neg (by omega), List.drop_of_length_le (by simp; omega)]
    rfl
  | succ d ih =>
    intro k e i h0 hd hk
    obtain ⟨k, rfl⟩ : ∃ m, k = m + 1 := ⟨k - 1, by omega⟩
    have hlt : i < (l.length : Int) := by omega
    simp only [shift_broken.l0]
    rw [if_pos hlt, if_pos h0, if_pos hlt, dropS_next h0 hlt, Sh.firstShift]
    have ew : wrap64 (i + 1) = i + 1 := by unfold wrap64; omega
    rw [ew]
    have e1 : (toS (rd_T47 l i)).frm = (rd_T47 l i).f0 := rfl
    have e2 : (toS (rd_T47 l i)).to = (rd_T47 l i).f1 := rfl
    rw [e1, e2]
    by_cases c1 : (rd_T47 l i).f0 < e
    · rw [if_pos c1, if_pos (.inl c1)]
    · rw [if_neg c1]
      by_cases c2 : (rd_T47 l i).f1 ≤ (rd_T47 l i).f0
      · rw [if_pos c2, if_pos (.inr (.inl c2))]
      · rw [if_neg c2]
        by_cases c3 : (rd_T47 l i).f1 > 1051898399
        · rw [if_pos c3, if_pos (.inr (.inr c3))]
        · rw [if_neg c3, if_neg (by omega)]
          exact ih k _ (i + 1) (by omega) (by omega) (by omega)
theorem broken_f (l : List (S47)) (hl : l.length ≤ 9223372036854775807) : shift_broken.f (l.length + 1) l = some (Sh.firstShift 0 (l.map toS) 0) := by
  unfold shift_broken.f
  rw [broken_at l hl l.length (l.length + 1) 0 0 (Int.le_refl 0) (by omega) (by omega)]
  rfl
def PairBelow (x y : Int) (w : World) (e : Ending) (w' : World) : Prop := e = .returned (.tuple #[.int .i64 x, .int .i64 y]) ∧ Below w.heap.size w w'
theorem index_ok (A0 : Option Addr) (c0 : Nat) (l0 : List (S45)) (w : World) (hr0 : Kd.C k45 w A0 l0.length l0) (hc0 : l0.length ≤ c0) (hw : wf45 l0 = true) (hi : Sh.firstJob [] (l0.map toJ) 0 = -1) :
    Calls Try.prog 26 #[.slice A0 l0.length c0] w fun e w' => ∃ (B : Nat) (D : DataW Unit), e = .returned (.tuple #[.map (some B), .int .i64 (-1)]) ∧ Aside0 (Below w.heap.size w w' ∧ w.heap.size ≤ B ∧ w'.ownsMap Try.prog 3 (plainElem Try.prog 3) B l0.length D ∧ MapOK D (l0.map toJ)) :=
  (index_any A0 c0 l0 w hr0 hc0 hw).mono fun e w' ⟨hb, h⟩ => by
    rcases h with ⟨_, B, D, he, h1, h2, h3⟩ | ⟨h, _⟩
    · exact ⟨B, D, he, ⟨hb, h1, h2, h3⟩⟩
    · omega
theorem index_no (A0 : Option Addr) (c0 : Nat) (l0 : List (S45)) (w : World) (hr0 : Kd.C k45 w A0 l0.length l0) (hc0 : l0.length ≤ c0) (hw : wf45 l0 = true) (hi : 0 ≤ Sh.firstJob [] (l0.map toJ) 0) :
    Calls Try.prog 26 #[.slice A0 l0.length c0] w fun e w' => e = .returned (.tuple #[.map none, .int .i64 (Sh.firstJob [] (l0.map toJ) 0)]) ∧ Aside0 (Below w.heap.size w w') :=
  (index_any A0 c0 l0 w hr0 hc0 hw).mono fun e w' ⟨hb, h⟩ => by
    rcases h with ⟨h, _⟩ | ⟨_, h⟩
    · omega
    · exact ⟨h, ⟨hb⟩⟩
set_option maxHeartbeats 4000000 in
set_option maxRecDepth 100000 in
theorem valid_any (A0 : Option Addr) (c0 : Nat) (l0 : List (S45)) (A1 : Option Addr) (c1 : Nat) (l1 : List (S47)) (w : World) (hr0 : Kd.C k45 w A0 l0.length l0) (hc0 : l0.length ≤ c0) (hr1 : Kd.C k47 w A1 l1.length l1) (hc1 : l1.length ≤ c1) (hw : wf45 l0 = true) :
    Calls Try.prog 23 #[.slice A0 l0.length c0, .slice A1 l1.length c1] w (PairBelow (Sh.validX (l0.map toJ) (l1.map toS)).1 (Sh.validX (l0.map toJ) (l1.map toS)).2 w) := by
  have HL0 := Aside0.mk hr0.2.1
  have HL1 := Aside0.mk hr1.2.1
  have HR0 := Aside0.mk hr0
  have HC0 := Aside0.mk hc0
  have HR1 := Aside0.mk hr1
  have HC1 := Aside0.mk hc1
  have HW := Aside0.mk hw
  clear hr0 hc0 hr1 hc1 hw
  have HV : Aside0 (Sh.validX (l0.map toJ) (l1.map toS) = if 200 < l0.length ∨ 200 < l1.length then (0, 5)
    else if 0 ≤ Sh.firstJob [] (l0.map toJ) 0 then (Sh.firstJob [] (l0.map toJ) 0, 300)
    else if 0 ≤ Sh.firstShift 0 (l1.map toS) 0 then (Sh.firstShift 0 (l1.map toS) 0, 301) else (0, 0)) := ⟨by unfold Sh.validX; simp only [List.length_map]⟩
  by_cases c1 : 200 < l0.length
  · have e : Sh.validX (l0.map toJ) (l1.map toS) = (0, 5) := by rw [HV.out, if_pos (.inl c1)]
    rw [e]
    have b1 : decide (200 < (l0.length : Int)) = true := decide_eq_true (by omega)
    clear e c1 HV
    go_enter Try.func23, Try.ntmps23
    go_wp2
    go_ret2
    exact ⟨rfl, Below.refl _ _⟩
  · have b1 : decide (200 < (l0.length : Int)) = false := decide_eq_false (by omega)
    by_cases c2 : 200 < l1.length
    · have e : Sh.validX (l0.map toJ) (l1.map toS) = (0, 5) := by rw [HV.out, if_pos (.inr c2)]
      rw [e]
      have b2 : decide (200 < (l1.length : Int)) = true := decide_eq_true (by omega)
      clear e c1 c2 HV
      go_enter Try.func23, Try.ntmps23
      go_wp2
      go_ret2
      exact ⟨rfl, Below.refl _ _⟩
    · have b2 : decide (200 < (l1.length : Int)) = false := decide_eq_false (by omega)
      have n : ¬ (200 < l0.length ∨ 200 < l1.length) := by omega
      clear c1 c2
      by_cases c3 : 0 ≤ Sh.firstJob [] (l0.map toJ) 0
      · have e : Sh.validX (l0.map toJ) (l1.map toS) = (Sh.firstJob [] (l0.map toJ) 0, 300) := by rw [HV.out, if_neg n, if_pos c3]
        rw [e]
        have H3 := Aside0.mk c3
        have hin := index_no A0 c0 l0 w HR0.out HC0.out HW.out c3
        have HIN := Aside0.mk hin
        generalize hz : Sh.firstJob [] (l0.map toJ) 0 = z at HIN H3 ⊢
        have b3 : decide (0 ≤ z) = true := decide_eq_true H3.out
        clear e c3 HV n hz hin
        go_enter Try.func23, Try.ntmps23
        go_wp2_with (go_at_call 26; refine HIN.out.mono ?_; rintro e w1 ⟨rfl, HB⟩)
        go_ret2
        exact ⟨rfl, HB.out⟩
      · have c3' : Sh.firstJob [] (l0.map toJ) 0 = -1 := by rcases Sh.firstJob_ge [] (l0.map toJ) 0 (Int.le_refl 0) with k | k <;> omega
        have hin := index_ok A0 c0 l0 w HR0.out HC0.out HW.out c3'
        have HIN := Aside0.mk hin
        have HV2 : Aside0 (Sh.validX (l0.map toJ) (l1.map toS) = if 0 ≤ Sh.firstShift 0 (l1.map toS) 0 then (Sh.firstShift 0 (l1.map toS) 0, 301) else (0, 0)) := ⟨by rw [HV.out, if_neg n, if_neg c3]⟩
        have HBR := Aside0.mk (broken_f l1 HL1.out)
        clear c3 c3' hin HV n
        generalize hz : Sh.firstShift 0 (l1.map toS) 0 = z at HV2 HBR
        by_cases c4 : 0 ≤ z
        · have e : Sh.validX (l0.map toJ) (l1.map toS) = (z, 301) := by rw [HV2.out, if_pos c4]
          rw [e]
          have b4 : decide (0 ≤ z) = true := decide_eq_true c4
          clear e c4 HV2 hz
          go_enter Try.func23, Try.ntmps23
          go_wp2_with (first
            | (go_at_call 26; refine HIN.out.mono ?_; rintro e w1 ⟨B, D, rfl, HB⟩)
            | (go_at_call 28; refine (shift_broken.calls _ _ _ _ _ _ (Kd.C_below HR1.out HB.out.1) HC1.out HBR.out).mono ?_; rintro e w2 ⟨rfl, hb2⟩; have HB2 := Aside0.mk hb2; clear hb2))
          go_ret2
          exact ⟨rfl, below_step HB.out.1 HB2.out⟩
        · have e : Sh.validX (l0.map toJ) (l1.map toS) = (0, 0) := by rw [HV2.out, if_neg c4]
          rw [e]
          have b4 : decide (0 ≤ z) = false := decide_eq_false c4
          clear e c4 HV2 hz
          go_enter Try.func23, Try.ntmps23
          go_wp2_with (first
            | (go_at_call 26; refine HIN.out.mono ?_; rintro e w1 ⟨B, D, rfl, HB⟩)
            | (go_at_call 28; refine (shift_broken.calls _ _ _ _ _ _ (Kd.C_below HR1.out HB.out.1) HC1.out HBR.out).mono ?_; rintro e w2 ⟨rfl, hb2⟩; have HB2 := Aside0.mk hb2; clear hb2))
          go_ret2
          exact ⟨rfl, below_step HB.out.1 HB2.out⟩
theorem shift_valid.calls (A0 : Option Addr) (c0 : Nat) (l0 : List (S45)) (A1 : Option Addr) (c1 : Nat) (l1 : List (S47)) (r1 : Int) (r2 : Int) (w : World) (hr0 : Kd.C k45 w A0 l0.length l0) (hc0 : l0.length ≤ c0) (hr1 : Kd.C k47 w A1 l1.length l1) (hc1 : l1.length ≤ c1) (h : shift_valid.f l0 l1 = some (r1, r2)) :
    Calls Try.prog 23 #[.slice A0 l0.length c0, .slice A1 l1.length c1] w fun e w' => e = .returned (.tuple #[.int .i64 r1, .int .i64 r2]) ∧ Below w.heap.size w w' := by
  unfold shift_valid.f at h
  by_cases hw : wf45 l0 = true
  · rw [if_pos hw] at h
    have e := Option.some.inj h
    refine (valid_any A0 c0 l0 A1 c1 l1 w hr0 hc0 hr1 hc1 hw).mono fun e' w' h' => ?_
    rw [e] at h'
    exact h'
  · rw [if_neg hw] at h
    exact absurd h (by simp)
end Go.Proofs.Ytbnjdlafnejanaa.Pr
namespace Go.Proofs.Ytbnjdlafnejanaa.Pr
open Go.RowKit Go.Maps Go.Proofs.YtbnjdlafnejanaaW.PrintWords Go.Proofs.YtbnjdlafnejanaaW.PrintLast Go.Proofs.YtbnjdlafnejanaaW.PrintMore
/-- What index returns for valid jobs (the map is told by its jobs alone). -/
def shift_index.f (l0 : List (S45)) : Option (Int × Int) := if wf45 l0 = true then (if Sh.firstJob [] (l0.map toJ) 0 = -1 then some (0, -1) else none) else none
theorem index_f {l0 : List (S45)} {x y : Int} (h : shift_index.f l0 = some (x, y)) : wf45 l0 = true ∧ Sh.firstJob [] (l0.map toJ) 0 = -1 := by
  unfold shift_index.f at h
  split at h
  · split at h
    · exact ⟨by assumption, by assumption⟩
    · cases h
  · cases h
/-- The index of the job that has an ID. -/
def posOf (id : Int) : List (S45) → Int → Option Int
  | [], _ => none
  | x :: l, i => if x.f0 = id then some i else posOf id l (i + 1)
/-- What the map tells at an ID. -/
def shift_look.f (l0 : List (S45)) (id : Int) : Option (Int × Bool) :=
  if (Lit.int .i64 id).wf = true then some (match posOf id l0 0 with | some i => (i, true) | none => (0, false)) else none
theorem posOf_some {id : Int} : ∀ {l : List (S45)} {i r : Int}, posOf id l i = some r → ∃ (k : Nat) (h : k < l.length), r = i + k ∧ l[k].f0 = id := by
  intro l
  induction l with
  | nil => intro i r h; cases h
  | cons x l ih =>
    intro i r h
    unfold posOf at h
    split at h
    · rename_i e
      injection h with h
      exact ⟨0, by simp, by omega, e⟩
    · obtain ⟨k, hk, h1, h2⟩ := ih h
      exact ⟨k + 1, by simpa using hk, by omega, by simpa using h2⟩
theorem posOf_none {id : Int} : ∀ {l : List (S45)} {i : Int}, posOf id l i = none → ∀ x ∈ l, x.f0 ≠ id := by
  intro l
  induction l with
  | nil => intro i _ x hx; cases hx
  | cons y l ih =>
    intro i h x hx
    unfold posOf at h
    split at h
    · cases h
    · rcases List.mem_cons.1 hx with rfl | hx
      · assumption
      · exact ih h x hx
theorem look_event {ops : Array Oper} {rest : List Oper} {o : Oper} {a : Act} {Q : Exit → Act → World → Prop} {l0 : List (S45)} (W : World)
    (hg : o.guard = none) (m x : Operand) (hop : o.op = Op.lookup 66 m x true) (B n : Nat) (D : DataW Unit)
    (hm : a.eval m = .map (some B)) (hown : W.ownsMap Try.prog 3 (plainElem Try.prog 3) B n D) (hM : MapOK D (l0.map toJ)) (id : Int) (hx : a.eval x = .int .i64 id) (t : Int) (b : Bool)
    (hf : shift_look.f l0 id = some (t, b))
    (hK : ∀ w1, Below W.heap.size W w1 → wpList Try.prog ops Q rest (a.put o.dst (.tuple #[.int .i64 t, .bool b])) w1) :
    wpList Try.prog ops Q (o :: rest) a W := by
  unfold shift_look.f at hf
  split at hf
  · rename_i hw
    have hf := Option.some.inj hf
    refine wpList_lookup_own_ok_int W hg m x 66 hop 3 3 .i64 law3 Try.underlying66 Try.underlying3 (zero3 _) B n D hm hown _ _ hx (keyOf_int_mk Try.underlying3 hw) ?_
    intro c hat _
    have hh := hM.has id
    cases hp : posOf id l0 0 with
    | some i =>
      rw [hp] at hf
      obtain ⟨k, hk, h1, h2⟩ := posOf_some hp
      have hid := hM.ids k (by simpa using hk) (.lit (.int .i64 0))
      have e1 : ((l0.map toJ)[k]'(by simpa using hk)).id = id := by simpa [toJ] using h2
      rw [e1, hat] at hid
      have ht : Maps.has D (.int .i64 id) = true := by
        rw [hh, List.any_eq_true]
        exact ⟨_, List.getElem_mem (show k < (l0.map toJ).length by simpa using hk), by simpa using e1⟩
      have hc : c = k := by injection hid with hid; injection hid
      simp only [Prod.mk.injEq] at hf
      obtain ⟨rfl, rfl⟩ := hf
      rw [ht, hc, show (k : Int) = i by omega]
      exact hK W (Below.refl _ _)
    | none =>
      rw [hp] at hf
      have hn := posOf_none hp
      have ht : Maps.has D (.int .i64 id) = false := by
        rw [hh, List.any_eq_false]
        intro y hy
        obtain ⟨z, hz, rfl⟩ := List.mem_map.1 hy
        exact fun hd => hn z hz (of_decide_eq_true hd)
      have hc := atKey_of_not_has ht (.lit (.int .i64 0))
      rw [hat] at hc
      have hc : c = 0 := by injection hc with hc; injection hc
      simp only [Prod.mk.injEq] at hf
      obtain ⟨rfl, rfl⟩ := hf
      rw [ht, hc]
      exact hK W (Below.refl _ _)
  · cases hf
theorem end_lift {α : Type} {d : Kd α} {t : Nat} {w w6 W : World} {E : Ending} {r : List α} (hb : Below w.heap.size w w6)
    (h : ∃ v0_ : Value, E = .returned v0_ ∧ d.R t W w6.heap.size (fun _ => True) v0_ r ∧ Below w6.heap.size w6 W) : ∃ v0_ : Value, E = .returned v0_ ∧ d.R t W w.heap.size (fun _ => True) v0_ r ∧ Below w.heap.size w W := by
  obtain ⟨v, h1, h2, h3⟩ := h
  exact ⟨v, h1, Kd.R_lower h2 hb.size, below_step hb h3⟩
theorem end_lift2 {w w6 W : World} {P : Prop} (hb : Below w.heap.size w w6) (h : P ∧ Below w6.heap.size w6 W) : P ∧ Below w.heap.size w W := ⟨h.1, below_step hb h.2⟩
end Go.Proofs.Ytbnjdlafnejanaa.Pr
namespace Go.Proofs.Ytbnjdlafnejanaa.Pr
open Go.RowKit Go.Proofs.YtbnjdlafnejanaaW.PrintWords Go.Proofs.YtbnjdlafnejanaaW.PrintLast Go.Proofs.YtbnjdlafnejanaaW.PrintMore
theorem ev_pos {α : Type} {c : Prop} [Decidable c] {A B : Nat → Option α} {r : α} (h : c) (k : Ev A r) : Ev (fun n => if c then A n else B n) r := Ev.congr (fun _ => if_pos h) k
theorem ev_neg {α : Type} {c : Prop} [Decidable c] {A B : Nat → Option α} {r : α} (h : ¬ c) (k : Ev B r) : Ev (fun n => if c then A n else B n) r := Ev.congr (fun _ => if_neg h) k
theorem ev_val {α : Type} {x : Option α} {r : α} (h : x = some r) : Ev (fun _ => x) r := ⟨0, fun _ _ => h⟩
theorem w64 {n : Int} (h : -9223372036854775808 ≤ n) (h' : n ≤ 9223372036854775807) : wrap64 n = n := by unfold wrap64; omega
theorem wtmod {n m : Int} (h : 0 ≤ n) (h0 : 0 < m) (h' : m ≤ 9223372036854775807) : wrap64 (Int.tmod n m) = n % m := by
  rw [Int.tmod_eq_emod_of_nonneg h]
  have := Int.emod_nonneg n (show m ≠ 0 by omega)
  have := Int.emod_lt_of_pos n h0
  exact w64 (by omega) (by omega)
theorem small {n a : Nat} (h : n ≤ 8) (ha : 8 < a := by decide) : n < a := Nat.lt_of_le_of_lt h ha
theorem ev_eq {α : Type} {g : Nat → Option α} {r q : α} (h : r = q) (k : Ev g r) : Ev g q := h ▸ k
/-- A task's and a gap's numbers are bytes. -/
def b61 (x : S61) : Prop := (0 ≤ x.f0 ∧ x.f0 ≤ 255) ∧ (0 ≤ x.f1 ∧ x.f1 ≤ 255) ∧ 0 ≤ x.f2 ∧ x.f2 ≤ 255
def b55 (x : S55) : Prop := (0 ≤ x.f0 ∧ x.f0 ≤ 255) ∧ 0 ≤ x.f1 ∧ x.f1 ≤ 255
def jobOf (i : Nat) (x : S61) : S45 := ⟨7 * (i : Int) % 9 + 1, x.f0 % 64, x.f1 % 64, 1 + x.f2 % 8⟩
def workX (l : List S61) : List S45 := (l.take 8).mapIdx jobOf
def hoursFrom : Int → List S55 → List S47
  | _, [] => []
  | t, x :: l => ⟨t + x.f0 % 16, t + x.f0 % 16 + 1 + x.f1 % 16⟩ :: hoursFrom (t + x.f0 % 16 + 1 + x.f1 % 16) l
def hoursX (l : List S55) : List S47 := hoursFrom 0 (l.take 8)
theorem work_l0 (l : List S61) (hb : ∀ x ∈ l, b61 x) (d : Nat) : ∀ i : Nat, i ≤ 8 → i ≤ l.length → min 8 l.length - i = d →
    Ev (fun k => letterbaglaw30_work.l0 k ((l.take i).mapIdx jobOf) l (l.length : Int) (i : Int)) (workX l) := by
  induction d with
  | zero =>
    intro i h8 hl hd
    refine Ev.step (fun k => letterbaglaw30_work.l0.eq_2 _ _ _ _ k) ?_
    by_cases c : (i : Int) < (l.length : Int)
    · refine ev_pos c (ev_pos (by omega) (ev_pos c (ev_pos (by omega) (ev_eq ?_ (Ev.now _)))))
      rw [show i = 8 by omega]; rfl
    · refine ev_neg c (ev_eq ?_ (Ev.now _))
      unfold workX
      rw [List.take_of_length_le (show l.length ≤ 8 by omega), List.take_of_length_le (show l.length ≤ i by omega)]
  | succ d ih =>
    intro i h8 hl hd
    have hi : i < l.length := by omega
    have c : (i : Int) < (l.length : Int) := by omega
    have hx := hb _ (List.getElem_mem hi)
    obtain ⟨⟨h1, h2⟩, ⟨h3, h4⟩, h5, h6⟩ := hx
    have key := ih (i + 1) (by omega) (by omega) (by omega)
    refine Ev.step (fun k => letterbaglaw30_work.l0.eq_2 _ _ _ _ k) ?_
    refine ev_pos c (ev_pos (by omega) (ev_pos c (ev_neg (by omega) (ev_pos (small (by rw [List.length_mapIdx, List.length_take]; omega)) ?_))))
    have er : rd_T61 l (i : Int) = l[i] := by simp [rd_T61, hi]
    have hmin : min i l.length = i := by omega
    have b0 : (-9223372036854775808 ≤ 7 * (i : Int) ∧ 7 * (i : Int) ≤ 9223372036854775807) ∧ (-9223372036854775808 ≤ 7 * (i : Int) % 9 + 1 ∧ 7 * (i : Int) % 9 + 1 ≤ 9223372036854775807) ∧ (-9223372036854775808 ≤ 1 + l[i].f2 % 8 ∧ 1 + l[i].f2 % 8 ≤ 9223372036854775807) ∧ -9223372036854775808 ≤ (i : Int) + 1 ∧ (i : Int) + 1 ≤ 9223372036854775807 ∧ 0 ≤ 7 * (i : Int) := by omega
    rw [List.take_succ_eq_append_getElem hi, List.mapIdx_concat, List.length_take, hmin] at key
    have w2 := wtmod (n := l[i].f0) (m := 64) h1 (by decide) (by decide)
    have w3 := wtmod (n := l[i].f1) (m := 64) h3 (by decide) (by decide)
    have w4 := wtmod (n := l[i].f2) (m := 8) h5 (by decide) (by decide)
    have w0 := w64 (n := 7 * (i : Int)) b0.1.1 b0.1.2
    have e0 : Int.tmod (7 * (i : Int)) 9 = 7 * (i : Int) % 9 := Int.tmod_eq_emod_of_nonneg b0.2.2.2.2.2
    have w1 := w64 (n := 7 * (i : Int) % 9 + 1) b0.2.1.1 b0.2.1.2
    have w5 := w64 (n := 1 + l[i].f2 % 8) b0.2.2.1.1 b0.2.2.1.2
    have w6 : wrap64 ((i : Int) + 1) = ((i + 1 : Nat) : Int) := w64 (n := (i : Int) + 1) b0.2.2.2.1 b0.2.2.2.2.1
    rw [er, w0, e0, w1, w2, w3, w4, w5, w6]
    exact key
theorem work_f {l : List S61} (hb : ∀ x ∈ l, b61 x) : Ev (fun k => letterbaglaw30_work.f k l) (workX l) := by
  have h := work_l0 l hb (min 8 l.length - 0) 0 (by omega) (by omega) rfl
  have e : ((0 : Nat) : Int) = 0 := rfl
  rw [e, List.take_zero, List.mapIdx_nil] at h
  unfold letterbaglaw30_work.f
  exact h
theorem hours_l0 (l : List S55) (hb : ∀ x ∈ l, b55 x) (d : Nat) : ∀ (i : Nat) (p : List S47) (t : Int), i ≤ 8 → i ≤ l.length → min 8 l.length - i = d → p.length = i → 0 ≤ t → t ≤ 32 * (i : Int) →
    Ev (fun k => letterbaglaw30_hours.l0 k p t l (l.length : Int) (i : Int)) (p ++ hoursFrom t ((l.take 8).drop i)) := by
  induction d with
  | zero =>
    intro i p t h8 hl hd hp h0 ht
    refine Ev.step (fun k => letterbaglaw30_hours.l0.eq_2 _ _ _ _ _ k) ?_
    have e : (l.take 8).drop i = [] := List.drop_of_length_le (by rw [List.length_take]; omega)
    rw [e]
    by_cases c : (i : Int) < (l.length : Int)
    · exact ev_pos c (ev_pos (by omega) (ev_pos c (ev_pos (by omega) (ev_eq (by simp [hoursFrom]) (Ev.now _)))))
    · exact ev_neg c (ev_eq (by simp [hoursFrom]) (Ev.now _))
  | succ d ih =>
    intro i p t h8 hl hd hp h0 ht
    have hi : i < l.length := by omega
    have c : (i : Int) < (l.length : Int) := by omega
    have hx := hb _ (List.getElem_mem hi)
    obtain ⟨⟨h1, h2⟩, h3, h4⟩ := hx
    have key := ih (i + 1) (p ++ [⟨t + l[i].f0 % 16, t + l[i].f0 % 16 + 1 + l[i].f1 % 16⟩]) (t + l[i].f0 % 16 + 1 + l[i].f1 % 16) (by omega) (by omega) (by omega) (by simp [hp]) (by omega) (by omega)
    refine Ev.step (fun k => letterbaglaw30_hours.l0.eq_2 _ _ _ _ _ k) ?_
    refine ev_pos c (ev_pos (by omega) (ev_pos c (ev_neg (by omega) (ev_pos (small (by omega)) ?_))))
    refine Ev.bind (Ev.now _) ?_
    refine ev_pos (by simp; omega) ?_
    have er : rd_T55 l (i : Int) = l[i] := by simp [rd_T55, hi]
    have b0 : (-9223372036854775808 ≤ t + l[i].f0 % 16 ∧ t + l[i].f0 % 16 ≤ 9223372036854775807) ∧ (-9223372036854775808 ≤ t + l[i].f0 % 16 + 1 ∧ t + l[i].f0 % 16 + 1 ≤ 9223372036854775807) ∧ (-9223372036854775808 ≤ t + l[i].f0 % 16 + 1 + l[i].f1 % 16 ∧ t + l[i].f0 % 16 + 1 + l[i].f1 % 16 ≤ 9223372036854775807) ∧ -9223372036854775808 ≤ (i : Int) + 1 ∧ (i : Int) + 1 ≤ 9223372036854775807 := by omega
    have el : rd_T47 (p ++ [(⟨t + l[i].f0 % 16, t + l[i].f0 % 16 + 1 + l[i].f1 % 16⟩ : S47)]) (i : Int) = ⟨t + l[i].f0 % 16, t + l[i].f0 % 16 + 1 + l[i].f1 % 16⟩ := by
      simp [rd_T47, ← hp]
    have hd8 : i < (l.take 8).length := by rw [List.length_take]; omega
    rw [List.drop_eq_getElem_cons hd8]
    simp only [hoursFrom, List.getElem_take]
    rw [List.append_assoc] at key
    have w0 := wtmod (n := l[i].f0) (m := 16) h1 (by decide) (by decide)
    have w1 := wtmod (n := l[i].f1) (m := 16) h3 (by decide) (by decide)
    have w2 := w64 b0.1.1 b0.1.2
    have w3 := w64 b0.2.1.1 b0.2.1.2
    have w4 := w64 b0.2.2.1.1 b0.2.2.1.2
    have w6 : wrap64 ((i : Int) + 1) = ((i + 1 : Nat) : Int) := w64 b0.2.2.2.1 b0.2.2.2.2
    rw [er, w0, w1, w2, w3, w4, w6, el]
    exact key
theorem hours_f {l : List S55} (hb : ∀ x ∈ l, b55 x) : Ev (fun k => letterbaglaw30_hours.f k l) (hoursX l) := by
  have h := hours_l0 l hb (min 8 l.length - 0) 0 [] 0 (by omega) (by omega) rfl rfl (by omega) (by omega)
  have e : ((0 : Nat) : Int) = 0 := rfl
  rw [e, List.nil_append, List.drop_zero] at h
  unfold letterbaglaw30_hours.f hoursX
  exact h
theorem workX_len (l : List S61) : (workX l).length ≤ 8 := by simp [workX]; omega
theorem workX_get {l : List S61} {i : Nat} (h : i < (workX l).length) : ∃ h' : i < l.length, (workX l)[i] = jobOf i l[i] := by
  have h' : i < l.length := by simp [workX] at h; omega
  exact ⟨h', by simp [workX]⟩
/-- The numbers of these jobs. -/
theorem workX_bd {l : List S61} (hb : ∀ x ∈ l, b61 x) : ∀ x ∈ (workX l).map toJ, (1 ≤ x.id ∧ x.id ≤ 9) ∧ (0 ≤ x.rel ∧ x.rel ≤ 63) ∧ (0 ≤ x.due ∧ x.due ≤ 63) ∧ 1 ≤ x.min ∧ x.min ≤ 8 := by
  intro x hx
  obtain ⟨z, hz, rfl⟩ := List.mem_map.1 hx
  obtain ⟨i, hi, rfl⟩ := List.getElem_of_mem hz
  obtain ⟨h', e⟩ := workX_get hi
  obtain ⟨⟨h1, h2⟩, ⟨h3, h4⟩, h5, h6⟩ := hb _ (List.getElem_mem h')
  rw [e]
  simp only [toJ, jobOf]
  have := workX_len l
  omega
theorem workX_nod (l : List S61) : ((workX l).map toJ).Pairwise (fun x y => x.id ≠ y.id) := by
  rw [List.pairwise_map, List.pairwise_iff_getElem]
  intro i j hi hj hij
  obtain ⟨_, e⟩ := workX_get hi
  obtain ⟨_, e2⟩ := workX_get hj
  rw [e, e2]
  simp only [toJ, jobOf]
  have := workX_len l
  omega
theorem workX_BJ {l : List S61} (hb : ∀ x ∈ l, b61 x) : Sh.BJ ((workX l).map toJ) :=
  ⟨⟨fun x hx => by have := workX_bd hb x hx; omega, workX_nod l⟩, fun x hx => by have := workX_bd hb x hx; omega⟩
theorem wf_i64 {n : Int} (h : 0 ≤ n ∧ n ≤ 9223372036854775807) : (Lit.int .i64 n).wf = true := WalkArith.wf_i64 (by omega)
theorem wf45_of {l : List S45} (h : ∀ x ∈ l.map toJ, 1 ≤ x.id ∧ x.id ≤ 999999) : wf45 l = true := by
  unfold wf45
  rw [List.all_eq_true]
  intro x hx
  have := h (toJ x) (List.mem_map.2 ⟨x, hx, rfl⟩)
  simp only [toJ] at this
  exact wf_i64 (by omega)
theorem wf45_BJ {l : List S45} (h : Sh.BJ (l.map toJ)) : wf45 l = true := wf45_of fun x hx => ⟨(h.vj.pos x hx).1, (h.bd x hx).1⟩
theorem hoursFrom_len (t : Int) (l : List S55) : (hoursFrom t l).length = l.length := by
  induction l generalizing t with
  | nil => rfl
  | cons x l ih => simp [hoursFrom, ih]
theorem hoursX_len (l : List S55) : (hoursX l).length ≤ 8 := by unfold hoursX; rw [hoursFrom_len, List.length_take]; omega
/-- These shifts follow each other. -/
theorem hoursFrom_ok {l : List S55} (hb : ∀ x ∈ l, b55 x) (t : Int) (h0 : 0 ≤ t) : (∀ s ∈ (hoursFrom t l).map toS, t ≤ s.frm ∧ s.frm < s.to ∧ s.to ≤ s.frm + 16 ∧ s.to ≤ t + 32 * (l.length : Int)) ∧ ((hoursFrom t l).map toS).Pairwise (fun a b => a.to ≤ b.frm) := by
  induction l generalizing t with
  | nil => exact ⟨by simp [hoursFrom], by simp [hoursFrom]⟩
  | cons x l ih =>
    obtain ⟨⟨h1, h2⟩, h3, h4⟩ := hb x (by simp)
    obtain ⟨h5, h6⟩ := ih (fun y hy => hb y (by simp [hy])) (t + x.f0 % 16 + 1 + x.f1 % 16) (by omega)
    constructor
    · intro s hs
      simp only [hoursFrom, List.map_cons, List.mem_cons, List.length_cons] at hs ⊢
      rcases hs with rfl | hs
      · simp only [toS]; omega
      · have := h5 s hs; omega
    · simp only [hoursFrom, List.map_cons, List.pairwise_cons]
      refine ⟨fun s hs => ?_, h6⟩
      have := h5 s hs
      simp only [toS]; omega
theorem hoursX_bd {l : List S55} (hb : ∀ x ∈ l, b55 x) : ∀ s ∈ (hoursX l).map toS, 0 ≤ s.frm ∧ s.frm < s.to ∧ s.to ≤ s.frm + 16 ∧ s.to ≤ 256 := by
  intro s hs
  have := (hoursFrom_ok (l := l.take 8) (fun x hx => hb x (List.mem_of_mem_take hx)) 0 (Int.le_refl _)).1 s hs
  have hl : (l.take 8).length ≤ 8 := by rw [List.length_take]; omega
  omega
theorem hoursX_BS {l : List S55} (hb : ∀ x ∈ l, b55 x) : Sh.BS ((hoursX l).map toS) :=
  ⟨⟨fun s hs => by have := hoursX_bd hb s hs; omega, (hoursFrom_ok (l := l.take 8) (fun x hx => hb x (List.mem_of_mem_take hx)) 0 (Int.le_refl _)).2⟩, fun s hs => by have := hoursX_bd hb s hs; omega⟩
theorem toL_ofL (a : List Sh.Slice) : (a.map ofL).map toL = a := by
  rw [List.map_map]
  have : (toL ∘ ofL) = id := by funext x; cases x; rfl
  rw [this, List.map_id]
theorem make_f {l0 : List S45} {l1 : List S47} (hJ : Sh.BJ (l0.map toJ)) (hS : Sh.BS (l1.map toS)) (h0 : l0.length ≤ 200) (h1 : l1.length ≤ 200) :
    shift_Make.f l0 l1 = some ((Sh.makeX (l0.map toJ) (l1.map toS)).map ofL, 0) := by
  unfold shift_Make.f
  rw [if_pos (wf45_BJ hJ), Sh.validX_of hJ hS (by simpa using h0) (by simpa using h1), if_pos rfl]
theorem valid_f {l0 : List S45} {l1 : List S47} (hJ : Sh.BJ (l0.map toJ)) (hS : Sh.BS (l1.map toS)) (h0 : l0.length ≤ 200) (h1 : l1.length ≤ 200) :
    shift_valid.f l0 l1 = some (0, 0) := by
  unfold shift_valid.f
  rw [if_pos (wf45_BJ hJ), Sh.validX_of hJ hS (by simpa using h0) (by simpa using h1)]
end Go.Proofs.Ytbnjdlafnejanaa.Pr
namespace Go.Proofs.Ytbnjdlafnejanaa.Pr
open Go.ChangeShapes Go.WideShapes Go.Deep
open Go.RowKit Go.Proofs.YtbnjdlafnejanaaW.PrintWords Go.Proofs.YtbnjdlafnejanaaW.PrintLast Go.Proofs.YtbnjdlafnejanaaW.PrintMore
section
variable {H : Type} {enc : TypeId × Value → H} {P : Program} {w : World} {base : Nat} {spare : Nat → Bool} {held : Bool}
theorem open_slice_fields {t e : TypeId} {fs : Array Field} {fuel : Nat} {cs : List Value} {x : DataW H × List MemPlace} (ht : P.underlying t = some (.slice e)) (he : P.underlying e = some (.struct fs))
    (hone : oneCellFields P fs = true) (hC : P.cellsOf e = fs.size) (h : DataW.trod enc P w base spare held fuel t cs = some x) :
    cs = [.slice none 0 0] ∨
    ∃ (a : Addr) (len cap m : Nat), cs = [.slice (some a) len cap] ∧ len ≤ cap ∧ cap ≤ maxLen ∧ m = (if spare a.block then cap else len) ∧
      ∀ i, i < m → ∀ (j : Nat) (f : Field), fs[j]? = some f → ∃ (v : Value) (y : DataW H × List MemPlace) (n : Nat), w.cell? (a.add (i * fs.size + j)) = some v ∧ DataW.trod enc P w base spare held n f.type [v] = some y := by
  rcases open_slice ht h with h0 | ⟨a, len, cap, m, n, D, Pl, hcs, hb, hl, hm, hmm, hx, hi⟩
  · exact .inl h0.1
  · refine .inr ⟨a, len, cap, m, hcs, hl, hm, hmm, fun i him => ?_⟩
    obtain ⟨cs', hc, ht'⟩ := hi i him
    rw [hC] at hc
    obtain ⟨ys, n', hn', hy, hlen, hyl, hf⟩ := DataW.trod_struct he ht'
    obtain ⟨_, hcl, hat⟩ := World.cells?_some hc
    intro j f hj
    obtain ⟨ho, hk⟩ := hone_of hone j f hj
    have hjl : j < fs.size := (Array.getElem?_eq_some_iff.1 hj).1
    have hcell := hat j hjl
    have hv : cs'[j]? = some (cs'[j]'(by omega)) := List.getElem?_eq_getElem (by omega)
    have h1 := hf j f hj
    rw [ho, hk] at h1
    have hone' : (cs'.drop j).take 1 = [cs'[j]'(by omega)] := by
      rw [List.drop_eq_getElem_cons (by omega)]
      rfl
    rw [hone'] at h1
    have hys : ys[j]? = some (ys[j]'(by omega)) := List.getElem?_eq_getElem (by omega)
    refine ⟨_, _, n', ?_, h1.trans hys⟩
    rw [← Go.Deep.add_add, hcell, hv]
end
theorem list_of {α : Type} {Q : Nat → α → Prop} : ∀ n : Nat, (∀ i, i < n → ∃ x, Q i x) → ∃ l : List α, l.length = n ∧ ∀ (i : Nat) (h : i < l.length), Q i l[i] := by
  intro n
  induction n with
  | zero => intro _; exact ⟨[], rfl, fun i h => absurd h (by simp)⟩
  | succ n ih =>
    intro h
    obtain ⟨l, hl, hq⟩ := ih (fun i hi => h i (by omega))
    obtain ⟨x, hx⟩ := h n (by omega)
    refine ⟨l ++ [x], by simp [hl], fun i hi => ?_⟩
    by_cases e : i < l.length
    · rw [List.getElem_append_left e]; exact hq i e
    · have : i = n := by simp at hi; omega
      subst this
      rw [List.getElem_append_right (by omega)]
      simpa [hl] using hx
theorem u8_bd {n : Int} (h : (Lit.int .u8 n).wf = true) : 0 ≤ n ∧ n ≤ 255 := (Lit.wf_int_iff .u8 n).1 h
theorem maxLen_le : maxLen ≤ 9223372036854775807 := by decide
section
variable {H : Type} {enc : TypeId × Value → H} {w : World} {held : Bool} {a : Option Addr} {len cap : Nat} {d : DataW H} {p : List MemPlace}
theorem open61 (h : DataW.Trod enc Try.prog w 0 (fun _ => true) held 22 (.slice a len cap) d p) : ∃ l : List S61, l.length = len ∧ len ≤ cap ∧ Kd.C k61 w a len l ∧ ∀ x ∈ l, b61 x := by
  obtain ⟨fuel, hf⟩ := h
  rcases open_slice_fields Try.underlying22 Try.underlying61 (by kernel_rfl) (by kernel_rfl) hf with hcs | ⟨x, l, c, m, hcs, hl, hm, hmm, hi⟩
  · simp [Value.cells] at hcs
    obtain ⟨rfl, rfl, rfl⟩ := hcs
    exact ⟨[], rfl, Nat.le_refl _, ⟨rfl, by decide, fun h => absurd h (by decide)⟩, by simp⟩
  · simp [Value.cells] at hcs
    obtain ⟨rfl, rfl, rfl⟩ := hcs
    have hmm' : m = cap := by simpa using hmm
    subst hmm'
    obtain ⟨L, hL, hq⟩ := list_of (α := S61) (Q := fun i y => (w.cell? (x.add (i * 3)) = some (.int .u8 y.f0) ∧ w.cell? (x.add (i * 3 + 1)) = some (.int .u8 y.f1) ∧ w.cell? (x.add (i * 3 + 2)) = some (.int .u8 y.f2)) ∧ b61 y) len (fun i hil => by
      obtain ⟨v0, y0, n0, hc0, ht0⟩ := hi i (by omega) 0 _ rfl
      obtain ⟨v1, y1, n1, hc1, ht1⟩ := hi i (by omega) 1 _ rfl
      obtain ⟨v2, y2, n2, hc2, ht2⟩ := hi i (by omega) 2 _ rfl
      obtain ⟨e0, g0, _, w0⟩ := DataW.trod_int Try.underlying5 ht0
      obtain ⟨e1, g1, _, w1⟩ := DataW.trod_int Try.underlying5 ht1
      obtain ⟨e2, g2, _, w2⟩ := DataW.trod_int Try.underlying5 ht2
      injection g0 with g0; injection g1 with g1; injection g2 with g2
      subst g0; subst g1; subst g2
      exact ⟨⟨e0, e1, e2⟩, ⟨hc0, hc1, hc2⟩, u8_bd w0, u8_bd w1, u8_bd w2⟩)
    refine ⟨L, hL, hl, ⟨hL, by have := maxLen_le; omega, fun _ => ⟨x, rfl, fun j q hj => ?_⟩⟩, fun y hy => ?_⟩
    · obtain ⟨hjl, rfl⟩ := List.getElem?_eq_some_iff.1 hj
      obtain ⟨⟨h0, h1, h2⟩, _⟩ := hq j hjl
      refine ⟨_, rfl, k61_mk w L[j], fun i u hu => ?_⟩
      match i, hu with
      | 0, hu => injection hu with hu; subst hu; exact h0
      | 1, hu => injection hu with hu; subst hu; exact h1
      | 2, hu => injection hu with hu; subst hu; exact h2
    · obtain ⟨i, hil, rfl⟩ := List.getElem_of_mem hy
      exact (hq i hil).2
theorem open55 (h : DataW.Trod enc Try.prog w 0 (fun _ => true) held 23 (.slice a len cap) d p) : ∃ l : List S55, l.length = len ∧ len ≤ cap ∧ Kd.C k55 w a len l ∧ ∀ x ∈ l, b55 x := by
  obtain ⟨fuel, hf⟩ := h
  rcases open_slice_fields Try.underlying23 Try.underlying55 (by kernel_rfl) (by kernel_rfl) hf with hcs | ⟨x, l, c, m, hcs, hl, hm, hmm, hi⟩
  · simp [Value.cells] at hcs
    obtain ⟨rfl, rfl, rfl⟩ := hcs
    exact ⟨[], rfl, Nat.le_refl _, ⟨rfl, by decide, fun h => absurd h (by decide)⟩, by simp⟩
  · simp [Value.cells] at hcs
    obtain ⟨rfl, rfl, rfl⟩ := hcs
    have hmm' : m = cap := by simpa using hmm
    subst hmm'
    obtain ⟨L, hL, hq⟩ := list_of (α := S55) (Q := fun i y => (w.cell? (x.add (i * 2)) = some (.int .u8 y.f0) ∧ w.cell? (x.add (i * 2 + 1)) = some (.int .u8 y.f1)) ∧ b55 y) len (fun i hil => by
      obtain ⟨v0, y0, n0, hc0, ht0⟩ := hi i (by omega) 0 _ rfl
      obtain ⟨v1, y1, n1, hc1, ht1⟩ := hi i (by omega) 1 _ rfl
      obtain ⟨e0, g0, _, w0⟩ := DataW.trod_int Try.underlying5 ht0
      obtain ⟨e1, g1, _, w1⟩ := DataW.trod_int Try.underlying5 ht1
      injection g0 with g0; injection g1 with g1
      subst g0; subst g1
      exact ⟨⟨e0, e1⟩, ⟨hc0, hc1⟩, u8_bd w0, u8_bd w1⟩)
    refine ⟨L, hL, hl, ⟨hL, by have := maxLen_le; omega, fun _ => ⟨x, rfl, fun j q hj => ?_⟩⟩, fun y hy => ?_⟩
    · obtain ⟨hjl, rfl⟩ := List.getElem?_eq_some_iff.1 hj
      obtain ⟨⟨h0, h1⟩, _⟩ := hq j hjl
      refine ⟨_, rfl, k55_mk w L[j], fun i u hu => ?_⟩
      match i, hu with
      | 0, hu => injection hu with hu; subst hu; exact h0
      | 1, hu => injection hu with hu; subst hu; exact h1
    · obtain ⟨i, hil, rfl⟩ := List.getElem_of_mem hy
      exact (hq i hil).2
end
end Go.Proofs.Ytbnjdlafnejanaa.Pr
namespace Go.Proofs.Ytbnjdlafnejanaa.Pr
open Go.ChangeShapes Go.WideShapes Go.Deep
open Go.RowKit Go.Proofs.YtbnjdlafnejanaaW.PrintWords Go.Proofs.YtbnjdlafnejanaaW.PrintLast Go.Proofs.YtbnjdlafnejanaaW.PrintMore
theorem u32_bd {n : Int} (h : (Lit.int .u32 n).wf = true) : 0 ≤ n ∧ n ≤ 4294967295 := (Lit.wf_int_iff .u32 n).1 h
section
end
end Go.Proofs.Ytbnjdlafnejanaa.Pr
