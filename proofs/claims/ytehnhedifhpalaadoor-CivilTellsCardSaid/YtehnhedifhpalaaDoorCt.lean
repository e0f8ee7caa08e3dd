/- What Text of civil returns, and that the machine's call does so. -/
import Derived.Test.YtehnhedifhpalaaDoorCp1
import Derived.Test.YtehnhedifhpalaaDoorCw
import Derived.Lib.SlBytesConst
namespace Go.Proofs.YtehnhedifhpalaaDoor.Cp
open Go.RowKit Go.Proofs.YtehnhedifhpalaaDoorW.PrintWords Go.Proofs.YtehnhedifhpalaaDoorW.PrintLast Go.Proofs.YtehnhedifhpalaaDoorW.PrintMore
attribute [local go_sem] max2_int min2_int max_two min_two max_three min_three max_four min_four
set_option linter.unusedVariables false
set_option linter.unusedSimpArgs false

/-- A text out of its bytes. -/
def txt (l : List Int) : ByteArray := ⟨(l.map fun b => UInt8.ofNat b.toNat).toArray⟩

def civil_Text.f (k : Nat) (a0 : Int) : Option (ByteArray × Int) :=
  (civil_Date.f k a0).bind fun r => if r.2.2.2 = 0 then (if (0 ≤ r.1 ∧ r.1 ≤ 1000000) ∧ (0 ≤ r.2.1 ∧ r.2.1 ≤ 1000000) ∧ 0 ≤ r.2.2.1 ∧ r.2.2.1 ≤ 1000000 then some (txt (Cv.dtext r.1 r.2.1 r.2.2.1), 0) else none) else some (txt [], r.2.2.2)

theorem civil_Text.mono : ∀ a0 k, LeO (civil_Text.f k a0) (civil_Text.f (k + 1) a0) := by
  intro a0 k
  unfold civil_Text.f
  exact LeO.bind (civil_Date.mono _ _) (fun _ => LeO.refl _)

theorem nums_at (us : List Int) (i : Nat) (h : i < us.length) : (nums .u8 us).toArray[i]? = some (.int .u8 (us.getD i 0)) := by simp [nums, List.getElem?_eq_getElem h, List.getD_eq_getElem?_getD]

theorem below_keep {w W W' : World} {g : Nat} (hb : Below w.heap.size w W) (hk : KeepBut W W' g none ∧ W'.os = W.os ∧ W'.tape = W.tape ∧ W'.output = W.output) (hg : w.heap.size ≤ g) : Below w.heap.size w W' :=
  ⟨hk.2.1.trans hb.os, hk.2.2.1.trans hb.tape, hk.2.2.2.trans hb.output, Nat.le_trans hb.size hk.1.1, fun i hi => (hk.1.2 i (Nat.lt_of_lt_of_le hi hb.size) (Nat.ne_of_lt (Nat.lt_of_lt_of_le hi hg)) (by simp)).trans (hb.block i hi)⟩

theorem conv_zeros (w : World) : (convert 27 27 (.slice (some ⟨w.heap.size, 0, none⟩) 10 10)).run Tryd.prog (w.alloc (.cells #[.int .u8 48, .int .u8 48, .int .u8 48, .int .u8 48, .int .u8 45, .int .u8 48, .int .u8 48, .int .u8 45, .int .u8 48, .int .u8 48] 5)) = .ok (.slice (some ⟨w.heap.size, 0, none⟩) 10 10) (w.alloc (.cells #[.int .u8 48, .int .u8 48, .int .u8 48, .int .u8 48, .int .u8 45, .int .u8 48, .int .u8 48, .int .u8 45, .int .u8 48, .int .u8 48] 5 (10, 11))) :=
  Lib.run_convert_bytes_const w 27 5 _ 10 10 Tryd.underlying27 Tryd.underlying5

theorem zeros_new (w : World) : (w.alloc (.cells #[.int .u8 48, .int .u8 48, .int .u8 48, .int .u8 48, .int .u8 45, .int .u8 48, .int .u8 48, .int .u8 45, .int .u8 48, .int .u8 48] 5 (10, 11))).heap[w.heap.size]? = some (.cells (nums .u8 [48, 48, 48, 48, 45, 48, 48, 45, 48, 48]).toArray 5 (10, 11)) := blk_new _ _

set_option maxHeartbeats 600000 in
set_option maxRecDepth 100000 in
theorem civil_Text.calls (k : Nat) (a0 : Int) (r1 : ByteArray) (r2 : Int) (w : World) (hg : Aside0 (Tab w)) (h : civil_Text.f k a0 = some (r1, r2)) :
    Calls Tryd.prog 21 #[.int .i64 a0] w fun e w' => e = .returned (.tuple #[.string r1, .int .i64 r2]) ∧ Below w.heap.size w w' := by
  unfold civil_Text.f at h
  obtain ⟨⟨y, m, d, e⟩, hd, h⟩ := Option.bind_eq_some_iff.mp h
  simp only at h
  have HD := Aside0.mk hd
  clear hd
  by_cases c : e = 0
  · subst c
    rw [if_pos rfl] at h
    by_cases hb : (0 ≤ y ∧ y ≤ 1000000) ∧ (0 ≤ m ∧ m ≤ 1000000) ∧ 0 ≤ d ∧ d ≤ 1000000
    · rw [if_pos hb] at h
      obtain ⟨rfl, rfl⟩ : txt (Cv.dtext y m d) = r1 ∧ 0 = r2 := by simpa using h
      clear h
      obtain ⟨p, q, r, s, ey⟩ : ∃ p q r s, Cv.dig 4 y = [p, q, r, s] := ⟨_, _, _, _, rfl⟩
      obtain ⟨t, u, em⟩ : ∃ t u, Cv.dig 2 m = [t, u] := ⟨_, _, rfl⟩
      obtain ⟨v, z, ed⟩ : ∃ v z, Cv.dig 2 d = [v, z] := ⟨_, _, rfl⟩
      have et : Cv.dtext y m d = [p, q, r, s, 45, t, u, 45, v, z] := by simp [Cv.dtext, ey, em, ed]
      have hp1 := fun (g : Nat) (w : World) (h : w.heap[g]? = some (.cells (nums .u8 [48, 48, 48, 48, 45, 48, 48, 45, 48, 48]).toArray 5 (10, 11))) => Cq.put_any g 0 4 10 y _ 10 11 w (by decide) h (by decide) (by decide) hb.1
      have hp2 := fun (g : Nat) (w : World) (h : w.heap[g]? = some (.cells (nums .u8 [p, q, r, s, 45, 48, 48, 45, 48, 48]).toArray 5 (10, 11))) => Cq.put_any g 5 2 5 m _ 10 11 w (by decide) h (by simp) (by decide) hb.2.1
      have hp3 := fun (g : Nat) (w : World) (h : w.heap[g]? = some (.cells (nums .u8 [p, q, r, s, 45, t, u, 45, 48, 48]).toArray 5 (10, 11))) => Cq.put_any g 8 2 2 d _ 10 11 w (by decide) h (by simp) (by decide) hb.2.2
      rw [ey] at hp1
      rw [em] at hp2
      rw [ed] at hp3
      rw [et]
      clear ey em ed et hb
      go_enter Tryd.func21, Tryd.ntmps21
      go_wp2_with (first | (go_at_call 19; (with_reducible refine (civil_Date.calls k a0 y m d 0 _ ?tabG HD.out).mono ?_); (case tabG => exact hg); rintro e w1 ⟨rfl, hb⟩; have HB := Aside0.mk hb; have hcz := conv_zeros w1; clear hb) | (go_at_call 56; (with_reducible refine (hp1 w1.heap.size _ (zeros_new w1)).mono ?_); rintro e w3 ⟨rfl, B1, K1⟩; have B1 := Aside0.mk B1; have K1 := Aside0.mk K1) | (go_at_call 56; (with_reducible refine (hp2 w1.heap.size _ B1.out).mono ?_); rintro e w4 ⟨rfl, B2, K2⟩; have B2 := Aside0.mk B2; have K2 := Aside0.mk K2) | (go_at_call 56; (with_reducible refine (hp3 w1.heap.size _ B2.out).mono ?_); rintro e w5 ⟨rfl, B3, K3⟩; have hcv := run_convert_bytes_arg (P := Tryd.prog) w5 27 5 Tryd.underlying27 Tryd.underlying5 w1.heap.size 0 10 10 [p, q, r, s, 45, t, u, 45, v, z] rfl (fun i hi => (cell_of_row _ _ (0 + i) _ 5 (10, 11) B3).trans (by rw [Nat.zero_add]; exact nums_at _ i hi)) 9 Tryd.underlying9; have K3 := Aside0.mk K3; clear B3))
      go_ret2
      exact ⟨rfl, below_keep (below_keep (below_keep (below_alloc HB.out _) K1.out (below_size HB.out)) K2.out (below_size HB.out)) K3.out (below_size HB.out)⟩
    · rw [if_neg hb] at h; exact absurd h (by simp)
  · rw [if_neg c] at h
    obtain ⟨rfl, rfl⟩ : txt [] = r1 ∧ e = r2 := by simpa using h
    clear h
    have c0 : (e == 0) = false := beq_eq_false_iff_ne.mpr c
    have c1 : (e != 0) = true := bne_iff_ne.mpr c
    clear c
    go_enter Tryd.func21, Tryd.ntmps21
    go_wp2_with (first | (go_at_call 19; (with_reducible refine (civil_Date.calls k a0 y m d e _ ?tabG HD.out).mono ?_); (case tabG => exact hg); rintro e w1 ⟨rfl, hb⟩; have HB := Aside0.mk hb; clear hb))
    go_ret2
    exact ⟨rfl, HB.out⟩

end Go.Proofs.YtehnhedifhpalaaDoor.Cp
