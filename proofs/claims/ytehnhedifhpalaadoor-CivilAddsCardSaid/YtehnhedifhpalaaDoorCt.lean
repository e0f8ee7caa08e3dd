/- put of civil over a part of a block of bytes: the walk. What Text of civil returns, and that the machine's call does so. -/
import Derived.Test.YtehnhedifhpalaaDoorCf
import Derived.Test.YtehnhedifhpalaaDoorCv
import Derived.Test.YtehnhedifhpalaaDoorCp1
import Derived.Lib.SlBytesConst
set_option linter.unusedVariables false
set_option linter.unusedSimpArgs false
namespace Go.Proofs.YtehnhedifhpalaaDoor.Cq
open Go.Proofs.YtehnhedifhpalaaDoor.Cp
open Go.RowKit Go.Proofs.YtehnhedifhpalaaDoorW.PrintWords Go.Proofs.YtehnhedifhpalaaDoorW.PrintLast Go.Proofs.YtehnhedifhpalaaDoorW.PrintMore
attribute [local go_sem] max2_int min2_int max_two min_two max_three min_three max_four min_four

theorem set_mid {α : Type} {x v : α} : ∀ {P Q : List α} {i : Nat}, P.length = i → (P ++ x :: Q).set i v = P ++ v :: Q := by
  intro P
  induction P with
  | nil => intro Q i h; subst h; rfl
  | cons y P ih => intro Q i h; subst h; simp [ih rfl]

theorem setG {w : World} {g : Nat} {t : TypeId} {f : Nat × Nat} {cs : Array Value} (h : w.heap[g]? = some (.cells cs t f)) (i : Nat) (u : Value) : (w.setCell ⟨g, i, none⟩ u).heap[g]? = some (.cells (cs.setIfInBounds i u) t f) := by
  simp [World.setCell, Array.getElem?_modify, h]
theorem frozenG {w : World} {g : Nat} {t : TypeId} {n m : Nat} {cs : Array Value} (h : w.heap[g]? = some (.cells cs t (n, m))) (i : Nat) (hi : i < n) : w.frozen? ⟨g, i, none⟩ = false := by
  simp [World.frozen?, h]; omega

/-- What is written when the digits from place i on are. -/
structure PutAt (vs : List Int) (off n : Nat) (x : Int) (m : Nat) (y : Int) (us : List Int) : Prop where
  le : m ≤ n
  pos : 0 ≤ y ∧ y ≤ 1000000
  is : ∃ suf, Cv.dig n x = Cv.dig m y ++ suf ∧ us = vs.take (off + m) ++ (suf ++ vs.drop (off + n))

theorem PutAt.start {vs : List Int} {off n : Nat} {x : Int} (hx : 0 ≤ x ∧ x ≤ 1000000) : PutAt vs off n x n x vs :=
  ⟨Nat.le_refl _, hx, [], by simp, by simp⟩

theorem PutAt.step {vs : List Int} {off n : Nat} {x : Int} {m : Nat} {y : Int} {us : List Int} (h : PutAt vs off n x (m + 1) y us) (hl : off + n ≤ vs.length) : PutAt vs off n x m (y / 10) (us.set (off + m) (48 + y % 10)) := by
  obtain ⟨suf, h1, h2⟩ := h.is
  have hp := h.pos
  have hle := h.le
  refine ⟨by omega, by omega, [48 + y % 10] ++ suf, ?_, ?_⟩
  · rw [h1, Cv.dig, List.append_assoc]
  · have hn : off + m < vs.length := by omega
    rw [h2, show off + (m + 1) = off + m + 1 by omega, List.take_succ_eq_append_getElem hn, List.append_assoc, List.singleton_append, set_mid (by rw [List.length_take]; omega)]
    simp

theorem PutAt.done {vs : List Int} {off n : Nat} {x : Int} {y : Int} {us : List Int} (h : PutAt vs off n x 0 y us) : us = vs.take off ++ (Cv.dig n x ++ vs.drop (off + n)) := by
  obtain ⟨suf, h1, h2⟩ := h.is
  rw [h2, h1]; rfl

theorem PutAt.len {vs : List Int} {off n : Nat} {x : Int} {m : Nat} {y : Int} {us : List Int} (h : PutAt vs off n x m y us) (hl : off + n ≤ vs.length) : us.length = vs.length := by
  obtain ⟨suf, h1, h2⟩ := h.is
  have hle := h.le
  have := congrArg List.length h1
  rw [List.length_append, Cv.dig_len, Cv.dig_len] at this
  rw [h2, List.length_append, List.length_append, List.length_take, List.length_drop]
  omega

def PutPost (g f f2 : Nat) (us : List Int) (w : World) (e : Ending) (w' : World) : Prop :=
  e = .returned (.tuple #[]) ∧ w'.heap[g]? = some (.cells (nums .u8 us).toArray 5 (f, f2)) ∧ KeepBut w w' g none ∧ w'.os = w.os ∧ w'.tape = w.tape ∧ w'.output = w.output

set_option maxHeartbeats 8000000 in
set_option maxRecDepth 100000 in
theorem put_any (g off n c : Nat) (x : Int) (vs : List Int) (f f2 : Nat) (w : World) (hv : off + n ≤ f) (hb : w.heap[g]? = some (.cells (nums .u8 vs).toArray 5 (f, f2))) (h : off + n ≤ vs.length) (hn : n ≤ 100) (hx : 0 ≤ x ∧ x ≤ 1000000) :
    Calls Tryd.prog 56 #[.slice (some ⟨g, off, none⟩) n c, .int .i64 x] w (PutPost g f f2 (vs.take off ++ (Cv.dig n x ++ vs.drop (off + n))) w) := by
  have H := Aside0.mk h
  have HV := Aside0.mk hv
  clear hv
  have HN := Aside0.mk hn
  have BK := Aside0.mk hb
  have PS := Aside0.mk (PutAt.start (vs := vs) (off := off) (n := n) hx)
  clear h hn hb hx
  have EN : wrap64 ((n : Int) - 1) = (n : Int) - 1 := by have := HN.out; unfold wrap64; omega
  go_enter Tryd.func56, Tryd.ntmps56
  go_wp2
  go_loopg [1, 4] n (fun kq v1 v4 wr => ∃ (i y : Int) (us : List Int), v1 = .int .i64 y ∧ v4 = .int .i64 i ∧ Aside0 (-1 ≤ i ∧ (kq : Int) = i + 1) ∧ Aside0 (wr.heap[g]? = some (.cells (nums .u8 us).toArray 5 (f, f2))) ∧ Aside0 (PutAt vs off n x (i + 1).toNat y us) ∧ Aside0 (KeepBut w wr g none ∧ wr.os = w.os ∧ wr.tape = w.tape ∧ wr.output = w.output))
  case atStart => exact ⟨(n : Int) - 1, x, vs, rfl, by first | rfl | simp [EN], ⟨by omega⟩, BK, ⟨by rw [show ((n : Int) - 1 + 1).toNat = n by omega]; exact PS.out⟩, ⟨KeepBut.refl _ _ _, rfl, rfl, rfl⟩⟩
  case round =>
    obtain ⟨i, y, us, rfl, rfl, HI, BU, PU, KB⟩ := hrel
    by_cases c : 0 ≤ i
    · have cb : decide (0 ≤ i) = true := decide_eq_true c
      have p0 := eq_true c
      have C0 := Aside0.mk c
      have hle := PU.out.le
      have hy := PU.out.pos
      have hlen := PU.out.len H.out
      have hnn := HN.out
      have hh := H.out
      have q0 : (i < (n : Int)) = True := eq_true (by omega)
      have hk : off + i.toNat < us.length := by omega
      have ei : (i + 1).toNat = i.toNat + 1 := by omega
      have PU2 := Aside0.mk (PutAt.step (by have := PU.out; rw [ei] at this; exact this) H.out)
      have hcz : _ = some (Value.int .u8 us[off + i.toNat]) := (cell_of_row _ g (off + i.toNat) _ 5 (f, f2) BU.out).trans (by simp [nums, hk])
      have hfz := frozenG BU.out (off + i.toNat) (by have := HV.out; omega)
      generalize us[off + i.toNat] = z at hcz
      have e1 : Int.tmod y 10 = y % 10 := Int.tmod_eq_emod_of_nonneg hy.1
      have e2 : Int.tdiv y 10 = y / 10 := Int.tdiv_eq_ediv_of_nonneg hy.1
      have q1 : -9223372036854775808 ≤ 48 + y % 10 ∧ 48 + y % 10 ≤ 9223372036854775807 := by omega
      have q2 : -9223372036854775808 ≤ y / 10 ∧ y / 10 ≤ 9223372036854775807 := by omega
      have q3 : -9223372036854775808 ≤ i - 1 ∧ i - 1 ≤ 9223372036854775807 := by omega
      have e3 : (48 + y % 10) % 256 = 48 + y % 10 := by omega
      have e4 : (i - 1 + 1).toNat = i.toNat := by omega
      have E4 := Aside0.mk e4
      have w1 := w64 q1.1 q1.2
      have w2 := w64 q2.1 q2.2
      have w3 := w64 q3.1 q3.2
      have BV : ∀ W : World, W.heap[g]? = some (.cells (nums .u8 us).toArray 5 (f, f2)) → (W.setCell ⟨g, off + i.toNat, none⟩ (.int .u8 (48 + y % 10))).heap[g]? = some (.cells (nums .u8 (us.set (off + i.toNat) (48 + y % 10))).toArray 5 (f, f2)) :=
        fun W hW => by have := setG hW (off + i.toNat) (.int .u8 (48 + y % 10)); rw [this]; simp [nums, List.map_set]
      have HBV := Aside0.mk BV
      clear q1 q2 q3 hle hy hlen hnn hh c hk ei e4 BV
      go_wp2
      go_roundg i.toNat
      case measure => have := HI.out; have := C0.out; clear w1 w2 w3; omega
      case rel => exact ⟨i - 1, y / 10, _, by first | rfl | simp [w2], by first | rfl | simp [w3], ⟨by have := HI.out; have := C0.out; clear w1 w2 w3; omega⟩, ⟨HBV.out _ BU.out⟩, ⟨by rw [E4.out]; exact PU2.out⟩, ⟨KeepBut.set_ KB.out.1 _ _, KB.out.2⟩⟩
    · have cb : decide (0 ≤ i) = false := decide_eq_false c
      have ei : (i + 1).toNat = 0 := by have := HI.out; omega
      have PD := Aside0.mk (PutAt.done (by have := PU.out; rw [ei] at this; exact this))
      clear c ei
      go_wp2
      go_end0
      exact ⟨by first | rfl | simp, by rw [← PD.out]; exact BU.out, KB.out⟩

end Go.Proofs.YtehnhedifhpalaaDoor.Cq

namespace Go.Proofs.YtehnhedifhpalaaDoor.Cp
open Go.RowKit Go.Proofs.YtehnhedifhpalaaDoorW.PrintWords Go.Proofs.YtehnhedifhpalaaDoorW.PrintLast Go.Proofs.YtehnhedifhpalaaDoorW.PrintMore
attribute [local go_sem] max2_int min2_int max_two min_two max_three min_three max_four min_four

/-- A text out of its bytes. -/
def txt (l : List Int) : ByteArray := ⟨(l.map fun b => UInt8.ofNat b.toNat).toArray⟩

def civil_Text.f (k : Nat) (a0 : Int) : Option (ByteArray × Int) :=
  (civil_Date.f k a0).bind fun r => if r.2.2.2 = 0 then (if (0 ≤ r.1 ∧ r.1 ≤ 1000000) ∧ (0 ≤ r.2.1 ∧ r.2.1 ≤ 1000000) ∧ 0 ≤ r.2.2.1 ∧ r.2.2.1 ≤ 1000000 then some (txt (Cv.dtext r.1 r.2.1 r.2.2.1), 0) else none) else some (txt [], r.2.2.2)

theorem civil_Text.mono : ∀ a0 k, LeO (civil_Text.f k a0) (civil_Text.f (k + 1) a0) := by
  intro a0 k
  unfold civil_Text.f
  exact LeO.bind (civil_Date.mono _ _) (fun _ => LeO.refl _)

theorem nums_at (us : List Int) (i : Nat) (h : i < us.length) : (nums .u8 us).toArray[i]? = some (.int .u8 (us.getD i 0)) := by simp [nums, List.getElem?_eq_getElem h, List.getD_eq_getElem?_getD]

theorem below_keep {w W W' : World} {g : Nat} (hb : Below w.heap.size w W) (hk : KeepBut W W' g none ∧ W'.os = W.os ∧ W'.tape = W.tape ∧ W'.output = W.output) (hg : w.heap.size ≤ g) : Below w.heap.size w W' :=
  ⟨hk.2.1.trans hb.os, hk.2.2.1.trans hb.tape, hk.2.2.2.trans hb.output, Nat.le_trans hb.size hk.1.1, fun i hi => (hk.1.2 i (Nat.lt_of_lt_of_le hi hb.size) (Nat.ne_of_lt (Nat.lt_of_lt_of_le hi hg)) (by simp)).trans (hb.block i hi)⟩

theorem conv_zeros (w : World) : (convert 27 27 (.slice (some ⟨w.heap.size, 0, none⟩) 10 10)).run Tryd.prog (w.alloc (.cells #[.int .u8 48, .int .u8 48, .int .u8 48, .int .u8 48, .int .u8 45, .int .u8 48, .int .u8 48, .int .u8 45, .int .u8 48, .int .u8 48] 5)) = .ok (.slice (some ⟨w.heap.size, 0, none⟩) 10 10) (w.alloc (.cells #[.int .u8 48, .int .u8 48, .int .u8 48, .int .u8 48, .int .u8 45, .int .u8 48, .int .u8 48, .int .u8 45, .int .u8 48, .int .u8 48] 5 (10, 11))) :=
  Lib.run_convert_bytes_const w 27 5 _ 10 10 Tryd.underlying27 Tryd.underlying5

theorem zeros_new (w : World) : (w.alloc (.cells #[.int .u8 48, .int .u8 48, .int .u8 48, .int .u8 48, .int .u8 45, .int .u8 48, .int .u8 48, .int .u8 45, .int .u8 48, .int .u8 48] 5 (10, 11))).heap[w.heap.size]? = some (.cells (nums .u8 [48, 48, 48, 48, 45, 48, 48, 45, 48, 48]).toArray 5 (10, 11)) := blk_new _ _

set_option maxHeartbeats 600000 in
set_option maxRecDepth 100000 in
theorem civil_Text.calls (k : Nat) (a0 : Int) (r1 : ByteArray) (r2 : Int) (w : World) (hg : Aside0 (Tab w)) (h : civil_Text.f k a0 = some (r1, r2)) :
    Calls Tryd.prog 21 #[.int .i64 a0] w fun e w' => e = .returned (.tuple #[.string r1, .int .i64 r2]) ∧ Below w.heap.size w w' := by
  unfold civil_Text.f at h
  obtain ⟨⟨y, m, d, e⟩, hd, h⟩ := Option.bind_eq_some_iff.mp h
  simp only at h
  have HD := Aside0.mk hd
  clear hd
  by_cases c : e = 0
  · subst c
    rw [if_pos rfl] at h
    by_cases hb : (0 ≤ y ∧ y ≤ 1000000) ∧ (0 ≤ m ∧ m ≤ 1000000) ∧ 0 ≤ d ∧ d ≤ 1000000
    · rw [if_pos hb] at h
      obtain ⟨rfl, rfl⟩ : txt (Cv.dtext y m d) = r1 ∧ 0 = r2 := by simpa using h
      clear h
      obtain ⟨p, q, r, s, ey⟩ : ∃ p q r s, Cv.dig 4 y = [p, q, r, s] := ⟨_, _, _, _, rfl⟩
      obtain ⟨t, u, em⟩ : ∃ t u, Cv.dig 2 m = [t, u] := ⟨_, _, rfl⟩
      obtain ⟨v, z, ed⟩ : ∃ v z, Cv.dig 2 d = [v, z] := ⟨_, _, rfl⟩
      have et : Cv.dtext y m d = [p, q, r, s, 45, t, u, 45, v, z] := by simp [Cv.dtext, ey, em, ed]
      have hp1 := fun (g : Nat) (w : World) (h : w.heap[g]? = some (.cells (nums .u8 [48, 48, 48, 48, 45, 48, 48, 45, 48, 48]).toArray 5 (10, 11))) => Cq.put_any g 0 4 10 y _ 10 11 w (by decide) h (by decide) (by decide) hb.1
      have hp2 := fun (g : Nat) (w : World) (h : w.heap[g]? = some (.cells (nums .u8 [p, q, r, s, 45, 48, 48, 45, 48, 48]).toArray 5 (10, 11))) => Cq.put_any g 5 2 5 m _ 10 11 w (by decide) h (by simp) (by decide) hb.2.1
      have hp3 := fun (g : Nat) (w : World) (h : w.heap[g]? = some (.cells (nums .u8 [p, q, r, s, 45, t, u, 45, 48, 48]).toArray 5 (10, 11))) => Cq.put_any g 8 2 2 d _ 10 11 w (by decide) h (by simp) (by decide) hb.2.2
      rw [ey] at hp1
      rw [em] at hp2
      rw [ed] at hp3
      rw [et]
      clear ey em ed et hb
      go_enter Tryd.func21, Tryd.ntmps21
      go_wp2_with (first | (go_at_call 19; (with_reducible refine (civil_Date.calls k a0 y m d 0 _ ?tabG HD.out).mono ?_); (case tabG => exact hg); rintro e w1 ⟨rfl, hb⟩; have HB := Aside0.mk hb; have hcz := conv_zeros w1; clear hb) | (go_at_call 56; (with_reducible refine (hp1 w1.heap.size _ (zeros_new w1)).mono ?_); rintro e w3 ⟨rfl, B1, K1⟩; have B1 := Aside0.mk B1; have K1 := Aside0.mk K1) | (go_at_call 56; (with_reducible refine (hp2 w1.heap.size _ B1.out).mono ?_); rintro e w4 ⟨rfl, B2, K2⟩; have B2 := Aside0.mk B2; have K2 := Aside0.mk K2) | (go_at_call 56; (with_reducible refine (hp3 w1.heap.size _ B2.out).mono ?_); rintro e w5 ⟨rfl, B3, K3⟩; have hcv := run_convert_bytes_arg (P := Tryd.prog) w5 27 5 Tryd.underlying27 Tryd.underlying5 w1.heap.size 0 10 10 [p, q, r, s, 45, t, u, 45, v, z] rfl (fun i hi => (cell_of_row _ _ (0 + i) _ 5 (10, 11) B3).trans (by rw [Nat.zero_add]; exact nums_at _ i hi)) 9 Tryd.underlying9; have K3 := Aside0.mk K3; clear B3))
      go_ret2
      exact ⟨rfl, below_keep (below_keep (below_keep (below_alloc HB.out _) K1.out (below_size HB.out)) K2.out (below_size HB.out)) K3.out (below_size HB.out)⟩
    · rw [if_neg hb] at h; exact absurd h (by simp)
  · rw [if_neg c] at h
    obtain ⟨rfl, rfl⟩ : txt [] = r1 ∧ e = r2 := by simpa using h
    clear h
    have c0 : (e == 0) = false := beq_eq_false_iff_ne.mpr c
    have c1 : (e != 0) = true := bne_iff_ne.mpr c
    clear c
    go_enter Tryd.func21, Tryd.ntmps21
    go_wp2_with (first | (go_at_call 19; (with_reducible refine (civil_Date.calls k a0 y m d e _ ?tabG HD.out).mono ?_); (case tabG => exact hg); rintro e w1 ⟨rfl, hb⟩; have HB := Aside0.mk hb; clear hb))
    go_ret2
    exact ⟨rfl, HB.out⟩

end Go.Proofs.YtehnhedifhpalaaDoor.Cp
