/- Joined by a program of this session (pack2.py): parts of the kit's printed words, printed walks and this session's own texts that several laws share. -/
import Derived.Test.YtbnjdlafnejanaaBa
import Derived.Test.YtbnjdlafnejanaaBb
import Derived.Test.YtbnjdlafnejanaaBc
namespace Go.Proofs.Ytbnjdlafnejanaa.Pr
open Go.RowKit Go.Proofs.YtbnjdlafnejanaaW.PrintWords Go.Proofs.YtbnjdlafnejanaaW.PrintLast Go.Proofs.YtbnjdlafnejanaaW.PrintMore
attribute [local go_sem] max2_int min2_int
/-- Whether a job goes before another one. -/
def bfB (a0 a2 b0 b2 : Int) : Bool := decide (a2 < b2 ∨ a2 = b2 ∧ a0 < b0)
def BoolBelow (b : Bool) (w : World) (e : Ending) (w' : World) : Prop := e = .returned (.bool b) ∧ Below w.heap.size w w'
set_option maxHeartbeats 1000000 in
set_option maxRecDepth 100000 in
theorem before_any (a0 a1 a2 a3 b0 b1 b2 b3 : Int) (w : World) :
    Calls Try.prog 25 #[.agg #[.int .i64 a0, .int .i64 a1, .int .i64 a2, .int .i64 a3], .agg #[.int .i64 b0, .int .i64 b1, .int .i64 b2, .int .i64 b3]] w (BoolBelow (bfB a0 a2 b0 b2) w) := by
  have hu45 := Try.underlying45
  by_cases c1 : a2 < b2
  · have e : bfB a0 a2 b0 b2 = true := by unfold bfB; simp [c1]
    rw [e]
    have d1 : decide (a2 < b2) = true := decide_eq_true c1
    clear c1 e
    go_enter Try.func25, Try.ntmps25
    go_wp2
    go_ret
    exact ⟨rfl, by repeat (first | exact Below.refl _ _ | apply below_alloc)⟩
  · have d1 : decide (a2 < b2) = false := decide_eq_false c1
    by_cases c2 : a2 = b2
    · have e : bfB a0 a2 b0 b2 = decide (a0 < b0) := by unfold bfB; simp [c2]
      rw [e]
      have d2 : (a2 == b2) = true := beq_iff_eq.mpr c2
      clear c1 c2 e
      go_enter Try.func25, Try.ntmps25
      go_wp2
      go_ret
      exact ⟨rfl, by repeat (first | exact Below.refl _ _ | apply below_alloc)⟩
    · have e : bfB a0 a2 b0 b2 = false := by unfold bfB; simp [c1, c2]
      rw [e]
      have d2 : (a2 == b2) = false := beq_eq_false_iff_ne.mpr c2
      clear c1 c2 e
      go_enter Try.func25, Try.ntmps25
      go_wp2
      go_ret
      exact ⟨rfl, by repeat (first | exact Below.refl _ _ | apply below_alloc)⟩
/-- What the closure leaves behind. -/
def RunsPost (J : List Sh.Job) (left : List Int) (t te : Int) (w : World) (e : Ending) (w' : World) : Prop :=
  ∃ b n : Int, e = .returned (.tuple #[.int .i64 b, .int .i64 n]) ∧ Sh.Told J left t te b n ∧ Below w.heap.size w w'
theorem getJ {l0 : List (S45)} {x : Int} (h0 : 0 ≤ x) (h : x < (l0.length : Int)) : ∃ hk : x.toNat < (l0.map toJ).length, (l0.map toJ)[x.toNat] = toJ (rd_T45 l0 x) := by
  have hn : x.toNat < l0.length := by omega
  exact ⟨by simpa using hn, by simp [rd_T45, hn]⟩
theorem getI {l : List Int} {x : Int} (h0 : 0 ≤ x) (h : x < (l.length : Int)) : ∃ hk : x.toNat < l.length, l[x.toNat] = rd l x := by
  have hn : x.toNat < l.length := by omega
  exact ⟨hn, by simp [rd, hn]⟩
theorem R_later {l0 : List (S45)} {left : List Int} {t te x b n : Int} (h : Sh.RAt (l0.map toJ) left t te x.toNat b n) (h0 : 0 ≤ x) (hlt : x < (l0.length : Int)) (hr : t < (rd_T45 l0 x).f1) :
    Sh.RAt (l0.map toJ) left t te (x + 1).toNat b (if (rd_T45 l0 x).f1 < n then (rd_T45 l0 x).f1 else n) := by
  obtain ⟨hk, e⟩ := getJ h0 hlt
  have := h.later hk (by rw [e]; exact hr)
  rw [e] at this
  rw [show (x + 1).toNat = x.toNat + 1 by omega]
  have e2 : min n (toJ (rd_T45 l0 x)).rel = if (rd_T45 l0 x).f1 < n then (rd_T45 l0 x).f1 else n := by
    show min n (rd_T45 l0 x).f1 = _
    split <;> omega
  rw [← e2]; exact this
theorem R_same {l0 : List (S45)} {left : List Int} {t te x b n : Int} (h : Sh.RAt (l0.map toJ) left t te x.toNat b n) (h0 : 0 ≤ x) (hlt : x < (l0.length : Int)) (hll : left.length = l0.length) (hJ : Sh.VJ (l0.map toJ)) (hr : (rd_T45 l0 x).f1 ≤ t)
    (hn : rd left x ≤ 0 ∨ 0 ≤ b ∧ bfB (rd_T45 l0 x).f0 (rd_T45 l0 x).f2 (rd_T45 l0 b).f0 (rd_T45 l0 b).f2 = false) : Sh.RAt (l0.map toJ) left t te (x + 1).toNat b n := by
  obtain ⟨hk, e⟩ := getJ h0 hlt
  obtain ⟨hkl, el⟩ := getI (l := left) h0 (by omega)
  rw [show (x + 1).toNat = x.toNat + 1 by omega]
  refine h.same hk hkl (by rw [e]; exact hr) ?_
  rcases hn with h1 | ⟨h1, h2⟩
  · left; rw [el]; exact h1
  · right
    have hb := h.bd
    simp only [List.length_map] at hb
    obtain ⟨hi, ei⟩ := getJ (l0 := l0) h1 (by omega)
    refine ⟨b.toNat, by omega, hi, ?_⟩
    rw [e, ei]
    have hd := of_decide_eq_false h2
    have hne : (toJ (rd_T45 l0 b)).id ≠ (toJ (rd_T45 l0 x)).id := by
      have := List.pairwise_iff_getElem.1 hJ.nod b.toNat x.toNat hi hk (by omega)
      rw [ei, e] at this
      exact this
    exact Sh.bf_total (fun h => hne h.symm) hd
theorem R_best {l0 : List (S45)} {left : List Int} {t te x b n : Int} (h : Sh.RAt (l0.map toJ) left t te x.toNat b n) (h0 : 0 ≤ x) (hlt : x < (l0.length : Int)) (hll : left.length = l0.length) (hr : (rd_T45 l0 x).f1 ≤ t) (hl : 0 < rd left x)
    (hn : b < 0 ∨ bfB (rd_T45 l0 x).f0 (rd_T45 l0 x).f2 (rd_T45 l0 b).f0 (rd_T45 l0 b).f2 = true) : Sh.RAt (l0.map toJ) left t te (x + 1).toNat x n := by
  obtain ⟨hk, e⟩ := getJ h0 hlt
  obtain ⟨hkl, el⟩ := getI (l := left) h0 (by omega)
  have := h.best hk hkl (by rw [e]; exact hr) (by rw [el]; exact hl) (by
    by_cases hb0 : b < 0
    · exact .inl hb0
    · right
      have hb := h.bd
      simp only [List.length_map] at hb
      obtain ⟨hi, ei⟩ := getJ (l0 := l0) (x := b) (by omega) (by omega)
      refine ⟨b.toNat, by omega, hi, ?_⟩
      rw [e, ei]
      rcases hn with h1 | h1
      · omega
      · exact of_decide_eq_true h1)
  rw [show (x + 1).toNat = x.toNat + 1 by omega]
  rw [show ((x.toNat : Nat) : Int) = x by omega] at this
  exact this
set_option maxHeartbeats 8000000 in
set_option maxRecDepth 100000 in
theorem runs_any (t te : Int) (g2 g8 : Nat) (A0 : Option Addr) (c0 : Nat) (l0 : List (S45)) (AL : Option Addr) (cL : Nat) (left : List Int) (w : World)
    (hc2 : w.cell? ⟨g2, 0, none⟩ = some (.slice A0 l0.length c0)) (hc8 : w.cell? ⟨g8, 0, none⟩ = some (.slice AL left.length cL))
    (hr0 : Kd.C k45 w A0 l0.length l0) (hrl : Kd.C (Kd.int .i64) w AL left.length left) (hll : left.length = l0.length) (hJ : Sh.VJ (l0.map toJ)) :
    Calls Try.prog 24 #[.int .i64 t, .int .i64 te, .pointer (some ⟨g2, 0, none⟩), .pointer (some ⟨g8, 0, none⟩)] w (RunsPost (l0.map toJ) left t te w) := by
  have hu45 := Try.underlying45
  have HLEN := Aside0.mk hr0.2.1
  have HR0 := Aside0.mk hr0
  have HRL := Aside0.mk hrl
  have HLL := Aside0.mk hll
  have HJ := Aside0.mk hJ
  clear hr0 hrl hll hJ
  go_enter Try.func24, Try.ntmps24
  go_wp2
  go_loopg [8, 9, 15] l0.length (fun kq v8 v9 v15 wr => ∃ x b n : Int, v15 = .int .i64 x ∧ v8 = .int .i64 b ∧ v9 = .int .i64 n ∧ Aside0 ((kq : Int) + x = l0.length ∧ 0 ≤ x) ∧ Aside0 (Sh.RAt (l0.map toJ) left t te x.toNat b n) ∧ Aside0 (Below w.heap.size w wr))
  case atStart => exact ⟨0, -1, te, rfl, rfl, rfl, ⟨by simp⟩, ⟨Sh.RAt.start _ _ _ _⟩, ⟨Below.refl _ _⟩⟩
  case round =>
    obtain ⟨x, b, n, rfl, rfl, rfl, HK, HI, HB⟩ := hrel
    by_cases hlt : x < (l0.length : Int)
    · have c0b : decide (x < (l0.length : Int)) = true := decide_eq_true hlt
      have h0 : 0 ≤ x := HK.out.2
      have HL := Aside0.mk hlt
      obtain ⟨ad, ea, hx0, hx1, hx2, hx3⟩ := at_T45 HR0.out x h0 hlt
      have q0 := eq_true hlt
      cases ea
      replace hx0 := (HB.out.cell (World.block_lt_of_cell? w _ hx0)).trans hx0
      replace hx1 := (HB.out.cell (World.block_lt_of_cell? w _ hx1)).trans hx1
      replace hx2 := (HB.out.cell (World.block_lt_of_cell? w _ hx2)).trans hx2
      replace hx3 := (HB.out.cell (World.block_lt_of_cell? w _ hx3)).trans hx3
      have hd2 := (HB.out.cell (World.block_lt_of_cell? w _ hc2)).trans hc2
      have hd8 := (HB.out.cell (World.block_lt_of_cell? w _ hc8)).trans hc8
      have HC2 := Aside0.mk hc2
      have HC8 := Aside0.mk hc8
      clear hc2 hc8
      have hltl : x < (left.length : Int) := by rw [HLL.out]; exact hlt
      have ql := eq_true hltl
      obtain ⟨al, el, hl0⟩ := Kd.at_int HRL.out x h0 hltl
      cases el
      replace hl0 := (HB.out.cell (World.block_lt_of_cell? w _ hl0)).trans hl0
      have H0 := Aside0.mk h0
      have EW : Aside0 (wrap64 (x + 1) = x + 1) := ⟨by have := HLEN.out; unfold wrap64; omega⟩
      clear hlt hltl
      replace h0 := eq_true h0
      by_cases c1 : t < (rd_T45 l0 x).f1
      · have d1 : decide (t < (rd_T45 l0 x).f1) = true := decide_eq_true c1
        have HG := Aside0.mk (R_later HI.out H0.out HL.out c1)
        have HB2 := Aside0.mk (below_alloc HB.out (.cells #[.int .i64 (rd_T45 l0 x).f0, .int .i64 (rd_T45 l0 x).f1, .int .i64 (rd_T45 l0 x).f2, .int .i64 (rd_T45 l0 x).f3] 45 (0, 0)))
        by_cases c4 : (rd_T45 l0 x).f1 < n
        all_goals
          clear c1
          first | rw [if_pos c4] at HG | rw [if_neg c4] at HG
          go_wp2
          go_roundg (l0.length - (x + 1).toNat)
          case measure => have := HK.out; have := HL.out; omega
          case rel => exact ⟨wrap64 (x + 1), _, _, rfl, rfl, rfl, by rw [EW.out]; exact ⟨by have := HK.out; have := HL.out; have := H0.out; omega, by have := H0.out; omega⟩, by rw [EW.out]; exact HG, ⟨by repeat (first | exact HB2.out | apply pw_below_drewN | apply below_alloc)⟩⟩
      · have d1 : decide (t < (rd_T45 l0 x).f1) = false := decide_eq_false c1
        have C1 : Aside0 ((rd_T45 l0 x).f1 ≤ t) := ⟨by omega⟩
        clear c1
        go_wp2
        have hbx : Below wr.heap.size wr (wr.alloc (.cells #[.int .i64 (rd_T45 l0 x).f0, .int .i64 (rd_T45 l0 x).f1, .int .i64 (rd_T45 l0 x).f2, .int .i64 (rd_T45 l0 x).f3] 45 (0, 0))) := below_alloc (Below.refl _ _) _
        have hb0 := blk_new wr (.cells #[.int .i64 (rd_T45 l0 x).f0, .int .i64 (rd_T45 l0 x).f1, .int .i64 (rd_T45 l0 x).f2, .int .i64 (rd_T45 l0 x).f3] 45 (0, 0))
        replace hd2 := pw_cell_below hbx hd2
        replace hd8 := pw_cell_below hbx hd8
        replace hl0 := pw_cell_below hbx hl0
        have HB2 := Aside0.mk (below_step HB.out hbx)
        clear hbx hx0 hx1 hx2 hx3 HB
        generalize hg11 : wr.heap.size = g11 at hb0 ⊢
        generalize hw10 : (wr.alloc (.cells #[.int .i64 (rd_T45 l0 x).f0, .int .i64 (rd_T45 l0 x).f1, .int .i64 (rd_T45 l0 x).f2, .int .i64 (rd_T45 l0 x).f3] 45 (0, 0))) = w10 at hb0 hd2 hd8 hl0 HB2 ⊢
        have hx0 : w10.cell? ⟨g11, 0, none⟩ = some (.int .i64 (rd_T45 l0 x).f0) := (blk_cell hb0 0).trans rfl
        have hx1 : w10.cell? ⟨g11, 1, none⟩ = some (.int .i64 (rd_T45 l0 x).f1) := (blk_cell hb0 1).trans rfl
        have hx2 : w10.cell? ⟨g11, 2, none⟩ = some (.int .i64 (rd_T45 l0 x).f2) := (blk_cell hb0 2).trans rfl
        have hx3 : w10.cell? ⟨g11, 3, none⟩ = some (.int .i64 (rd_T45 l0 x).f3) := (blk_cell hb0 3).trans rfl
        have HB0 := Aside0.mk hb0
        clear hb0 hg11 hw10
        by_cases c2 : 0 < rd left x
        · have d2 : decide (0 < rd left x) = true := decide_eq_true c2
          have C2 := Aside0.mk c2
          clear c2
          by_cases c3 : b < 0
          · have d3 : decide (b < 0) = true := decide_eq_true c3
            have HG := Aside0.mk (R_best HI.out H0.out HL.out HLL.out C1.out C2.out (.inl c3))
            clear c3
            go_quiet (fail)
            go_wp2
            go_roundg (l0.length - (x + 1).toNat)
            case measure => have := HK.out; have := HL.out; omega
            case rel => exact ⟨wrap64 (x + 1), _, _, rfl, rfl, rfl, by rw [EW.out]; exact ⟨by have := HK.out; have := HL.out; have := H0.out; omega, by have := H0.out; omega⟩, by rw [EW.out]; exact HG, ⟨by repeat (first | exact HB2.out | apply pw_below_drewN | apply below_alloc)⟩⟩
          · have d3 : decide (b < 0) = false := decide_eq_false c3
            have hbd := HI.out.bd
            simp only [List.length_map] at hbd
            have hb0 : 0 ≤ b := by omega
            have hbl : b < (l0.length : Int) := by omega
            have HBD : Aside0 (0 ≤ b) := ⟨hb0⟩
            obtain ⟨ab, eb, hy0, hy1, hy2, hy3⟩ := at_T45 HR0.out b hb0 hbl
            cases eb
            replace hy0 := (HB2.out.cell (World.block_lt_of_cell? w _ hy0)).trans hy0
            replace hy1 := (HB2.out.cell (World.block_lt_of_cell? w _ hy1)).trans hy1
            replace hy2 := (HB2.out.cell (World.block_lt_of_cell? w _ hy2)).trans hy2
            replace hy3 := (HB2.out.cell (World.block_lt_of_cell? w _ hy3)).trans hy3
            replace hb0 := eq_true hb0
            replace hbl := eq_true hbl
            clear hbd c3
            cases c5 : bfB (rd_T45 l0 x).f0 (rd_T45 l0 x).f2 (rd_T45 l0 b).f0 (rd_T45 l0 b).f2 with
            | true =>
              have HG := Aside0.mk (R_best HI.out H0.out HL.out HLL.out C1.out C2.out (.inr c5))
              go_region_held3 (fun w' => w'.cell? ⟨g2, 0, none⟩ = some (.slice (some ad) l0.length c0) ∧ w'.cell? ⟨g8, 0, none⟩ = some (.slice (some al) left.length cL) ∧ w'.cell? (al.add x.toNat) = some (.int .i64 (rd left x)) ∧
                  w'.cell? ⟨g11, 0, none⟩ = some (.int .i64 (rd_T45 l0 x).f0) ∧ w'.cell? ⟨g11, 1, none⟩ = some (.int .i64 (rd_T45 l0 x).f1) ∧ w'.cell? ⟨g11, 2, none⟩ = some (.int .i64 (rd_T45 l0 x).f2) ∧ w'.cell? ⟨g11, 3, none⟩ = some (.int .i64 (rd_T45 l0 x).f3) ∧
                  w'.cell? (ad.add (b.toNat * 4)) = some (.int .i64 (rd_T45 l0 b).f0) ∧ w'.cell? ⟨(ad.add (b.toNat * 4)).block, (ad.add (b.toNat * 4)).off + 1, none⟩ = some (.int .i64 (rd_T45 l0 b).f1) ∧
                  w'.cell? ⟨(ad.add (b.toNat * 4)).block, (ad.add (b.toNat * 4)).off + 2, none⟩ = some (.int .i64 (rd_T45 l0 b).f2) ∧ w'.cell? ⟨(ad.add (b.toNat * 4)).block, (ad.add (b.toNat * 4)).off + 3, none⟩ = some (.int .i64 (rd_T45 l0 b).f3))
                (first | exact ⟨hd2, hd8, hl0, hx0, hx1, hx2, hx3, hy0, hy1, hy2, hy3⟩ | (have hbb := HBB.out; exact ⟨pw_cell_below hbb hd2, pw_cell_below hbb hd8, pw_cell_below hbb hl0, pw_cell_below hbb hx0, pw_cell_below hbb hx1, pw_cell_below hbb hx2, pw_cell_below hbb hx3, pw_cell_below hbb hy0, pw_cell_below hbb hy1, pw_cell_below hbb hy2, pw_cell_below hbb hy3⟩))
                (first | (go_at_call 25; refine (before_any _ _ _ _ _ _ _ _ _).mono ?_; rintro e w11 ⟨rfl, hbb⟩; have HBB := Aside0.mk hbb; clear hbb))
              have HB3 := Aside0.mk (below_step (w := w) (by repeat (first | exact HB2.out | apply below_drew1 | apply pw_below_drewN)) HBB.out)
              go_wp2
              go_roundg (l0.length - (x + 1).toNat)
              case measure => have := HK.out; have := HL.out; omega
              case rel => exact ⟨wrap64 (x + 1), _, _, rfl, rfl, rfl, by rw [EW.out]; exact ⟨by have := HK.out; have := HL.out; have := H0.out; omega, by have := H0.out; omega⟩, by rw [EW.out]; exact HG, ⟨by repeat (first | exact HB3.out | apply pw_below_drewN | apply below_alloc | apply below_drew1)⟩⟩
            | false =>
              have HG := Aside0.mk (R_same HI.out H0.out HL.out HLL.out HJ.out C1.out (.inr ⟨HBD.out, c5⟩))
              go_region_held3 (fun w' => w'.cell? ⟨g2, 0, none⟩ = some (.slice (some ad) l0.length c0) ∧ w'.cell? ⟨g8, 0, none⟩ = some (.slice (some al) left.length cL) ∧ w'.cell? (al.add x.toNat) = some (.int .i64 (rd left x)) ∧
                  w'.cell? ⟨g11, 0, none⟩ = some (.int .i64 (rd_T45 l0 x).f0) ∧ w'.cell? ⟨g11, 1, none⟩ = some (.int .i64 (rd_T45 l0 x).f1) ∧ w'.cell? ⟨g11, 2, none⟩ = some (.int .i64 (rd_T45 l0 x).f2) ∧ w'.cell? ⟨g11, 3, none⟩ = some (.int .i64 (rd_T45 l0 x).f3) ∧
                  w'.cell? (ad.add (b.toNat * 4)) = some (.int .i64 (rd_T45 l0 b).f0) ∧ w'.cell? ⟨(ad.add (b.toNat * 4)).block, (ad.add (b.toNat * 4)).off + 1, none⟩ = some (.int .i64 (rd_T45 l0 b).f1) ∧
                  w'.cell? ⟨(ad.add (b.toNat * 4)).block, (ad.add (b.toNat * 4)).off + 2, none⟩ = some (.int .i64 (rd_T45 l0 b).f2) ∧ w'.cell? ⟨(ad.add (b.toNat * 4)).block, (ad.add (b.toNat * 4)).off + 3, none⟩ = some (.int .i64 (rd_T45 l0 b).f3))
                (first | exact ⟨hd2, hd8, hl0, hx0, hx1, hx2, hx3, hy0, hy1, hy2, hy3⟩ | (have hbb := HBB.out; exact ⟨pw_cell_below hbb hd2, pw_cell_below hbb hd8, pw_cell_below hbb hl0, pw_cell_below hbb hx0, pw_cell_below hbb hx1, pw_cell_below hbb hx2, pw_cell_below hbb hx3, pw_cell_below hbb hy0, pw_cell_below hbb hy1, pw_cell_below hbb hy2, pw_cell_below hbb hy3⟩))
                (first | (go_at_call 25; refine (before_any _ _ _ _ _ _ _ _ _).mono ?_; rintro e w11 ⟨rfl, hbb⟩; have HBB := Aside0.mk hbb; clear hbb))
              have HB3 := Aside0.mk (below_step (w := w) (by repeat (first | exact HB2.out | apply below_drew1 | apply pw_below_drewN)) HBB.out)
              go_wp2
              go_roundg (l0.length - (x + 1).toNat)
              case measure => have := HK.out; have := HL.out; omega
              case rel => exact ⟨wrap64 (x + 1), _, _, rfl, rfl, rfl, by rw [EW.out]; exact ⟨by have := HK.out; have := HL.out; have := H0.out; omega, by have := H0.out; omega⟩, by rw [EW.out]; exact HG, ⟨by repeat (first | exact HB3.out | apply pw_below_drewN | apply below_alloc | apply below_drew1)⟩⟩
        · have d2 : decide (0 < rd left x) = false := decide_eq_false c2
          have HG := Aside0.mk (R_same HI.out H0.out HL.out HLL.out HJ.out C1.out (.inl (by omega)))
          clear c2
          go_quiet (fail)
          go_wp2
          go_roundg (l0.length - (x + 1).toNat)
          case measure => have := HK.out; have := HL.out; omega
          case rel => exact ⟨wrap64 (x + 1), _, _, rfl, rfl, rfl, by rw [EW.out]; exact ⟨by have := HK.out; have := HL.out; have := H0.out; omega, by have := H0.out; omega⟩, by rw [EW.out]; exact HG, ⟨by repeat (first | exact HB2.out | apply pw_below_drewN | apply below_alloc)⟩⟩
    · have c0b : decide (x < (l0.length : Int)) = false := decide_eq_false hlt
      have HL := Aside0.mk hlt
      clear hlt
      go_wp2
      go_ret2
      obtain rfl : x = l0.length := by have := HL.out; have := HK.out; omega
      exact ⟨b, n, rfl, by have := HI.out; rw [show (l0.length : Int).toNat = (l0.map toJ).length by simp] at this; exact this.told, HB.out⟩
end Go.Proofs.Ytbnjdlafnejanaa.Pr
namespace Go.Proofs.Ytbnjdlafnejanaa.Pr
open Go.RowKit Go.Proofs.YtbnjdlafnejanaaW.PrintWords Go.Proofs.YtbnjdlafnejanaaW.PrintLast Go.Proofs.YtbnjdlafnejanaaW.PrintMore
structure MW (w : World) (g2 g8 : Nat) (A0 : Option Addr) (n0 c0 : Nat) (vL : Value) (left : List Int) (vO : Value) (out : List (S51)) (B : List (Nat × Array Value)) (W : World) : Prop where
  below : Below w.heap.size w W
  b2 : W.heap[g2]? = some (.cells #[.slice A0 n0 c0] 25 (0, 0))
  b8 : W.heap[g8]? = some (.cells #[vL] 36 (0, 0))
  left : Kd.R (Kd.int .i64) 3 W w.heap.size (fun _ => True) vL left
  out : Kd.R k51 51 W w.heap.size (fun _ => True) vO out
  bx : ∀ g cs, (g, cs) ∈ B → W.heap[g]? = some (.cells cs 47 (0, 0))
variable {w : World} {g2 g8 : Nat} {A0 : Option Addr} {n0 c0 : Nat} {vL vO : Value} {left : List Int} {out : List (S51)} {B : List (Nat × Array Value)} {W : World}
theorem MW.step {W' : World} (h : MW w g2 g8 A0 n0 c0 vL left vO out B W) (hb : Below W.heap.size W W') : MW w g2 g8 A0 n0 c0 vL left vO out B W' :=
  ⟨below_step h.below hb, blk_below h.b2 hb, blk_below h.b8 hb, Kd.R_below h.left hb, Kd.R_below h.out hb, fun g cs hg => blk_below (h.bx g cs hg) hb⟩
theorem MW.c2 (h : MW w g2 g8 A0 n0 c0 vL left vO out B W) : W.cell? ⟨g2, 0, none⟩ = some (.slice A0 n0 c0) := (blk_cell h.b2 0).trans rfl
theorem MW.c8 (h : MW w g2 g8 A0 n0 c0 vL left vO out B W) : W.cell? ⟨g8, 0, none⟩ = some vL := (blk_cell h.b8 0).trans rfl
theorem MW.size (h : MW w g2 g8 A0 n0 c0 vL left vO out B W) : w.heap.size ≤ W.heap.size := h.below.size
theorem MW.putLeft {go n cap : Nat} (h : MW w g2 g8 A0 n0 c0 (.slice (some ⟨go, 0, none⟩) n cap) left vO out B W) (i x : Int) :
    MW w g2 g8 A0 n0 c0 (.slice (some ⟨go, 0, none⟩) n cap) (left.set i.toNat x) vO out B (W.setCell ⟨go, i.toNat, none⟩ (.int .i64 x)) := by
  have hp := Kd.R_putg h.left i x
  have hgo : w.heap.size ≤ go := Kd.R_base h.left go rfl
  exact ⟨below_set h.below hgo, blk_grown h.b2 hp.2 (Kd.R_ne h.left h.b2 (by decide)), blk_grown h.b8 hp.2 (Kd.R_ne h.left h.b8 (by decide)), hp.1,
    Kd.R_over' (v := .slice (some ⟨go, 0, none⟩) n cap) h.out (Kd.R_typed h.left) (by decide) hp.2, fun g cs hg => blk_grown (h.bx g cs hg) hp.2 (Kd.R_ne h.left (h.bx g cs hg) (by decide))⟩
theorem MW.putTo {go n cap : Nat} (h : MW w g2 g8 A0 n0 c0 vL left (.slice (some ⟨go, 0, none⟩) n cap) out B W) (i : Int) (h0 : 0 ≤ i) (h1 : i < (out.length : Int)) (x : Int) :
    MW w g2 g8 A0 n0 c0 vL left (.slice (some ⟨go, 0, none⟩) n cap) (out.set i.toNat ⟨(rd_T51 out i).f0, (rd_T51 out i).f1, x⟩) B (W.setCell ⟨go, i.toNat * 3 + 2, none⟩ (.int .i64 x)) ∧
    W.cell? ⟨go, i.toNat * 3, none⟩ = some (.int .i64 (rd_T51 out i).f0) ∧ W.cell? ⟨go, i.toNat * 3 + 2, none⟩ = some (.int .i64 (rd_T51 out i).f2) ∧ W.frozen? ⟨go, i.toNat * 3 + 2, none⟩ = false := by
  have hn : n = out.length := (Kd.R_reads' h.out).1
  have hgo : w.heap.size ≤ go := Kd.R_base h.out go rfl
  obtain ⟨ce, hcl, hM, hcc, hfr⟩ := Kd.R_elem h.out z51 i h0 (by omega)
  obtain rfl := k51_openM hM
  have hp := Kd.R_seg h.out i h0 (by omega) (seg := [.int .i64 x]) (j := 2) hcl hcc (show 3 ≤ 3 from by decide) (x' := (⟨(rd_T51 out i).f0, (rd_T51 out i).f1, x⟩ : S51))
    (k51_mkM W w.heap.size (fun _ => False) (⟨(rd_T51 out i).f0, (rd_T51 out i).f1, x⟩ : S51)) (fun _ hk => hk.elim)
  refine ⟨⟨below_set h.below hgo, blk_grown h.b2 hp.2 (Kd.R_ne h.out h.b2 (by decide)), blk_grown h.b8 hp.2 (Kd.R_ne h.out h.b8 (by decide)),
    Kd.R_over' (v := .slice (some ⟨go, 0, none⟩) n cap) h.left (Kd.R_typed h.out) (by decide) hp.2, hp.1, fun g cs hg => blk_grown (h.bx g cs hg) hp.2 (Kd.R_ne h.out (h.bx g cs hg) (by decide))⟩, hcc 0 _ rfl, hcc 2 _ rfl, hfr 2⟩
theorem MW.append {ops : Array Oper} {rest : List Oper} {o : Oper} {a : Act} {Q : Exit → Act → World → Prop} (h : MW w g2 g8 A0 n0 c0 vL left vO out B W) (hgd : o.guard = none) (s x : Operand)
    (ho : o.op = .call { callee := .builtin .append, args := #[s, x], argTypes := #[29, 29] }) (p : S51) (hs : a.eval s = vO) (hx : a.eval x = .slice (some ⟨W.heap.size, 0, none⟩) 1 1)
    (hl : (out.length + 1) * 24 ≤ 140737488355328)
    (hK : ∀ v1 w1, MW w g2 g8 A0 n0 c0 vL left v1 (out ++ [p]) B w1 → wpList Try.prog ops Q rest (a.put o.dst v1) w1) :
    wpList Try.prog ops Q (o :: rest) a (W.alloc (.cells #[.int .i64 p.f0, .int .i64 p.f1, .int .i64 p.f2] 51)) := by
  refine Kd.R_append k51 (w0 := w) w.heap.size hgd s x 29 51 (.agg #[(.int .i64 0), (.int .i64 0), (.int .i64 0)]) 24 ho Try.underlying29 info51 rfl (by decide) (by omega) vO out p [.int .i64 p.f0, .int .i64 p.f1, .int .i64 p.f2]
    (fun _ => True) (fun _ => False) hs hx (k51_mkM _ _ _ p) (fun _ hk => hk.elim) (fun _ _ => trivial) h.out h.below h.size hl ?_
  intro v1 w1 ho1 hb hg _
  exact hK v1 w1 ⟨hb, blk_grown h.b2 hg (Kd.R_ne h.out h.b2 (by decide)), blk_grown h.b8 hg (Kd.R_ne h.out h.b8 (by decide)), Kd.R_over' h.left (Kd.R_typed h.out) (by decide) hg, ho1, fun g cs hx => blk_grown (h.bx g cs hx) hg (Kd.R_ne h.out (h.bx g cs hx) (by decide))⟩
/-- One block more that is kept in sight. -/
theorem MW.see (h : MW w g2 g8 A0 n0 c0 vL left vO out [] W) {g : Nat} {cs : Array Value} (hg : W.heap[g]? = some (.cells cs 47 (0, 0))) : MW w g2 g8 A0 n0 c0 vL left vO out [(g, cs)] W :=
  ⟨h.below, h.b2, h.b8, h.left, h.out, fun g' cs' hm => by
    rw [List.mem_singleton] at hm
    injection hm with h1 h2
    subst h1; subst h2
    exact hg⟩
theorem MW.forget (h : MW w g2 g8 A0 n0 c0 vL left vO out B W) : MW w g2 g8 A0 n0 c0 vL left vO out [] W :=
  ⟨h.below, h.b2, h.b8, h.left, h.out, fun _ _ hm => absurd hm (by simp)⟩
end Go.Proofs.Ytbnjdlafnejanaa.Pr
namespace Go.Proofs.Ytbnjdlafnejanaa.Pr
open Go.RowKit Go.Proofs.YtbnjdlafnejanaaW.PrintWords Go.Proofs.YtbnjdlafnejanaaW.PrintLast Go.Proofs.YtbnjdlafnejanaaW.PrintMore
attribute [local go_sem] max2_int min2_int max_two min_two
set_option maxHeartbeats 4000000 in
set_option maxRecDepth 100000 in
theorem make_bad (A0 : Option Addr) (c0 : Nat) (l0 : List (S45)) (A1 : Option Addr) (c1 : Nat) (l1 : List (S47)) (w : World) (hr0 : Kd.C k45 w A0 l0.length l0) (hc0 : l0.length ≤ c0) (hr1 : Kd.C k47 w A1 l1.length l1) (hc1 : l1.length ≤ c1) (hw : wf45 l0 = true)
    (x y : Int) (hv : Sh.validX (l0.map toJ) (l1.map toS) = (x, y)) (hy : y ≠ 0) :
    Calls Try.prog 12 #[.slice A0 l0.length c0, .slice A1 l1.length c1] w fun e w' => e = .returned (.tuple #[.slice none 0 0, .int .i64 y]) ∧ Below w.heap.size w w' := by
  have hb1 : (y != 0) = true := bne_iff_ne.mpr hy
  have HV := Aside0.mk (valid_any A0 c0 l0 A1 c1 l1 (w.alloc (.cells #[.slice A0 l0.length c0] 25)) (Kd.C_alloc hr0 _) hc0 (Kd.C_alloc hr1 _) hc1 hw)
  rw [hv] at HV
  clear hv hy hr0 hr1 hc0 hc1 hw
  go_enter Try.func12, Try.ntmps12
  go_wp2
  go_step3
  go_wp2_with (go_at_call 23; refine HV.out.mono ?_; rintro e w6 ⟨rfl, hb⟩)
  (try rw [Exit.noGoto_ret])
  go_ret2
  exact ⟨rfl, below_step (below_alloc (Below.refl _ _) _) hb⟩
/-- What is left, when the first x jobs are laid in. -/
def LeftAt (l0 : List (S45)) (left : List Int) (x : Int) : Prop := left.length = l0.length ∧ ∀ i : Nat, (i : Int) < x → ∀ h : i < left.length, left[i] = (rd_T45 l0 i).f3
theorem leftAt_start (l0 : List (S45)) : LeftAt l0 (List.replicate (l0.length : Int).toNat 0) 0 := ⟨by simp, fun i h => absurd h (by omega)⟩
theorem leftAt_step {l0 : List (S45)} {left : List Int} {x : Int} (h : LeftAt l0 left x) (h0 : 0 ≤ x) : LeftAt l0 (left.set x.toNat (rd_T45 l0 x).f3) (x + 1) := by
  refine ⟨by simpa using h.1, fun i hi hl => ?_⟩
  by_cases e : x.toNat = i
  · subst e
    rw [List.getElem_set_self]
    rw [show ((x.toNat : Nat) : Int) = x by omega]
  · rw [List.getElem_set_ne e]
    exact h.2 i (by omega) (by simpa using hl)
theorem leftAt_done {l0 : List (S45)} {left : List Int} {x : Int} (h : LeftAt l0 left x) (hx : (l0.length : Int) ≤ x) : left = (l0.map toJ).map Sh.Job.min := by
  apply List.ext_getElem
  · simpa using h.1
  · intro i h1 h2
    have hi : i < l0.length := by simpa using h2
    rw [h.2 i (by omega) h1]
    simp [rd_T45, toJ, hi]
theorem getS {l1 : List (S47)} {x : Int} (h0 : 0 ≤ x) (h : x < (l1.length : Int)) : ∃ hk : x.toNat < (l1.map toS).length, (l1.map toS)[x.toNat] = toS (rd_T47 l1 x) := by
  have hn : x.toNat < l1.length := by omega
  exact ⟨by simpa using hn, by simp [rd_T47, hn]⟩
theorem make_enter {l0 : List (S45)} {l1 : List (S47)} {left : List Int} {out : List (S51)} {x : Int} (hJ : Sh.VJ (l0.map toJ)) (hS : Sh.VS (l1.map toS)) (h0 : 0 ≤ x) (h : x < (l1.length : Int)) (ho : Sh.OInv (l0.map toJ) (l1.map toS) x.toNat left (out.map toL)) :
    Sh.MInv (l0.map toJ) (l1.map toS) (toS (rd_T47 l1 x)) (rd_T47 l1 x).f0 left out.length (out.map toL) := by
  obtain ⟨hk, e⟩ := getS h0 h
  have := ho.enter hJ hS hk
  rw [e, List.length_map] at this
  exact this
theorem make_leave {l0 : List (S45)} {l1 : List (S47)} {left : List Int} {first : Nat} {out : List (S51)} {x t : Int} (h0 : 0 ≤ x) (h : x < (l1.length : Int)) (ht : t = (rd_T47 l1 x).f1)
    (hm : Sh.MInv (l0.map toJ) (l1.map toS) (toS (rd_T47 l1 x)) t left first (out.map toL)) : Sh.OInv (l0.map toJ) (l1.map toS) (x + 1).toNat left (out.map toL) := by
  obtain ⟨hk, e⟩ := getS h0 h
  rw [show (x + 1).toNat = x.toNat + 1 by omega]
  refine Sh.MInv.leave (first := first) hk ?_
  rw [e]
  subst ht
  exact hm
/-- The interval is at its end: a job waits, or none is left. -/
theorem told_ge {l0 : List (S45)} {left : List Int} {t te b n : Int} (h : Sh.Told (l0.map toJ) left t te b n) (hb : ¬ b < 0) : 0 ≤ b ∧ b < (l0.length : Int) ∧ b < (left.length : Int) := by
  obtain ⟨i, h1, h2, h3, _⟩ := h.some (by omega)
  simp only [List.length_map] at h2
  omega
/-- The numbers of a round that runs a job. -/
theorem make_nums {l0 : List (S45)} {l1 : List (S47)} {s : Sh.Shift} {t n b n1 n' : Int} {left : List Int} {first : Nat} {out : List Sh.Slice} (hJ : Sh.BJ (l0.map toJ)) (hS : Sh.BS (l1.map toS))
    (hI : Sh.MInv (l0.map toJ) (l1.map toS) s t left first out) (hT : Sh.Told (l0.map toJ) left t s.to b n) (h0 : 0 ≤ b) (hb : b < (l0.length : Int)) (hbl : b < (left.length : Int))
    (hn1 : wrap64 (t + rd left b) = n1) (hn' : (if n1 < n then n1 else n) = n') (htt : t < s.to) :
    ∃ (hk : b.toNat < (l0.map toJ).length) (hkl : b.toNat < left.length), (l0.map toJ)[b.toNat] = toJ (rd_T45 l0 b) ∧ left[b.toNat] = rd left b ∧ n' = min n (t + left[b.toNat]) ∧ wrap64 (rd left b - wrap64 (n' - t)) = left[b.toNat] - (n' - t) ∧
      Sh.Told (l0.map toJ) left t s.to (b.toNat : Nat) n := by
  obtain ⟨hk, e⟩ := getJ h0 hb
  obtain ⟨hkl, el⟩ := getI (l := left) h0 hbl
  have p1 := hI.rest b.toNat hk hkl
  have p2 := (hJ.bd _ (List.getElem_mem hk)).2.2.2.2
  have p3 := Sh.cnt_nonneg (Sh.isId (Sh.runs out) (l0.map toJ)[b.toNat].id) 0 t
  have p4 := hS.bd s hI.mem
  have p5 := (hS.vs.pos s hI.mem).1
  have p6 := hI.at0
  have p7 := hI.at1
  have p8 := hI.nonneg _ (List.getElem_mem hkl)
  have p9 := hT.le
  have p10 := hT.lt htt
  have e1 : wrap64 (t + rd left b) = t + rd left b := by rw [← el]; unfold wrap64; omega
  have e2 : n' = min n (t + left[b.toNat]) := by
    rw [← hn', ← hn1, e1, ← el]; split <;> omega
  have e3 : wrap64 (n' - t) = n' - t := by unfold wrap64; omega
  refine ⟨hk, hkl, e, el, e2, ?_, by rw [show ((b.toNat : Nat) : Int) = b by omega]; exact hT⟩
  rw [e3, ← el]
  unfold wrap64
  omega
theorem make_lt {l0 : List (S45)} {l1 : List (S47)} {s : Sh.Shift} {t n b n1 n' : Int} {left : List Int} {first : Nat} {out : List Sh.Slice} (hJ : Sh.BJ (l0.map toJ)) (hS : Sh.BS (l1.map toS))
    (hI : Sh.MInv (l0.map toJ) (l1.map toS) s t left first out) (hT : Sh.Told (l0.map toJ) left t s.to b n) (h0 : 0 ≤ b) (hb : b < (l0.length : Int)) (hbl : b < (left.length : Int))
    (hn1 : wrap64 (t + rd left b) = n1) (hn' : (if n1 < n then n1 else n) = n') (htt : t < s.to) : t < n' ∧ n' ≤ s.to := by
  obtain ⟨hk, hkl, e, el, e2, e3, hT'⟩ := make_nums hJ hS hI hT h0 hb hbl hn1 hn' htt
  have := hI.run hJ.vj hS.vs htt hT' hk hkl e2
  exact ⟨this.1, this.2.1⟩
theorem make_snoc {l0 : List (S45)} {l1 : List (S47)} {s : Sh.Shift} {t n b n1 n' : Int} {left : List Int} {first : Nat} {out : List (S51)} (hJ : Sh.BJ (l0.map toJ)) (hS : Sh.BS (l1.map toS))
    (hI : Sh.MInv (l0.map toJ) (l1.map toS) s t left first (out.map toL)) (hT : Sh.Told (l0.map toJ) left t s.to b n) (h0 : 0 ≤ b) (hb : b < (l0.length : Int)) (hbl : b < (left.length : Int))
    (hn1 : wrap64 (t + rd left b) = n1) (hn' : (if n1 < n then n1 else n) = n') (htt : t < s.to)
    (hm : (out.length : Int) ≤ first ∨ (rd_T51 out ((out.length : Int) - 1)).f0 ≠ (rd_T45 l0 b).f0 ∨ (rd_T51 out ((out.length : Int) - 1)).f2 ≠ t) :
    Sh.MInv (l0.map toJ) (l1.map toS) s n' (left.set b.toNat (wrap64 (rd left b - wrap64 (n' - t)))) first ((out ++ [(⟨(rd_T45 l0 b).f0, t, n'⟩ : S51)]).map toL) := by
  obtain ⟨hk, hkl, e, el, e2, e3, hT'⟩ := make_nums hJ hS hI hT h0 hb hbl hn1 hn' htt
  have := hI.snoc hJ.vj hS.vs htt hT' hk hkl e2 (by
    intro u hu hlt hj ht
    rw [List.getLast?_eq_getElem?] at hu
    obtain ⟨hi, hu⟩ := List.getElem?_eq_some_iff.1 (Option.mem_def.1 hu)
    simp only [List.length_map] at hi hlt hu
    have hr : rd_T51 out ((out.length : Int) - 1) = out[out.length - 1] := by
      have hx : ((out.length : Int) - 1).toNat = out.length - 1 := by omega
      simp [rd_T51, hx, hi]
    rw [hr] at hm
    rw [e] at hj
    subst hu
    simp only [List.getElem_map, toL, toJ] at hj ht
    rcases hm with h1 | h1 | h1
    · omega
    · exact h1 hj
    · exact h1 ht)
  rw [e3]
  rw [List.map_append]
  have e4 : List.map toL [(⟨(rd_T45 l0 b).f0, t, n'⟩ : S51)] = [(⟨((l0.map toJ)[b.toNat]'hk).id, t, n'⟩ : Sh.Slice)] := by rw [e]; rfl
  rw [e4]
  exact this
theorem make_grow {l0 : List (S45)} {l1 : List (S47)} {s : Sh.Shift} {t n b n1 n' : Int} {left : List Int} {first : Nat} {out : List (S51)} (hJ : Sh.BJ (l0.map toJ)) (hS : Sh.BS (l1.map toS))
    (hI : Sh.MInv (l0.map toJ) (l1.map toS) s t left first (out.map toL)) (hT : Sh.Told (l0.map toJ) left t s.to b n) (h0 : 0 ≤ b) (hb : b < (l0.length : Int)) (hbl : b < (left.length : Int))
    (hn1 : wrap64 (t + rd left b) = n1) (hn' : (if n1 < n then n1 else n) = n') (htt : t < s.to)
    (h1 : (first : Int) < out.length) (h2 : (rd_T51 out ((out.length : Int) - 1)).f0 = (rd_T45 l0 b).f0) (h3 : (rd_T51 out ((out.length : Int) - 1)).f2 = t) :
    Sh.MInv (l0.map toJ) (l1.map toS) s n' (left.set b.toNat (wrap64 (rd left b - wrap64 (n' - t)))) first
      ((out.set ((out.length : Int) - 1).toNat (⟨(rd_T51 out ((out.length : Int) - 1)).f0, (rd_T51 out ((out.length : Int) - 1)).f1, n'⟩ : S51)).map toL) := by
  obtain ⟨hk, hkl, e, el, e2, e3, hT'⟩ := make_nums hJ hS hI hT h0 hb hbl hn1 hn' htt
  rcases List.eq_nil_or_concat out with rfl | ⟨a, u, rfl⟩
  · simp at h1; omega
  · rw [List.concat_eq_append] at *
    have hx : (((a ++ [u]).length : Int) - 1).toNat = a.length := by simp
    have hr : rd_T51 (a ++ [u]) (((a ++ [u]).length : Int) - 1) = u := by unfold rd_T51; rw [hx]; simp
    rw [hr] at h2 h3 ⊢
    rw [hx, List.set_append_right _ _ (Nat.le_refl _), Nat.sub_self, List.set_cons_zero, List.map_append, e3]
    rw [List.map_append, List.map_cons, List.map_nil] at hI
    have := hI.grow hJ.vj hS.vs htt hT' hk hkl e2 (by simp at h1 ⊢; omega) (by rw [e]; exact h2) h3
    exact this
theorem tot_le : ∀ {J : List Sh.Job}, (∀ x ∈ J, x.min ≤ 100000) → Sh.tot J ≤ 100000 * J.length := by
  intro J
  unfold Sh.tot
  induction J with
  | nil => intro _; simp
  | cons x J ih =>
    intro h
    have := h x (by simp)
    have := ih (fun y hy => h y (by simp [hy]))
    rw [List.map_cons, List.sum_cons, List.length_cons]
    omega
theorem make_len {l0 : List (S45)} {l1 : List (S47)} {s : Sh.Shift} {t : Int} {left : List Int} {first : Nat} {out : List (S51)} (hJ : Sh.BJ (l0.map toJ)) (hn : l0.length ≤ 200)
    (hI : Sh.MInv (l0.map toJ) (l1.map toS) s t left first (out.map toL)) : out.length ≤ 20000000 := by
  have h1 := hI.sum
  have h2 := Sh.sum_nonneg left hI.nonneg
  have h3 := tot_le (J := l0.map toJ) (fun x hx => (hJ.bd x hx).2.2.2.2)
  simp only [List.length_map] at h1 h3
  omega
theorem make_start {w w8 w9 : World} {g2 g8 : Nat} {A0 : Option Addr} {n0 c0 : Nat} {v31 : Value} {left : List Int} (hw : w9 = w8.setCell ⟨g8, 0, none⟩ v31) (hb : Below w.heap.size w w8)
    (h2 : w8.heap[g2]? = some (.cells #[.slice A0 n0 c0] 25 (0, 0))) (h8 : w8.heap[g8]? = some (.cells #[.slice none 0 0] 36 (0, 0))) (ho : Kd.R (Kd.int .i64) 3 w8 w.heap.size (fun _ => True) v31 left)
    (hg : w.heap.size ≤ g8) (hn : g2 ≠ g8) : MW w g2 g8 A0 n0 c0 v31 left (.slice none 0 0) [] [] w9 := by
  subst hw
  refine ⟨below_set hb hg, blk_far h2 hn _, blk_put h8 0 _ rfl, ?_, Kd.R_nil _ _ _ _ _, fun _ _ hm => absurd hm (by simp)⟩
  exact Kd.R_mono (Kd.R_far (p := ⟨g8, 0, none⟩) (Kd.R_types ho h8 (by decide)) (fun _ hk => hk.2) v31) (fun _ hk => hk.1)
set_option maxHeartbeats 4000000 in
set_option maxRecDepth 100000 in
theorem make_ok (A0 : Option Addr) (c0 : Nat) (l0 : List (S45)) (A1 : Option Addr) (c1 : Nat) (l1 : List (S47)) (w : World) (hr0 : Kd.C k45 w A0 l0.length l0) (hc0 : l0.length ≤ c0) (hr1 : Kd.C k47 w A1 l1.length l1) (hc1 : l1.length ≤ c1) (hw : wf45 l0 = true)
    (hv : Sh.validX (l0.map toJ) (l1.map toS) = (0, 0)) :
    Calls Try.prog 12 #[.slice A0 l0.length c0, .slice A1 l1.length c1] w fun e w' => ∃ (v0_ : Value) (out : List S51), e = .returned (.tuple #[v0_, .int .i64 0]) ∧ Kd.R k51 51 w' w.heap.size (fun _ => True) v0_ out ∧ Sh.Made (l0.map toJ) (l1.map toS) (out.map toL) ∧ Below w.heap.size w w' := by
  have HV := Aside0.mk (valid_any A0 c0 l0 A1 c1 l1 (w.alloc (.cells #[.slice A0 l0.length c0] 25)) (Kd.C_alloc hr0 _) hc0 (Kd.C_alloc hr1 _) hc1 hw)
  rw [hv] at HV
  obtain ⟨hBJ, hBS, hn0, hn1⟩ := Sh.validX_ok (J := l0.map toJ) (S := l1.map toS) (by rw [hv])
  have HBJ := Aside0.mk hBJ
  have HBS := Aside0.mk hBS
  simp only [List.length_map] at hn0 hn1
  have HN0 := Aside0.mk hn0
  have HN1 := Aside0.mk hn1
  have HR0 := Aside0.mk hr0
  have HR1 := Aside0.mk hr1
  clear hv hr0 hr1 hc0 hc1 hw hBJ hBS hn0 hn1
  have q0 : (0 ≤ (l0.length : Int)) = True := eq_true (by omega)
  have q0b : decide (0 ≤ (l0.length : Int)) = true := decide_eq_true (by omega)
  go_enter Try.func12, Try.ntmps12
  go_wp2
  go_step3
  go_wp2_with (first
    | (go_at_call 23; refine HV.out.mono ?_; rintro e w6 ⟨rfl, hb⟩; have HB6 := Aside0.mk (below_step (below_alloc (Below.refl w.heap.size w) _) hb); have HB26 := Aside0.mk (blk_below (blk_new w (.cells #[.slice A0 l0.length c0] 25)) hb); clear hb; generalize w.heap.size = g2 at HB26 ⊢; have hc2 : w6.cell? ⟨g2, 0, none⟩ = some (.slice A0 l0.length c0) := (blk_cell HB26.out 0).trans rfl)
    | ((with_reducible refine gate_dst (N := 31) rfl ?_); refine Kd.R_make (Kd.int .i64) _ 3 rfl (N := 31) rfl 36 _ _ rfl (l0.length : Int) rfl rfl Try.underlying36 (.int .i64 0) 8 info3 rfl (by decide) (by omega) 0 (ok := fun _ => True) (okp := fun _ => True) rfl (fun _ hk => hk) trivial (by omega) (by have := HN0.out; omega) (Below.refl _ _) (Nat.le_refl _) ?_; intro v31 w7 ho hb hg_ hnew_; clear hg_ hnew_; obtain ⟨AL, cL, e31⟩ := Kd.R_slice ho; rw [show (List.replicate (l0.length : Int).toNat (0 : Int)).length = l0.length by simp] at e31; subst e31; have HO7 := Aside0.mk (Kd.R_lower ho HB6.out.size); have HB7 := Aside0.mk (below_step HB6.out hb); have HB27 := Aside0.mk (blk_below HB26.out hb); clear ho hb hc2)
    | ((with_reducible refine gate_dst (N := 8) rfl ?_); refine box_event ?hg (N := 8) ?hd (cs := #[.slice none 0 0]) (t := 36) ?hr ?_; (case hd => rfl); (case hg => rfl); (case hr => first | (go_simp; done) | (go_simp; rfl)); intro g8 hg w8 hbox hb; have HO8 := Aside0.mk (Kd.R_below HO7.out hb); have HB8 := Aside0.mk (below_step HB7.out hb); have HB28 := Aside0.mk (blk_below HB27.out hb); have HB88 := Aside0.mk hbox; have HG8 := Aside0.mk (show w.heap.size ≤ g8 by rw [hg]; exact HB7.out.size); have HN8 := Aside0.mk (show g2 ≠ g8 by rw [hg]; exact Nat.ne_of_lt (blk_lt HB27.out)); clear hg hbox hb; have hcz : w8.cell? ⟨g8, 0, none⟩ = some (.slice none 0 0) := (blk_cell HB88.out 0).trans rfl; have hfz := blk_frozen HB88.out 0)
    | ((with_reducible refine gate_store (t := 36) (p := 8) rfl ?_); refine store_event (t := 36) (p := 8) (v := ?vo_w9) (w1 := w8.setCell ⟨g8, 0, none⟩ (.slice AL l0.length cL)) ?hg ?ho ?hn ?hr ?_; (case ho => rfl); (case hg => rfl); (case hn => rfl); (case hr => first | (go_simp; done) | (go_simp; rfl)); intro w9 hw; have HM := Aside0.mk (make_start hw HB8.out HB28.out HB88.out HO8.out HG8.out HN8.out); have hd2 := HM.out.c2; have hd8 := HM.out.c8; clear hw hcz hfz))
  clear hd2 hd8
  go_loopg [34] l0.length (fun kq v34 wr => ∃ (x : Int) (left : List Int), v34 = .int .i64 x ∧ Aside0 ((kq : Int) + x = l0.length ∧ 0 ≤ x) ∧ Aside0 (LeftAt l0 left x) ∧ Aside0 (MW w g2 g8 A0 l0.length c0 (.slice AL l0.length cL) left (.slice none 0 0) [] [] wr))
  case atStart => exact ⟨0, _, rfl, ⟨by simp⟩, ⟨leftAt_start l0⟩, HM⟩
  case round =>
    clear HM HO7 HB7 HB27 HO8 HB8 HB28 HB88 HG8 HN8 HB6 HB26
    obtain ⟨x, left, rfl, HK, HLA, HM⟩ := hrel
    by_cases hlt : x < (l0.length : Int)
    · have c0b : decide (x < (l0.length : Int)) = true := decide_eq_true hlt
      have h0 : 0 ≤ x := HK.out.2
      have HL := Aside0.mk hlt
      have H0 := Aside0.mk h0
      obtain ⟨ad, ea, hx0, hx1, hx2, hx3⟩ := at_T45 HR0.out x h0 hlt
      have q0 := eq_true hlt
      cases ea
      replace hx0 := (HM.out.below.cell (World.block_lt_of_cell? w _ hx0)).trans hx0
      replace hx1 := (HM.out.below.cell (World.block_lt_of_cell? w _ hx1)).trans hx1
      replace hx2 := (HM.out.below.cell (World.block_lt_of_cell? w _ hx2)).trans hx2
      replace hx3 := (HM.out.below.cell (World.block_lt_of_cell? w _ hx3)).trans hx3
      have hll : x < (left.length : Int) := by rw [HLA.out.1]; exact hlt
      obtain ⟨gL, cp, eL, _⟩ := Kd.R_form HM.out.left (by omega)
      injection eL with e1 e2 e3
      subst e1; clear e2 e3
      have HM10 := Aside0.mk (HM.out.step (below_alloc (Below.refl wr.heap.size wr) (.cells #[.int .i64 (rd_T45 l0 x).f0, .int .i64 (rd_T45 l0 x).f1, .int .i64 (rd_T45 l0 x).f2, .int .i64 (rd_T45 l0 x).f3] 45 (0, 0))))
      have hd8 := HM10.out.c8
      obtain ⟨hxL, hfL⟩ := Kd.R_celln 0 HM10.out.left x h0 (by omega)
      have EW : Aside0 (wrap64 (x + 1) = x + 1) := ⟨by have := HN0.out; unfold wrap64; omega⟩
      clear hlt hll
      replace h0 := eq_true h0
      go_wp2_with (first
        | ((with_reducible refine gate_store (t := 3) (p := 43) rfl ?_); refine store_event (t := 3) (p := 43) (v := ?vo_w11) (w1 := (wr.alloc (.cells #[.int .i64 (rd_T45 l0 x).f0, .int .i64 (rd_T45 l0 x).f1, .int .i64 (rd_T45 l0 x).f2, .int .i64 (rd_T45 l0 x).f3] 45 (0, 0))).setCell ⟨gL, x.toNat, none⟩ (.int .i64 (rd_T45 l0 x).f3)) ?hg ?ho ?hn ?hr ?_; (case ho => rfl); (case hg => rfl); (case hn => rfl); (case hr => first | (go_simp; done) | (go_simp; rfl)); intro w11 hw; have HM11 := Aside0.mk (show MW _ _ _ _ _ _ _ _ _ _ _ w11 by rw [hw]; exact HM10.out.putLeft x (rd_T45 l0 x).f3); clear hw))
      go_roundg (l0.length - (x + 1).toNat)
      case measure => have := HK.out; have := HL.out; omega
      case rel => exact ⟨wrap64 (x + 1), _, rfl, by rw [EW.out]; exact ⟨by have := HK.out; have := HL.out; have := H0.out; omega, by have := H0.out; omega⟩, by rw [EW.out]; exact ⟨leftAt_step HLA.out H0.out⟩, HM11⟩
    · have c0b : decide (x < (l0.length : Int)) = false := decide_eq_false hlt
      have HLE : Aside0 (left = (l0.map toJ).map Sh.Job.min) := ⟨leftAt_done HLA.out (by omega)⟩
      clear hlt HLA HK
      go_wp2
      go_step3
      go_wp2
      go_loopg [12, 48] l1.length (fun kq v12 v48 wr => ∃ (y : Int) (left : List Int) (out : List (S51)), v48 = .int .i64 y ∧ Aside0 ((kq : Int) + y = l1.length ∧ 0 ≤ y) ∧ Aside0 (Sh.OInv (l0.map toJ) (l1.map toS) y.toNat left (out.map toL)) ∧ Aside0 (MW w g2 g8 A0 l0.length c0 (.slice AL l0.length cL) left v12 out [] wr))
      case atStart => exact ⟨0, left, [], rfl, ⟨by simp⟩, ⟨by rw [HLE.out]; exact Sh.OInv.start HBJ.out.vj HBS.out.vs⟩, HM⟩
      case round =>
        clear HM HLE
        obtain ⟨y, left2, out, rfl, HK2, HO, HM2⟩ := hrel
        by_cases hlt : y < (l1.length : Int)
        · have c1b : decide (y < (l1.length : Int)) = true := decide_eq_true hlt
          have h0 : 0 ≤ y := HK2.out.2
          have HL := Aside0.mk hlt
          have H0 := Aside0.mk h0
          obtain ⟨ad, ea, hs0, hs1⟩ := at_T47 HR1.out y h0 hlt
          have q0 := eq_true hlt
          cases ea
          replace hs0 := (HM2.out.below.cell (World.block_lt_of_cell? w _ hs0)).trans hs0
          replace hs1 := (HM2.out.below.cell (World.block_lt_of_cell? w _ hs1)).trans hs1
          have EW : Aside0 (wrap64 (y + 1) = y + 1) := ⟨by have := HN1.out; unfold wrap64; omega⟩
          have HMI := Aside0.mk (make_enter HBJ.out.vj HBS.out.vs h0 hlt HO.out)
          obtain ⟨AO, cO, eO⟩ := Kd.R_slice HM2.out.out
          subst eO
          clear hlt
          replace h0 := eq_true h0
          go_wp2
          have HM14 := Aside0.mk ((HM2.out.step (below_alloc (Below.refl wr.heap.size wr) (.cells #[.int .i64 (rd_T47 l1 y).f0, .int .i64 (rd_T47 l1 y).f1] 47 (0, 0)))).see (blk_new wr (.cells #[.int .i64 (rd_T47 l1 y).f0, .int .i64 (rd_T47 l1 y).f1] 47 (0, 0))))
          generalize hg14 : wr.heap.size = g14 at HM14 ⊢
          generalize hw14 : (wr.alloc (.cells #[.int .i64 (rd_T47 l1 y).f0, .int .i64 (rd_T47 l1 y).f1] 47 (0, 0))) = w14 at HM14 ⊢
          generalize hfi : ((out.length : Nat) : Int) = fi
          have HFI := Aside0.mk hfi
          clear hg14 hw14 hfi hs0 hs1 HM2 HO
          go_loopg [12, 16] ((rd_T47 l1 y).f1 - (rd_T47 l1 y).f0).toNat (fun kq v12 v16 wr => ∃ (t : Int) (left : List Int) (out1 : List (S51)), v16 = .int .i64 t ∧ Aside0 (kq = ((rd_T47 l1 y).f1 - t).toNat) ∧
            Aside0 (Sh.MInv (l0.map toJ) (l1.map toS) (toS (rd_T47 l1 y)) t left out.length (out1.map toL)) ∧ Aside0 (MW w g2 g8 A0 l0.length c0 (.slice AL l0.length cL) left v12 out1 [(g14, #[.int .i64 (rd_T47 l1 y).f0, .int .i64 (rd_T47 l1 y).f1])] wr))
          case atStart => exact ⟨(rd_T47 l1 y).f0, left2, out, rfl, ⟨rfl⟩, HMI, HM14⟩
          case round =>
            clear HM14 HMI
            obtain ⟨t, left3, out1, rfl, HK3, HI, HM3⟩ := hrel
            have hb1 : wr.cell? ⟨g14, 1, none⟩ = some (.int .i64 (rd_T47 l1 y).f1) := (blk_cell (HM3.out.bx g14 #[.int .i64 (rd_T47 l1 y).f0, .int .i64 (rd_T47 l1 y).f1] (by simp)) 1).trans rfl
            obtain ⟨AO, cO, eO⟩ := Kd.R_slice HM3.out.out
            subst eO
            by_cases ht : t < (rd_T47 l1 y).f1
            · have d0 : decide (t < (rd_T47 l1 y).f1) = true := decide_eq_true ht
              have HTT := Aside0.mk ht
              clear ht
              have hll : left3.length = l0.length := by have := HI.out.len; simpa using this
              have HLL := Aside0.mk hll
              have HRUN := Aside0.mk (runs_any t (rd_T47 l1 y).f1 g2 g8 A0 c0 l0 AL cL left3 wr HM3.out.c2 (by rw [hll]; exact HM3.out.c8) (Kd.C_below HR0.out HM3.out.below) (Kd.R_reads' HM3.out.left).2.2 hll HBJ.out.vj)
              clear hll
              go_wp2_with fail
              refine HRUN.out.mono ?_
              rintro e w10 ⟨b, n, rfl, hT, hb⟩
              have HT := Aside0.mk hT
              have HM10 := Aside0.mk (HM3.out.step hb)
              have hb1' : w10.cell? ⟨g14, 1, none⟩ = some (.int .i64 (rd_T47 l1 y).f1) := (blk_cell (HM10.out.bx g14 #[.int .i64 (rd_T47 l1 y).f0, .int .i64 (rd_T47 l1 y).f1] (by simp)) 1).trans rfl
              clear hb hT HRUN HM3 hb1
              by_cases cb : b < 0
              · have HMI := Aside0.mk (HI.out.wait HBJ.out.vj HBS.out.vs HTT.out HT.out cb)
                have HLT := Aside0.mk (HT.out.lt HTT.out)
                have HLE := Aside0.mk (HT.out.le)
                have d1 : decide (b < 0) = true := decide_eq_true cb
                have d2 : decide (0 ≤ b) = false := decide_eq_false (by omega)
                clear cb
                by_cases cn : n = (rd_T47 l1 y).f1
                · have d3 : (n == (rd_T47 l1 y).f1) = true := beq_iff_eq.mpr cn
                  have CN := Aside0.mk cn
                  clear cn
                  go_wp2
                  go_roundg (l1.length - (y + 1).toNat)
                  case measure => have := HK2.out; have := HL.out; omega
                  case rel => exact ⟨wrap64 (y + 1), left3, out1, rfl, by rw [EW.out]; exact ⟨by have := HK2.out; have := HL.out; have := H0.out; omega, by have := H0.out; omega⟩, by rw [EW.out]; exact ⟨make_leave H0.out HL.out CN.out HMI.out⟩, ⟨HM10.out.forget⟩⟩
                · have d3 : (n == (rd_T47 l1 y).f1) = false := beq_eq_false_iff_ne.mpr cn
                  clear cn
                  go_wp2
                  go_roundg ((rd_T47 l1 y).f1 - n).toNat
                  case measure => have := HK3.out; have := HLT.out; have := HTT.out; omega
                  case rel => exact ⟨n, left3, out1, rfl, ⟨rfl⟩, HMI, HM10⟩
              · obtain ⟨h0b, hb0, hbl⟩ := told_ge HT.out cb
                have HB0 := Aside0.mk h0b
                have HBL0 := Aside0.mk hb0
                have HBL := Aside0.mk hbl
                have d1 : decide (b < 0) = false := decide_eq_false cb
                have d2 : decide (0 ≤ b) = true := decide_eq_true (by omega)
                have hd8 := HM10.out.c8
                obtain ⟨gL, cp, eL, _⟩ := Kd.R_form HM10.out.left (by omega)
                injection eL with e1 e2 e3
                subst e1; clear e2 e3
                obtain ⟨hxL0, hfL⟩ := Kd.R_celln 0 HM10.out.left b h0b (by rw [← HLL.out]; exact hbl)
                have hxL : w10.cell? ⟨gL, b.toNat, none⟩ = some (.int .i64 (rd left3 b)) := hxL0
                obtain ⟨n1, hn1⟩ : ∃ j_ : Int, wrap64 (t + rd left3 b) = j_ := ⟨_, rfl⟩
                have hn1w : IntKind.i64.wrap (t + rd left3 b) = n1 := (i64_w _).trans hn1
                obtain ⟨n', hn'⟩ : ∃ j_ : Int, (if n1 < n then n1 else n) = j_ := ⟨_, rfl⟩
                have HN1V := Aside0.mk hn1
                have HN2V := Aside0.mk hn'
                obtain ⟨ab, eb, hy0, hy1, hy2, hy3⟩ := at_T45 HR0.out b h0b hb0
                cases eb
                replace hy0 := (HM10.out.below.cell (World.block_lt_of_cell? w _ hy0)).trans hy0
                have HPL := Aside0.mk (HM10.out.putLeft b (wrap64 (rd left3 b - wrap64 (n' - t))))
                replace h0b := eq_true h0b
                replace hb0 := eq_true hb0
                replace hbl := eq_true hbl
                clear cb hy1 hy2 hy3 hxL0
                go_wp2_with fail
                generalize w10.setCell ⟨gL, b.toNat, none⟩ (.int .i64 (wrap64 (rd left3 b - wrap64 (n' - t)))) = w11 at HPL ⊢
                have hd2 := HPL.out.c2
                obtain ⟨ab', eb, hz0, _, _, _⟩ := at_T45 HR0.out b HB0.out HBL0.out
                injection eb with eb; subst eb
                replace hz0 := (HPL.out.below.cell (World.block_lt_of_cell? w _ hz0)).trans hz0
                clear hy0 hd8 hxL hfL
                have HLEN := Aside0.mk (make_len HBJ.out HN0.out HI.out)
                have HLT : Aside0 (t < n' ∧ n' ≤ (rd_T47 l1 y).f1) := ⟨make_lt HBJ.out HBS.out HI.out HT.out HB0.out HBL0.out HBL.out HN1V.out HN2V.out HTT.out⟩
                by_cases g1 : fi < (out1.length : Int)
                · have f1 : decide (fi < (out1.length : Int)) = true := decide_eq_true g1
                  have hpos : 0 < out1.length := by have := HFI.out; omega
                  obtain ⟨j, hj⟩ : ∃ j_ : Int, wrap64 ((out1.length : Int) - 1) = j_ := ⟨_, rfl⟩
                  have hjw : IntKind.i64.wrap ((out1.length : Int) - 1) = j := (i64_w _).trans hj
                  have hje : j = (out1.length : Int) - 1 := by rw [← hj]; have := HLEN.out; unfold wrap64; omega
                  have HJE := Aside0.mk hje
                  have HG1 : Aside0 ((out.length : Int) < out1.length) := ⟨by have := HFI.out; omega⟩
                  have hj0 : 0 ≤ j := by omega
                  have hj1 : j < (out1.length : Int) := by omega
                  obtain ⟨gO, cp2, eO, _⟩ := Kd.R_form HPL.out.out hpos
                  injection eO with e1 e2 e3
                  subst e1; clear e2 e3
                  obtain ⟨hP, hcj, hct, hfr⟩ := HPL.out.putTo j hj0 hj1 n'
                  have HP := Aside0.mk hP
                  replace hj0 := eq_true hj0
                  replace hj1 := eq_true hj1
                  clear hpos hje g1 hP
                  by_cases g2 : (rd_T51 out1 j).f0 = (rd_T45 l0 b).f0
                  · have f2 : ((rd_T51 out1 j).f0 == (rd_T45 l0 b).f0) = true := beq_iff_eq.mpr g2
                    have G2 := Aside0.mk g2
                    by_cases g3 : (rd_T51 out1 j).f2 = t
                    · have f3 : ((rd_T51 out1 j).f2 == t) = true := beq_iff_eq.mpr g3
                      have HMI := Aside0.mk (make_grow HBJ.out HBS.out HI.out HT.out HB0.out HBL0.out HBL.out HN1V.out HN2V.out HTT.out HG1.out (by rw [← HJE.out]; exact g2) (by rw [← HJE.out]; exact g3))
                      rw [← HJE.out] at HMI
                      clear g2 g3
                      go_quiet (fail)
                      go_wp2
                      go_roundg ((rd_T47 l1 y).f1 - n').toNat
                      case measure => have := HK3.out; have := HLT.out; have := HTT.out; omega
                      case rel => exact ⟨n', _, _, rfl, ⟨rfl⟩, HMI, by first | exact HP | exact ⟨HP.out.step (pw_below_drewN (Below.refl _ _) _)⟩⟩
                    · have f3 : ((rd_T51 out1 j).f2 == t) = false := beq_eq_false_iff_ne.mpr g3
                      have HMI := Aside0.mk (make_snoc HBJ.out HBS.out HI.out HT.out HB0.out HBL0.out HBL.out HN1V.out HN2V.out HTT.out (.inr (.inr (by rw [← HJE.out]; exact g3))))
                      clear g2 g3
                      go_quiet (fail)
                      go_wp2_with (first
                        | (at_builtin; refine MW.append (HPL.out.step (pw_below_drewN (Below.refl _ _) _)) rfl (.tmp 130) (.tmp 139) rfl (⟨(rd_T45 l0 b).f0, t, n'⟩ : S51) rfl rfl (by have := HLEN.out; omega) ?_; intro v12 w12 hm12; have HM12 := Aside0.mk hm12; clear hm12))
                      go_roundg ((rd_T47 l1 y).f1 - n').toNat
                      case measure => have := HK3.out; have := HLT.out; have := HTT.out; omega
                      case rel => exact ⟨n', _, _, rfl, ⟨rfl⟩, HMI, HM12⟩
                  · have f2 : ((rd_T51 out1 j).f0 == (rd_T45 l0 b).f0) = false := beq_eq_false_iff_ne.mpr g2
                    have HMI := Aside0.mk (make_snoc HBJ.out HBS.out HI.out HT.out HB0.out HBL0.out HBL.out HN1V.out HN2V.out HTT.out (.inr (.inl (by rw [← HJE.out]; exact g2))))
                    clear g2
                    go_quiet (fail)
                    go_wp2_with (first
                      | (at_builtin; refine MW.append (HPL.out.step (pw_below_drewN (Below.refl _ _) _)) rfl (.tmp 130) (.tmp 139) rfl (⟨(rd_T45 l0 b).f0, t, n'⟩ : S51) rfl rfl (by have := HLEN.out; omega) ?_; intro v12 w12 hm12; have HM12 := Aside0.mk hm12; clear hm12))
                    go_roundg ((rd_T47 l1 y).f1 - n').toNat
                    case measure => have := HK3.out; have := HLT.out; have := HTT.out; omega
                    case rel => exact ⟨n', _, _, rfl, ⟨rfl⟩, HMI, HM12⟩
                · have f1 : decide (fi < (out1.length : Int)) = false := decide_eq_false g1
                  have HMI := Aside0.mk (make_snoc HBJ.out HBS.out HI.out HT.out HB0.out HBL0.out HBL.out HN1V.out HN2V.out HTT.out (.inl (by have := HFI.out; omega)))
                  clear g1
                  go_quiet (fail)
                  go_wp2_with (first
                    | (at_builtin; refine MW.append (HPL.out.step (pw_below_drewN (Below.refl _ _) _)) rfl (.tmp 130) (.tmp 139) rfl (⟨(rd_T45 l0 b).f0, t, n'⟩ : S51) rfl rfl (by have := HLEN.out; omega) ?_; intro v12 w12 hm12; have HM12 := Aside0.mk hm12; clear hm12))
                  go_roundg ((rd_T47 l1 y).f1 - n').toNat
                  case measure => have := HK3.out; have := HLT.out; have := HTT.out; omega
                  case rel => exact ⟨n', _, _, rfl, ⟨rfl⟩, HMI, HM12⟩
            · have d0 : decide (t < (rd_T47 l1 y).f1) = false := decide_eq_false ht
              have HTE : Aside0 (t = (rd_T47 l1 y).f1) := ⟨by have := HI.out.at1; simp only [toS] at this; omega⟩
              clear ht
              go_wp2
              go_roundg (l1.length - (y + 1).toNat)
              case measure => have := HK2.out; have := HL.out; omega
              case rel => exact ⟨wrap64 (y + 1), left3, out1, rfl, by rw [EW.out]; exact ⟨by have := HK2.out; have := HL.out; have := H0.out; omega, by have := H0.out; omega⟩, by rw [EW.out]; exact ⟨make_leave H0.out HL.out HTE.out HI.out⟩, ⟨HM3.out.forget⟩⟩
        · have c1b : decide (y < (l1.length : Int)) = false := decide_eq_false hlt
          have HYE : Aside0 (y.toNat = (l1.map toS).length) := ⟨by have := HK2.out; simp; omega⟩
          clear hlt
          go_wp2
          (try rw [Exit.noGoto_ret])
          go_ret2
          exact ⟨_, out, rfl, HM2.out.out, by have := HO.out; rw [HYE.out] at this; exact this.done HBS.out.vs, HM2.out.below⟩
theorem ofL_toL (l : List (S51)) : (l.map toL).map ofL = l := by
  rw [List.map_map]
  conv => rhs; rw [← List.map_id l]
  apply List.map_congr_left
  intro x _
  rfl
theorem shift_Make.calls (A0 : Option Addr) (c0 : Nat) (l0 : List (S45)) (A1 : Option Addr) (c1 : Nat) (l1 : List (S47)) (r1 : List (S51)) (r2 : Int) (w : World) (hr0 : Kd.C k45 w A0 l0.length l0) (hc0 : l0.length ≤ c0) (hr1 : Kd.C k47 w A1 l1.length l1) (hc1 : l1.length ≤ c1) (h : shift_Make.f l0 l1 = some (r1, r2)) :
    Calls Try.prog 12 #[.slice A0 l0.length c0, .slice A1 l1.length c1] w fun e w' => ∃ v0_ : Value, e = .returned (.tuple #[v0_, .int .i64 r2]) ∧ Kd.R k51 51 w' w.heap.size (fun _ => True) v0_ r1 ∧ Below w.heap.size w w' := by
  unfold shift_Make.f at h
  by_cases hw : wf45 l0 = true
  · rw [if_pos hw] at h
    by_cases hv : (Sh.validX (l0.map toJ) (l1.map toS)).2 = 0
    · rw [if_pos hv] at h
      have h := Option.some.inj h
      injection h with h1 h2
      obtain ⟨hBJ, hBS, hn0, hn1⟩ := Sh.validX_ok hv
      have hv' := Sh.validX_of hBJ hBS hn0 hn1
      refine (make_ok A0 c0 l0 A1 c1 l1 w hr0 hc0 hr1 hc1 hw hv').mono ?_
      rintro e w' ⟨v0, out, he, hR, hM, hb⟩
      have := hM.eq hBJ.vj hBS.vs
      have ho : out = r1 := by rw [← h1, ← this, ofL_toL]
      subst ho
      exact ⟨v0, by rw [he, ← h2], hR, hb⟩
    · rw [if_neg hv] at h
      have h := Option.some.inj h
      injection h with h1 h2
      refine (make_bad A0 c0 l0 A1 c1 l1 w hr0 hc0 hr1 hc1 hw (Sh.validX (l0.map toJ) (l1.map toS)).1 (Sh.validX (l0.map toJ) (l1.map toS)).2 rfl hv).mono ?_
      rintro e w' ⟨he, hb⟩
      subst h1
      exact ⟨.slice none 0 0, by rw [he, ← h2], Kd.R_nil _ _ _ _ _, hb⟩
  · rw [if_neg hw] at h
    cases h
end Go.Proofs.Ytbnjdlafnejanaa.Pr
