/- CivilSmall: for every input (it has none) the law returns true; the package variable civil.ahead is as the program's text lays it: the given tie, no condition of this session's. (Joined by a program of this session, civpack.py: the kit's printed words, printed walks, the plain law, the row and its card.) -/
import Derived.Test.YtehnhedifhpalaaDoorSma0
import Derived.Test.YtehnhedifhpalaaDoorProg
import Derived.Below
import Derived.Deep.Draws
import Derived.Deep.AppendLies
import Derived.Maps.AppendAt
import Derived.OwnWalk
import Derived.Laws.BytesArg
import Derived.Laws.MakeOwn
import Derived.Laws.OwnMore
import Derived.Deep.OwnRows
import Derived.Tactics
import Derived.Lib.ConvBytes
import Derived.Laws.Slices
import Derived.WalkKit
import Derived.KernelRfl
import Derived.RowKit3
import Derived.Deep.LoopGhost
import Derived.Deep.QuietTactic
import Derived.BigQuiet
import Derived.WideLaws
import Derived.Deep.DeepCutAuto
import Derived.Deep.CutBlock
import Derived.Deep.RegionHeld3
import Derived.Laws.Rows
import Derived.Lib.AppendStr
import Derived.ArgAppend
import Derived.Laws.IdiomCopy
import Derived.OrdersHeld
import Derived.Laws.BitsLemmas
import Derived.RowKit
import Derived.Lib.SlBytesConst
set_option linter.unusedVariables false
set_option linter.unusedSimpArgs false
namespace Go.Proofs.YtehnhedifhpalaaDoor.Cp
open Go.RowKit Go.Proofs.YtehnhedifhpalaaDoorW.PrintWords Go.Proofs.YtehnhedifhpalaaDoorW.PrintLast Go.Proofs.YtehnhedifhpalaaDoorW.PrintMore
attribute [local go_sem] max2_int min2_int max_two min_two max_three min_three max_four min_four   -- for this text's walks alone
set_option linter.unusedVariables false
set_option linter.unusedSimpArgs false
def errW : Option Int → Value
 | none => .nilIface
 | some c => .iface 0 (.int .i64 c)
theorem errW_none : errW none = .nilIface := rfl
theorem errW_some (c : Int) : errW (some c) = .iface 0 (.int .i64 c) := rfl
theorem info3 : (Tryd.prog.info? 3).map (fun i => (i.zero, i.size, i.bytes)) = some (some (.int .i64 0), 1, 8) := by kernel_rfl
def rd_L2 (xs : List (List Int)) (i : Int) : (List Int) := xs.getD i.toNat ([] : List Int)
theorem at_L2 {w : World} {A : Option Addr} {n : Nat} {xs : List (List Int)} (h : Kd.C (Kd.slice 3 (Kd.int .i64)) w A n xs) (i : Int) (h0 : 0 ≤ i) (h1 : i < n) : ∃ ad A0 c0, A = some ad ∧ w.cell? (ad.add i.toNat) = some (.slice A0 (rd_L2 xs i).length c0) ∧ (rd_L2 xs i).length ≤ c0 ∧ (Kd.int .i64).C w A0 (rd_L2 xs i).length (rd_L2 xs i) := by
 obtain ⟨ad, c, e, _, hK, hc0⟩ := Kd.C_get h ([] : List Int) i h0 h1
 have hc : ∀ j u, c[j]? = some u → w.cell? (ad.add (i.toNat * 1 + j)) = some u := hc0
 obtain ⟨A0, c0, rfl, l0, g0⟩ := hK
 exact ⟨ad, A0, c0, e, by have hq := hc 0 _ rfl; rwa [Nat.mul_one, Nat.add_zero] at hq, l0, g0⟩
end Go.Proofs.YtehnhedifhpalaaDoor.Cp
set_option linter.unusedVariables false
set_option linter.unusedSimpArgs false
namespace Go.Proofs.YtehnhedifhpalaaDoor.Cv
/-- How many of the n numbers from a on have p. -/
def cntN (p : Int → Bool) (a : Int) : Nat → Nat
  | 0 => 0
  | n + 1 => cntN p a n + if p (a + n) then 1 else 0
/-- How many numbers from a on, less than b, have p. -/
def cnt (p : Int → Bool) (a b : Int) : Int := (cntN p a (b - a).toNat : Int)
theorem cnt_nil (p : Int → Bool) {a b : Int} (h : b ≤ a) : cnt p a b = 0 := by
  unfold cnt
  rw [show (b - a).toNat = 0 by omega]
  rfl
theorem cnt_succ (p : Int → Bool) {a b : Int} (h : a ≤ b) : cnt p a (b + 1) = cnt p a b + if p b then 1 else 0 := by
  unfold cnt
  rw [show (b + 1 - a).toNat = (b - a).toNat + 1 by omega]
  simp only [cntN]
  rw [show a + ((b - a).toNat : Int) = b by omega]
  split <;> simp
/-- Induction over intervals. -/
theorem ivl_ind {P : Int → Prop} (a : Int) (h0 : P a) (hs : ∀ b, a ≤ b → P b → P (b + 1)) : ∀ b, a ≤ b → P b := by
  intro b hb
  obtain ⟨n, rfl⟩ : ∃ n : Nat, b = a + n := ⟨(b - a).toNat, by omega⟩
  clear hb
  induction n with
  | zero => simpa using h0
  | succ n ih =>
    have := hs (a + n) (by omega) ih
    rwa [show a + ((n + 1 : Nat) : Int) = a + n + 1 by omega]
theorem cnt_nonneg (p : Int → Bool) (a b : Int) : 0 ≤ cnt p a b := by unfold cnt; omega
theorem cnt_split (p : Int → Bool) {a b : Int} (h : a ≤ b) : ∀ c, b ≤ c → cnt p a c = cnt p a b + cnt p b c := by
  apply ivl_ind
  · rw [cnt_nil p (Int.le_refl b)]; omega
  · intro c hc ih
    rw [cnt_succ p (by omega), cnt_succ p hc, ih]; omega
theorem cnt_congr {p q : Int → Bool} {a : Int} : ∀ b, a ≤ b → (∀ t, a ≤ t → t < b → p t = q t) → cnt p a b = cnt q a b := by
  apply ivl_ind
  · intro _; rw [cnt_nil p (Int.le_refl a), cnt_nil q (Int.le_refl a)]
  · intro b hb ih h
    rw [cnt_succ p hb, cnt_succ q hb, ih (fun t h1 h2 => h t h1 (by omega)), h b hb (by omega)]
theorem cnt_le_of {p q : Int → Bool} {a : Int} : ∀ b, a ≤ b → (∀ t, a ≤ t → t < b → p t = true → q t = true) → cnt p a b ≤ cnt q a b := by
  apply ivl_ind
  · intro _; rw [cnt_nil p (Int.le_refl a), cnt_nil q (Int.le_refl a)]; exact Int.le_refl _
  · intro b hb ih h
    rw [cnt_succ p hb, cnt_succ q hb]
    have h1 := ih (fun t h1 h2 => h t h1 (by omega))
    have h2 := h b hb (by omega)
    cases hp : p b <;> cases hq : q b <;> simp_all <;> omega
theorem cnt_true {p : Int → Bool} {a : Int} : ∀ b, a ≤ b → (∀ t, a ≤ t → t < b → p t = true) → cnt p a b = b - a := by
  apply ivl_ind
  · intro _; rw [cnt_nil p (Int.le_refl a)]; omega
  · intro b hb ih h
    rw [cnt_succ p hb, ih (fun t h1 h2 => h t h1 (by omega)), h b hb (by omega)]; simp; omega
theorem cnt_le_len (p : Int → Bool) {a b : Int} (h : a ≤ b) : cnt p a b ≤ b - a := by
  have := cnt_le_of (p := p) (q := fun _ => true) b h (fun _ _ _ _ => rfl)
  rw [cnt_true (p := fun _ => true) b h (fun _ _ _ => rfl)] at this
  exact this
theorem cnt_mono_right (p : Int → Bool) {a b c : Int} (h : b ≤ c) : cnt p a b ≤ cnt p a c := by
  by_cases hab : a ≤ b
  · rw [cnt_split p hab c h]; have := cnt_nonneg p b c; omega
  · rw [cnt_nil p (by omega)]; exact cnt_nonneg p a c
theorem cnt_pos_of {p : Int → Bool} {a b t : Int} (h1 : a ≤ t) (h2 : t < b) (h3 : p t = true) : 0 < cnt p a b := by
  rw [cnt_split p (b := t) h1 b (by omega), cnt_split p (a := t) (b := t + 1) (by omega) b (by omega), cnt_succ p (Int.le_refl t), cnt_nil p (Int.le_refl t)]
  have := cnt_nonneg p a t
  have := cnt_nonneg p (t + 1) b
  simp [h3]; omega
end Go.Proofs.YtehnhedifhpalaaDoor.Cv
namespace Go.Proofs.YtehnhedifhpalaaDoor.Cv
def leap (y : Int) : Prop := y % 4 = 0 ∧ (y % 100 ≠ 0 ∨ y % 400 = 0)
instance (y : Int) : Decidable (leap y) := by unfold leap; infer_instance
/-- 1 in a leap year, else 0. -/
def lp (y : Int) : Int := if leap y then 1 else 0
theorem lp_01 (y : Int) : 0 ≤ lp y ∧ lp y ≤ 1 := by unfold lp; split <;> omega
/-- Days ahead of a year, counted from 2001 on. -/
def ys (y : Int) : Int := 365 * (y - 1) + (y - 1) / 4 - (y - 1) / 100 + (y - 1) / 400 - 730485
theorem ys_succ (y : Int) : ys (y + 1) = ys y + 365 + lp y := by
  unfold lp
  by_cases h : leap y
  · rw [if_pos h]; unfold leap at h; unfold ys; omega
  · rw [if_neg h]; unfold leap at h; unfold ys; omega
theorem ys_2001 : ys 2001 = 0 := by decide
theorem ys_4001 : ys 4001 = 730485 := by decide
theorem ys_mono {a b : Int} (h : a ≤ b) : ys a + 365 * (b - a) ≤ ys b := by
  obtain ⟨n, rfl⟩ : ∃ n : Nat, b = a + n := ⟨(b - a).toNat, by omega⟩
  clear h
  induction n with
  | zero => simp
  | succ n ih =>
    have h1 := ys_succ (a + n)
    have h2 := (lp_01 (a + n)).1
    rw [show a + ((n + 1 : Nat) : Int) = a + n + 1 by omega]
    omega
/-- Days of a year without a leap day ahead of a month (1 to 13). -/
def ah (m : Int) : Int := [0, 31, 59, 90, 120, 151, 181, 212, 243, 273, 304, 334, 365].getD (m - 1).toNat 0
/-- Days of a year ahead of a month. -/
def fst (y m : Int) : Int := ah m + if 2 < m then lp y else 0
/-- How many days a month has. -/
def mlen (y m : Int) : Int := fst y (m + 1) - fst y m
theorem month_cases {m : Int} (h1 : 1 ≤ m) (h2 : m ≤ 12) : m = 1 ∨ m = 2 ∨ m = 3 ∨ m = 4 ∨ m = 5 ∨ m = 6 ∨ m = 7 ∨ m = 8 ∨ m = 9 ∨ m = 10 ∨ m = 11 ∨ m = 12 := by omega
theorem mlen_bd (y : Int) {m : Int} (h1 : 1 ≤ m) (h2 : m ≤ 12) : 28 ≤ mlen y m ∧ mlen y m ≤ 31 := by
  have := lp_01 y
  rcases month_cases h1 h2 with rfl | rfl | rfl | rfl | rfl | rfl | rfl | rfl | rfl | rfl | rfl | rfl <;>
    simp [mlen, fst, ah] <;> omega
theorem fst_1 (y : Int) : fst y 1 = 0 := by simp [fst, ah]
theorem fst_13 (y : Int) : fst y 13 = 365 + lp y := by simp [fst, ah]
theorem fst_bd (y : Int) {m : Int} (h1 : 1 ≤ m) (h2 : m ≤ 13) : 0 ≤ fst y m ∧ fst y m ≤ 366 := by
  have := lp_01 y
  rcases (show m = 13 ∨ m ≤ 12 by omega) with rfl | h3
  · rw [fst_13]; omega
  · rcases month_cases h1 h3 with rfl | rfl | rfl | rfl | rfl | rfl | rfl | rfl | rfl | rfl | rfl | rfl <;>
      simp [fst, ah] <;> omega
theorem fst_succ (y m : Int) : fst y (m + 1) = fst y m + mlen y m := by unfold mlen; omega
theorem fst_mono (y : Int) {a b : Int} (h1 : 1 ≤ a) (hab : a ≤ b) (h2 : b ≤ 13) : fst y a ≤ fst y b := by
  obtain ⟨n, rfl⟩ : ∃ n : Nat, b = a + n := ⟨(b - a).toNat, by omega⟩
  clear hab
  induction n with
  | zero => simp
  | succ n ih =>
    have h3 := ih (by omega)
    have h4 := fst_succ y (a + n)
    have h5 := (mlen_bd y (m := a + n) (by omega) (by omega)).1
    rw [show a + ((n + 1 : Nat) : Int) = a + n + 1 by omega]
    omega
/-- Three numbers are a date. -/
structure IsDate (y m d : Int) : Prop where
  y1 : 2001 ≤ y
  y2 : y ≤ 4000
  m1 : 1 ≤ m
  m2 : m ≤ 12
  d1 : 1 ≤ d
  d2 : d ≤ mlen y m
instance (y m d : Int) : Decidable (IsDate y m d) :=
  decidable_of_iff (2001 ≤ y ∧ y ≤ 4000 ∧ 1 ≤ m ∧ m ≤ 12 ∧ 1 ≤ d ∧ d ≤ mlen y m)
    ⟨fun ⟨a, b, c, e, f, g⟩ => ⟨a, b, c, e, f, g⟩, fun h => ⟨h.y1, h.y2, h.m1, h.m2, h.d1, h.d2⟩⟩
/-- The day of a date. -/
def dayOf (y m d : Int) : Int := ys y + fst y m + d - 1
theorem dayOf_bd {y m d : Int} (h : IsDate y m d) : ys y ≤ dayOf y m d ∧ dayOf y m d < ys (y + 1) ∧ 0 ≤ dayOf y m d ∧ dayOf y m d ≤ 730484 := by
  have e1 := ys_mono h.y1
  have e2 := ys_mono (show y + 1 ≤ 4001 by have := h.y2; omega)
  rw [ys_2001] at e1
  rw [ys_4001] at e2
  have e3 := ys_succ y
  have e4 := fst_succ y m
  have e5 := fst_mono y (a := m + 1) (b := 13) (by have := h.m1; omega) (by have := h.m2; omega) (by omega)
  have e6 := fst_13 y
  have e7 := (fst_bd y h.m1 (by have := h.m2; omega)).1
  have := h.d1; have := h.d2; have := h.y1; have := h.y2
  unfold dayOf
  omega
/-- A day has one date. -/
theorem dayOf_inj {y m d z n e : Int} (h : IsDate y m d) (h' : IsDate z n e) (he : dayOf y m d = dayOf z n e) : y = z ∧ m = n ∧ d = e := by
  have b1 := dayOf_bd h
  have b2 := dayOf_bd h'
  have hy : y = z := by
    rcases Int.lt_trichotomy y z with h1 | h1 | h1
    · have := ys_mono (show y + 1 ≤ z by omega); omega
    · exact h1
    · have := ys_mono (show z + 1 ≤ y by omega); omega
  subst hy
  have hm : m = n := by
    have := h.m1; have := h.m2; have := h'.m1; have := h'.m2
    have := h.d1; have := h.d2; have := h'.d1; have := h'.d2
    have s1 := fst_succ y m
    have s2 := fst_succ y n
    unfold dayOf at he
    rcases Int.lt_trichotomy m n with h1 | h1 | h1
    · have := fst_mono y (a := m + 1) (b := n) (by omega) (by omega) (by omega); omega
    · exact h1
    · have := fst_mono y (a := n + 1) (b := m) (by omega) (by omega) (by omega); omega
  subst hm
  unfold dayOf at he
  omega
/-- Years: by cycles of 400, 100, 4 years, and one year. -/
theorem year_of {day q r h s f t o u : Int} (hq : day = 146097 * q + r) (hr0 : 0 ≤ r) (hr : r < 146097)
    (hh : h = min (r / 36524) 3) (hs : s = r - h * 36524) (hf : f = s / 1461) (ht : t = s - f * 1461) (ho : o = min (t / 365) 3) (hu : u = t - o * 365) :
    ys (2001 + 400 * q + (100 * h + 4 * f + o)) + u = day ∧ 0 ≤ u ∧ u < 365 + lp (2001 + 400 * q + (100 * h + 4 * f + o)) := by
  have h1 : 0 ≤ h ∧ h ≤ 3 := by omega
  have h2 : 0 ≤ s ∧ s ≤ 36524 ∧ (h < 3 → s < 36524) := by omega
  have h3 : 0 ≤ f ∧ f ≤ 24 := by omega
  have h4 : 0 ≤ t ∧ t < 1461 := by omega
  have h5 : 0 ≤ o ∧ o ≤ 3 := by omega
  have h6 : 0 ≤ u ∧ u ≤ 365 ∧ (o < 3 → u < 365) := by omega
  have hy : ys (2001 + 400 * q + (100 * h + 4 * f + o)) = 146097 * q + 36524 * h + 1461 * f + 365 * o := by
    unfold ys
    have d4 : (2001 + 400 * q + (100 * h + 4 * f + o) - 1) / 4 = 500 + 100 * q + 25 * h + f := by omega
    have d100 : (2001 + 400 * q + (100 * h + 4 * f + o) - 1) / 100 = 20 + 4 * q + h := by omega
    have d400 : (2001 + 400 * q + (100 * h + 4 * f + o) - 1) / 400 = 5 + q := by omega
    rw [d4, d100, d400]; omega
  refine ⟨by rw [hy]; omega, h6.1, ?_⟩
  by_cases hu' : u < 365
  · have := (lp_01 (2001 + 400 * q + (100 * h + 4 * f + o))).1; omega
  · have ho3 : o = 3 := by omega
    have hl : leap (2001 + 400 * q + (100 * h + 4 * f + o)) := by
      unfold leap
      refine ⟨by omega, ?_⟩
      by_cases hf24 : f = 24
      · right
        have : h = 3 := by omega
        omega
      · left; omega
    unfold lp
    rw [if_pos hl]; omega
/-- Each day has a date. -/
theorem date_exists {day y u : Int} (h0 : 0 ≤ day) (h1 : day ≤ 730484) (hy : ys y + u = day) (hu0 : 0 ≤ u) (hu : u < 365 + lp y) :
    2001 ≤ y ∧ y ≤ 4000 := by
  have hs := ys_succ y
  constructor
  · refine Classical.byContradiction fun hc => ?_
    have := ys_mono (show y + 1 ≤ 2001 by omega)
    rw [ys_2001] at this; omega
  · refine Classical.byContradiction fun hc => ?_
    have := ys_mono (show 4001 ≤ y by omega)
    rw [ys_4001] at this; omega
/-- The month that a day of the year lies in. -/
theorem month_of {y u m : Int} (h1 : 1 ≤ m) (h2 : m ≤ 12) (hlo : fst y m ≤ u) (hhi : u < fst y (m + 1)) (hy1 : 2001 ≤ y) (hy2 : y ≤ 4000) :
    IsDate y m (u - fst y m + 1) ∧ dayOf y m (u - fst y m + 1) = ys y + u := by
  refine ⟨⟨hy1, hy2, h1, h2, by omega, by unfold mlen; omega⟩, by unfold dayOf; omega⟩
end Go.Proofs.YtehnhedifhpalaaDoor.Cv
namespace Go.Proofs.YtehnhedifhpalaaDoor.Cv
/-- A list of holidays. -/
structure Right (H : List Int) : Prop where
  ord : H.Pairwise (· < ·)
  bd : ∀ d ∈ H, 0 ≤ d ∧ d ≤ 730484
/-- A working day. -/
def wk (H : List Int) (d : Int) : Bool := decide (d % 7 < 5) && !H.contains d
def wdays (d : Int) : Int := d / 7 * 5 + min (d % 7) 5
/-- The holidays that would be working days. -/
def freeOf (H : List Int) : List Int := H.filter fun d => decide (d % 7 < 5)
/-- How many numbers of a list are less than d. -/
def less (F : List Int) (d : Int) : Nat := (F.filter fun h => decide (h < d)).length
def below (H : List Int) (d : Int) : Int := wdays d - less (freeOf H) d
theorem wdays_succ (d : Int) : wdays (d + 1) = wdays d + if d % 7 < 5 then 1 else 0 := by
  unfold wdays
  split <;> omega
theorem less_succ {F : List Int} (hF : F.Pairwise (· < ·)) (d : Int) : less F (d + 1) = less F d + if F.contains d then 1 else 0 := by
  unfold less
  induction F with
  | nil => simp
  | cons a F ih =>
    obtain ⟨h1, h2⟩ := List.pairwise_cons.1 hF
    have ih := ih h2
    by_cases hd : d = a
    · subst hd
      have hn : F.contains d = false := by
        rw [Bool.eq_false_iff]; intro hc
        have := h1 d (by simpa using hc); omega
      rw [hn] at ih
      rw [List.filter_cons_of_pos (by simp; omega), List.filter_cons_of_neg (by simp)]
      simp at ih ⊢; omega
    · have e : (a :: F).contains d = F.contains d := by
        rw [List.contains_cons]; simp [hd]
      rw [e]
      by_cases hc : a < d
      · rw [List.filter_cons_of_pos (by simp; omega), List.filter_cons_of_pos (by simp; omega)]
        simp only [List.length_cons]; omega
      · rw [List.filter_cons_of_neg (by simp; omega), List.filter_cons_of_neg (by simp; omega)]
        exact ih
theorem below_succ {H : List Int} (hH : Right H) (d : Int) : below H (d + 1) = below H d + if wk H d then 1 else 0 := by
  have hF : (freeOf H).Pairwise (· < ·) := List.Pairwise.filter _ hH.ord
  unfold below
  rw [wdays_succ d, less_succ hF]
  have hc : (freeOf H).contains d = (decide (d % 7 < 5) && H.contains d) := by
    rw [Bool.eq_iff_iff]; simp [freeOf, List.mem_filter, and_comm]
  rw [hc]
  unfold wk
  by_cases h5 : d % 7 < 5 <;> cases hh : H.contains d <;> simp [h5] <;> omega
/-- Working days ahead of d. -/
theorem below_cnt {H : List Int} (hH : Right H) {a : Int} : ∀ d, a ≤ d → below H d - below H a = cnt (wk H) a d := by
  apply ivl_ind
  · rw [cnt_nil _ (Int.le_refl a)]; omega
  · intro b hb ih
    rw [cnt_succ _ hb, below_succ hH b, ← ih]; omega
/-- The day that is n working days ahead of a, up to the last day. -/
structure IsAhead (p : Int → Bool) (a n d : Int) : Prop where
  ge : a ≤ d
  le : d ≤ 730484
  is : p d = true
  cnt : cnt p a d = n
theorem IsAhead.unique {p : Int → Bool} {a n d e : Int} (h : IsAhead p a n d) (h' : IsAhead p a n e) : d = e := by
  rcases Int.lt_trichotomy d e with k | k | k
  · have h1 := cnt_split p h.ge e (by omega)
    have h2 := cnt_pos_of (p := p) (a := d) (b := e) (Int.le_refl d) k h.is
    have := h.cnt; have := h'.cnt; omega
  · exact k
  · have h1 := cnt_split p h'.ge d (by omega)
    have h2 := cnt_pos_of (p := p) (a := e) (b := d) (Int.le_refl e) k h'.is
    have := h.cnt; have := h'.cnt; omega
/-- The least d behind which there are more than n. -/
theorem ahead_of_least {p : Int → Bool} {a n d : Int} (h0 : 0 ≤ n) (h1 : a ≤ d) (h2 : d ≤ 730484) (h3 : n < cnt p a (d + 1)) (h4 : ∀ e, a ≤ e → e < d → cnt p a (e + 1) ≤ n) : IsAhead p a n d := by
  have h5 : cnt p a d ≤ n := by
    by_cases h : a < d
    · have := h4 (d - 1) (by omega) (by omega)
      rwa [show d - 1 + 1 = d by omega] at this
    · rw [cnt_nil _ (by omega)]; exact h0
  rw [cnt_succ _ h1] at h3
  refine ⟨h1, h2, ?_, ?_⟩
  · cases h : p d with
    | true => rfl
    | false => rw [h] at h3; simp at h3; omega
  · split at h3 <;> omega
/-- There is one exactly if there are more than n. -/
theorem ahead_none {p : Int → Bool} {a n : Int} (h : cnt p a 730485 ≤ n) (d : Int) : ¬ IsAhead p a n d := by
  intro k
  have h1 := cnt_mono_right p (a := a) (b := d + 1) (c := 730485) (by have := k.le; omega)
  rw [cnt_succ _ k.ge, k.cnt, if_pos k.is] at h1
  omega
end Go.Proofs.YtehnhedifhpalaaDoor.Cv
namespace Go.Proofs.YtehnhedifhpalaaDoor.Cv
/-- The last k digits of n, as the bytes of a text. -/
def dig : Nat → Int → List Int
  | 0, _ => []
  | k + 1, n => dig k (n / 10) ++ [48 + n % 10]
/-- The number that bytes of digits are. -/
def num (l : List Int) : Int := l.foldl (fun n b => n * 10 + (b - 48)) 0
def isDig (b : Int) : Prop := 48 ≤ b ∧ b ≤ 57
instance (b : Int) : Decidable (isDig b) := by unfold isDig; infer_instance
theorem num_snoc (l : List Int) (b : Int) : num (l ++ [b]) = num l * 10 + (b - 48) := by simp [num, List.foldl_append]
theorem dig_len (k : Nat) (n : Int) : (dig k n).length = k := by
  induction k generalizing n with
  | zero => rfl
  | succ k ih => simp [dig, ih]
theorem dig_is (k : Nat) (n : Int) : ∀ b ∈ dig k n, isDig b := by
  induction k generalizing n with
  | zero => intro b h; cases h
  | succ k ih =>
    intro b h
    rcases List.mem_append.1 h with h | h
    · exact ih _ b h
    · simp at h; subst h; unfold isDig; omega
def ten : Nat → Int
  | 0 => 1
  | k + 1 => ten k * 10
theorem snoc_cases {α : Type} (l : List α) : l = [] ∨ ∃ a b, l = a ++ [b] := by
  rcases List.eq_nil_or_concat l with h | ⟨a, b, h⟩
  · exact .inl h
  · exact .inr ⟨a, b, by rw [h, List.concat_eq_append]⟩
theorem dig_num (k : Nat) : ∀ l : List Int, l.length = k → (∀ b ∈ l, isDig b) → dig k (num l) = l ∧ 0 ≤ num l ∧ num l < ten k := by
  induction k with
  | zero =>
    intro l h _
    obtain rfl := List.length_eq_zero_iff.1 h
    simp [dig, num, ten]
  | succ k ih =>
    intro l h hd
    rcases snoc_cases l with rfl | ⟨a, b, rfl⟩
    · simp at h
    · obtain ⟨h1, h2, h3⟩ := ih a (by simpa using h) (fun c hc => hd c (by simp [hc]))
      have hb := hd b (by simp)
      unfold isDig at hb
      rw [num_snoc, dig]
      rw [show (num a * 10 + (b - 48)) / 10 = num a by omega, show 48 + (num a * 10 + (b - 48)) % 10 = b by omega, h1]
      simp only [ten]
      exact ⟨trivial, by omega, by omega⟩
/-- The order of texts: by the first byte in which they differ. -/
def lt : List Int → List Int → Bool
  | [], [] => false
  | [], _ :: _ => true
  | _ :: _, [] => false
  | a :: l, b :: m => decide (a < b) || (decide (a = b) && lt l m)
theorem lt_irrefl (l : List Int) : lt l l = false := by
  induction l with
  | nil => rfl
  | cons a l ih => simp [lt, ih]
/-- The text of a date. -/
def dtext (y m d : Int) : List Int := dig 4 y ++ 45 :: (dig 2 m ++ 45 :: dig 2 d)
/-- The text of a time. -/
def ttext (y m d h i : Int) : List Int := dtext y m d ++ 32 :: (dig 2 h ++ 58 :: dig 2 i)
theorem dtext_len (y m d : Int) : (dtext y m d).length = 10 := by simp [dtext, dig_len]
end Go.Proofs.YtehnhedifhpalaaDoor.Cv
set_option linter.unusedVariables false
set_option linter.unusedSimpArgs false
namespace Go.Proofs.YtehnhedifhpalaaDoor.Cp
open Go.RowKit Go.Proofs.YtehnhedifhpalaaDoorW.PrintWords Go.Proofs.YtehnhedifhpalaaDoorW.PrintLast Go.Proofs.YtehnhedifhpalaaDoorW.PrintMore
attribute [local go_sem] max2_int min2_int max_two min_two max_three min_three max_four min_four
def tabL : List Int := [0, 31, 59, 90, 120, 151, 181, 212, 243, 273, 304, 334, 365]
/-- The variable's cells. -/
def Tab (w : World) : Prop := ∀ i : Nat, i < 13 → w.cell? ⟨0, i, none⟩ = some (.int .i64 (tabL.getD i 0))
theorem Tab.below {w W : World} (h : Tab w) (hb : Below w.heap.size w W) : Tab W := fun i hi => (hb.cell (World.block_lt_of_cell? w _ (h i hi))).trans (h i hi)
theorem Tab.drawn {w W : World} (h : Tab w) (hd : Drawn0 w W) : Tab W := h.below hd.below
theorem Tab.drewN {w : World} (h : Tab w) (n : Nat) : Tab (w.drewN n) := h.drawn ((Drawn0.refl w).step n)
def leapB (y : Int) : Bool := decide (Int.tmod y 4 = 0) && (decide (¬ Int.tmod y 100 = 0) || decide (Int.tmod y 400 = 0))
def civil_first.f (a0 a1 : Int) : Option Int :=
  if 1 ≤ a1 then (if a1 ≤ 13 then some (if 2 < a1 then (if leapB a0 then tabL.getD (a1 - 1).toNat 0 + 1 else tabL.getD (a1 - 1).toNat 0) else tabL.getD (a1 - 1).toNat 0) else none) else none
set_option maxHeartbeats 1000000 in
theorem leap_any (y : Int) (w : World) : Calls Tryd.prog 35 #[.int .i64 y] w fun e w' => e = .returned (.bool (leapB y)) ∧ Drawn0 w w' := by
  by_cases c1 : Int.tmod y 4 = 0
  · have d1 : (Int.tmod y 4 == 0) = true := beq_iff_eq.mpr c1
    by_cases c2 : Int.tmod y 100 = 0
    · have d2 : (Int.tmod y 100 == 0) = true := beq_iff_eq.mpr c2
      have d2' : (Int.tmod y 100 != 0) = false := by simp [c2]
      have e : leapB y = (Int.tmod y 400 == 0) := by unfold leapB; rw [decide_eq_true c1, decide_eq_false (fun h => h c2)]; simp; rfl
      rw [e]
      clear c1 c2 e
      go_enter Tryd.func35, Tryd.ntmps35
      go_wp2
      go_ret
      exact ⟨rfl, Drawn0.refl _⟩
    · have d2 : (Int.tmod y 100 == 0) = false := beq_eq_false_iff_ne.mpr c2
      have d2' : (Int.tmod y 100 != 0) = true := by simp [c2]
      have e : leapB y = true := by unfold leapB; rw [decide_eq_true c1, decide_eq_true c2]; rfl
      rw [e]
      clear c1 c2 e
      go_enter Tryd.func35, Tryd.ntmps35
      go_wp2
      go_ret
      exact ⟨rfl, Drawn0.refl _⟩
  · have d1 : (Int.tmod y 4 == 0) = false := beq_eq_false_iff_ne.mpr c1
    have e : leapB y = false := by unfold leapB; rw [decide_eq_false c1]; rfl
    rw [e]
    clear c1 e
    go_enter Tryd.func35, Tryd.ntmps35
    go_wp2
    go_ret
    exact ⟨rfl, Drawn0.refl _⟩
theorem first_ix {a1 : Int} (h1 : 1 ≤ a1) (h2 : a1 ≤ 13) : wrap64 (a1 - 1) = a1 - 1 := by unfold wrap64; omega
theorem tab_bd (n : Nat) : 0 ≤ tabL.getD n 0 ∧ tabL.getD n 0 ≤ 365 := by
  by_cases h : n < 13
  · have : ∀ m : Nat, m < 13 → 0 ≤ tabL.getD m 0 ∧ tabL.getD m 0 ≤ 365 := by decide
    exact this n h
  · rw [List.getD_eq_getElem?_getD, List.getElem?_eq_none (show tabL.length ≤ n by show 13 ≤ n; omega)]; decide
set_option maxHeartbeats 2000000 in
theorem civil_first.calls (a0 a1 : Int) (r : Int) (w : World) (hg : Aside0 (Tab w)) (h : civil_first.f a0 a1 = some r) :
    Calls Tryd.prog 55 #[.int .i64 a0, .int .i64 a1] w fun e w' => e = .returned (.int .i64 r) ∧ Drawn0 w w' := by
  unfold civil_first.f at h
  by_cases h1 : 1 ≤ a1
  · by_cases h2 : a1 ≤ 13
    · rw [if_pos h1, if_pos h2] at h
      have hx := hg.out (a1 - 1).toNat (by omega)
      have EW := first_ix h1 h2
      have e : (a1 - 1).toNat = a1.toNat - 1 := by omega
      rw [e] at h hx
      clear e
      have b := tab_bd (a1.toNat - 1)
      generalize hv : tabL.getD (a1.toNat - 1) 0 = v at h hx b
      have EV : wrap64 (v + 1) = v + 1 := by unfold wrap64; omega
      have p1 : (0 ≤ a1 - 1) = True := eq_true (by omega)
      have q1 : (a1 - 1 < 13) = True := eq_true (by omega)
      have p2 : (1 ≤ a1) = True := eq_true h1
      have p3 : (a1 < 1) = False := eq_false (by omega)
      have hle := leap_any a0
      generalize leapB a0 = lb at h hle
      by_cases c : 2 < a1
      · have d : decide (2 < a1) = true := decide_eq_true c
        rw [if_pos c] at h
        clear h1 h2 c hv b hg
        cases lb
        · have hr : v = r := by simpa using h
          subst hr
          clear h
          go_enter Tryd.func55, Tryd.ntmps55
          go_wp2_with (first | (go_at_call 35; (with_reducible refine (hle _).mono ?_); rintro e w' ⟨rfl, ⟨nd, rfl⟩⟩))
          go_ret
          exact ⟨by first | rfl | simp [EV], ⟨⟨_, rfl⟩⟩⟩
        · have hr : v + 1 = r := by simpa using h
          subst hr
          clear h
          go_enter Tryd.func55, Tryd.ntmps55
          go_wp2_with (first | (go_at_call 35; (with_reducible refine (hle _).mono ?_); rintro e w' ⟨rfl, ⟨nd, rfl⟩⟩))
          go_ret
          exact ⟨by first | rfl | simp [EV], ⟨⟨_, rfl⟩⟩⟩
      · have d : decide (2 < a1) = false := decide_eq_false c
        rw [if_neg c] at h
        have hr : v = r := by simpa using h
        subst hr
        clear h1 h2 c hv b hg h
        go_enter Tryd.func55, Tryd.ntmps55
        go_wp2
        go_ret
        exact ⟨rfl, Drawn0.refl _⟩
    · rw [if_pos h1, if_neg h2] at h; exact absurd h (by simp)
  · rw [if_neg h1] at h; exact absurd h (by simp)
end Go.Proofs.YtehnhedifhpalaaDoor.Cp
namespace Go.Proofs.YtehnhedifhpalaaDoor.Cp
open Go.RowKit Go.Proofs.YtehnhedifhpalaaDoorW.PrintWords Go.Proofs.YtehnhedifhpalaaDoorW.PrintLast Go.Proofs.YtehnhedifhpalaaDoorW.PrintMore
theorem ev_pos {α : Type} {c : Prop} [Decidable c] {A B : Nat → Option α} {r : α} (h : c) (k : Ev A r) : Ev (fun n => if c then A n else B n) r := Ev.congr (fun _ => if_pos h) k
theorem ev_neg {α : Type} {c : Prop} [Decidable c] {A B : Nat → Option α} {r : α} (h : ¬ c) (k : Ev B r) : Ev (fun n => if c then A n else B n) r := Ev.congr (fun _ => if_neg h) k
theorem ev_val {α : Type} {x : Option α} {r : α} (h : x = some r) : Ev (fun _ => x) r := ⟨0, fun _ _ => h⟩
theorem ev_eq {α : Type} {g : Nat → Option α} {r q : α} (h : r = q) (k : Ev g r) : Ev g q := h ▸ k
theorem w64 {n : Int} (h : -9223372036854775808 ≤ n) (h' : n ≤ 9223372036854775807) : wrap64 n = n := by unfold wrap64; omega
theorem wu64 {n : Int} (h : 0 ≤ n) (h' : n ≤ 9223372036854775807) : IntKind.u64.wrap n = n := by
  simp [IntKind.wrap, IntKind.bits, IntKind.signed]; omega
theorem wsucc {i : Nat} {n : Nat} (h : i < n) (hn : n ≤ 1000000) : wrap64 ((i : Int) + 1) = ((i + 1 : Nat) : Int) := w64 (n := (i : Int) + 1) (by omega) (by omega)
theorem rd_get {l : List Int} {i : Nat} (h : i < l.length) : rd l (i : Int) = l[i] := by simp [rd, h]
end Go.Proofs.YtehnhedifhpalaaDoor.Cp
namespace Go.Proofs.YtehnhedifhpalaaDoor.Cp
open Go.RowKit Go.Proofs.YtehnhedifhpalaaDoorW.PrintWords Go.Proofs.YtehnhedifhpalaaDoorW.PrintLast Go.Proofs.YtehnhedifhpalaaDoorW.PrintMore
/-- A list of holidays. -/
def rightFrom (last : Int) : List Int → Bool
  | [] => true
  | d :: l => !decide (d ≤ last) && !decide (730484 < d) && rightFrom d l
def rightB (l : List Int) : Bool := rightFrom (-1) l && decide (l.length ≤ 1000)
def civil_Between.f (a0 a1 : Int) (l2 : List Int) : Option (Int × Int) :=
  if rightB l2 = true ∧ 0 ≤ a0 ∧ a0 ≤ a1 then (if a1 ≤ 730484 then some (Cv.below l2 a1 - Cv.below l2 a0, 0) else some (0, 3)) else some (0, 2)
/-- The search of Ahead. -/
def civil_Ahead.l0 (l : List Int) (b n : Int) : Nat → Int → Int → Option Int
  | 0, _, _ => none
  | k + 1, lo, hi => if lo < hi then (if n < Cv.below l ((lo + hi) / 2 + 1) - b then civil_Ahead.l0 l b n k lo ((lo + hi) / 2) else civil_Ahead.l0 l b n k ((lo + hi) / 2 + 1) hi) else some lo
def civil_Ahead.f (k : Nat) (a0 a1 : Int) (l2 : List Int) : Option (Int × Int) :=
  if rightB l2 = true ∧ 0 ≤ a0 ∧ 0 ≤ a1 then
    (if a0 ≤ 730484 ∧ a1 < Cv.below l2 730485 - Cv.below l2 a0 then (civil_Ahead.l0 l2 (Cv.below l2 a0) a1 k a0 730484).bind fun d => some (d, 0) else some (0, 3))
  else some (0, 2)
theorem civil_Ahead.mono_l (l : List Int) (b n : Int) : ∀ k lo hi, LeO (civil_Ahead.l0 l b n k lo hi) (civil_Ahead.l0 l b n (k + 1) lo hi)
  | 0, _, _ => fun r h => by simp [civil_Ahead.l0] at h
  | k + 1, lo, hi => by
    have ih := civil_Ahead.mono_l l b n k
    rw [civil_Ahead.l0, civil_Ahead.l0]
    exact LeO.ite (LeO.ite (ih _ _) (ih _ _)) (LeO.refl _)
theorem civil_Ahead.mono : ∀ a0 a1 a2 k, LeO (civil_Ahead.f k a0 a1 a2) (civil_Ahead.f (k + 1) a0 a1 a2) := by
  intro a0 a1 a2 k
  unfold civil_Ahead.f
  exact LeO.ite (LeO.ite (LeO.bind (civil_Ahead.mono_l _ _ _ _ _ _) (fun _ => LeO.refl _)) (LeO.refl _)) (LeO.refl _)
end Go.Proofs.YtehnhedifhpalaaDoor.Cp
namespace Go.Proofs.YtehnhedifhpalaaDoor.Cp
open Go.RowKit Go.Proofs.YtehnhedifhpalaaDoorW.PrintWords Go.Proofs.YtehnhedifhpalaaDoorW.PrintLast Go.Proofs.YtehnhedifhpalaaDoorW.PrintMore
attribute [local go_sem] max2_int min2_int max_two min_two max_three min_three max_four min_four   -- for this text's walks alone
set_option linter.unusedVariables false
set_option linter.unusedSimpArgs false
def civil_within.f (a0 : Int) (a1 : Int) : Option (Int) := if a0 < 0 then (some 2) else (if a0 > a1 then (some 3) else (some 0))
set_option maxHeartbeats 8000000 in
set_option maxRecDepth 100000 in
theorem civil_within.calls (a0 : Int) (a1 : Int) (r : Int) (w : World) (h : civil_within.f a0 a1 = some r) :
  Calls Tryd.prog 54 #[.int .i64 a0, .int .i64 a1] w fun e w' => e = .returned (.int .i64 r) ∧ Drawn0 w w' := by
 have H : (if a0 < 0 then (some 2) else (if a0 > a1 then (some 3) else (some 0))) = some r := h
 clear h
 by_cases c3 : a0 < 0
 ·rw [if_pos c3] at H
  have c3b0 : decide (a0 < 0) = true := decide_eq_true c3
  clear c3
  obtain rfl := Option.some.inj H
  go_enter Tryd.func54, Tryd.ntmps54
  go_wp2
  go_ret
  exact ⟨by first | rfl | (simp; done) | (simp [*]; done) | (simp; exact (show ∀ a_ b_ : Bool, (a_ == b_) = (!(a_ != b_)) from by decide) _ _), by repeat (first | exact Drawn0.refl _ | apply Drawn0.step)⟩
 ·rw [if_neg c3] at H
  have c3b0 : decide (a0 < 0) = false := decide_eq_false c3
  clear c3
  by_cases c4 : a0 > a1
  ·rw [if_pos c4] at H
   have c4b0 : decide (a1 < a0) = true := decide_eq_true c4
   clear c4
   obtain rfl := Option.some.inj H
   go_enter Tryd.func54, Tryd.ntmps54
   go_wp2
   go_ret
   exact ⟨by first | rfl | (simp; done) | (simp [*]; done) | (simp; exact (show ∀ a_ b_ : Bool, (a_ == b_) = (!(a_ != b_)) from by decide) _ _), by repeat (first | exact Drawn0.refl _ | apply Drawn0.step)⟩
  ·rw [if_neg c4] at H
   have c4b0 : decide (a1 < a0) = false := decide_eq_false c4
   clear c4
   obtain rfl := Option.some.inj H
   go_enter Tryd.func54, Tryd.ntmps54
   go_wp2
   go_ret
   exact ⟨by first | rfl | (simp; done) | (simp [*]; done) | (simp; exact (show ∀ a_ b_ : Bool, (a_ == b_) = (!(a_ != b_)) from by decide) _ _), by repeat (first | exact Drawn0.refl _ | apply Drawn0.step)⟩
def civil_Leap.f (a0 : Int) : Option (Bool) := if (Int.tmod a0 4) = 0 then (if (Int.tmod a0 100) = 0 then (some ((Int.tmod a0 400) == 0)) else (some true)) else (some false)
set_option maxHeartbeats 8000000 in
set_option maxRecDepth 100000 in
theorem civil_Leap.calls (a0 : Int) (r : Bool) (w : World) (h : civil_Leap.f a0 = some r) :
  Calls Tryd.prog 35 #[.int .i64 a0] w fun e w' => e = .returned (.bool r) ∧ Drawn0 w w' := by
 have H : (if (Int.tmod a0 4) = 0 then (if (Int.tmod a0 100) = 0 then (some ((Int.tmod a0 400) == 0)) else (some true)) else (some false)) = some r := h
 clear h
 by_cases c2 : (Int.tmod a0 4) = 0
 ·rw [if_pos c2] at H
  have c2b0 : ((Int.tmod a0 4) == 0) = true := beq_iff_eq.mpr c2
  have c2b1 : ((Int.tmod a0 4) != 0) = false := bne_eq_false_iff_eq.mpr c2
  clear c2
  by_cases c3 : (Int.tmod a0 100) = 0
  ·rw [if_pos c3] at H
   have c3b0 : ((Int.tmod a0 100) == 0) = true := beq_iff_eq.mpr c3
   have c3b1 : ((Int.tmod a0 100) != 0) = false := bne_eq_false_iff_eq.mpr c3
   clear c3
   obtain rfl := Option.some.inj H
   go_enter Tryd.func35, Tryd.ntmps35
   go_wp2
   go_ret
   exact ⟨by first | rfl | (simp; done) | (simp [*]; done) | (simp; exact (show ∀ a_ b_ : Bool, (a_ == b_) = (!(a_ != b_)) from by decide) _ _), by repeat (first | exact Drawn0.refl _ | apply Drawn0.step)⟩
  ·rw [if_neg c3] at H
   have c3b0 : ((Int.tmod a0 100) == 0) = false := beq_eq_false_iff_ne.mpr c3
   have c3b1 : ((Int.tmod a0 100) != 0) = true := bne_iff_ne.mpr c3
   obtain rfl := Option.some.inj H
   go_enter Tryd.func35, Tryd.ntmps35
   go_wp2
   go_ret
   exact ⟨by first | rfl | (simp; done) | (simp [*]; done) | (simp; exact (show ∀ a_ b_ : Bool, (a_ == b_) = (!(a_ != b_)) from by decide) _ _), by repeat (first | exact Drawn0.refl _ | apply Drawn0.step)⟩
 ·rw [if_neg c2] at H
  have c2b0 : ((Int.tmod a0 4) == 0) = false := beq_eq_false_iff_ne.mpr c2
  have c2b1 : ((Int.tmod a0 4) != 0) = true := bne_iff_ne.mpr c2
  obtain rfl := Option.some.inj H
  go_enter Tryd.func35, Tryd.ntmps35
  go_wp2
  go_ret
  exact ⟨by first | rfl | (simp; done) | (simp [*]; done) | (simp; exact (show ∀ a_ b_ : Bool, (a_ == b_) = (!(a_ != b_)) from by decide) _ _), by repeat (first | exact Drawn0.refl _ | apply Drawn0.step)⟩
def civil_Date.l0 : Nat → Int → Int → Int → Option (Int × Int × Int × Int)
 | 0, _, _, _ => none
 | k + 1, x0, x7, x11 => (civil_first.f x7 (wrap64 (x11 + 1))).bind fun t102 => (if x0 ≥ t102 then (civil_Date.l0 k x0 x7 (wrap64 (x11 + 1))) else ((civil_first.f x7 x11).bind fun t103 => (some (x7, x11, wrap64 ((wrap64 (x0 - t103)) + 1), 0))))
def civil_Date.f (k : Nat) (a0 : Int) : Option (Int × Int × Int × Int) := (civil_within.f a0 730484).bind fun t101 => (if t101 = 0 then (civil_Date.l0 k (wrap64 ((wrap64 ((wrap64 ((Int.tmod a0 146097) - (wrap64 ((mn (wrap64 (Int.tdiv (Int.tmod a0 146097) 36524)) 3) * 36524)))) - (wrap64 ((wrap64 (Int.tdiv (wrap64 ((Int.tmod a0 146097) - (wrap64 ((mn (wrap64 (Int.tdiv (Int.tmod a0 146097) 36524)) 3) * 36524)))) 1461)) * 1461)))) - (wrap64 ((mn (wrap64 (Int.tdiv (wrap64 ((wrap64 ((Int.tmod a0 146097) - (wrap64 ((mn (wrap64 (Int.tdiv (Int.tmod a0 146097) 36524)) 3) * 36524)))) - (wrap64 ((wrap64 (Int.tdiv (wrap64 ((Int.tmod a0 146097) - (wrap64 ((mn (wrap64 (Int.tdiv (Int.tmod a0 146097) 36524)) 3) * 36524)))) 1461)) * 1461)))) 365)) 3) * 365)))) (wrap64 ((wrap64 (2001 + (wrap64 (400 * (wrap64 (Int.tdiv a0 146097)))))) + (wrap64 ((wrap64 ((wrap64 (100 * (mn (wrap64 (Int.tdiv (Int.tmod a0 146097) 36524)) 3))) + (wrap64 (4 * (wrap64 (Int.tdiv (wrap64 ((Int.tmod a0 146097) - (wrap64 ((mn (wrap64 (Int.tdiv (Int.tmod a0 146097) 36524)) 3) * 36524)))) 1461)))))) + (mn (wrap64 (Int.tdiv (wrap64 ((wrap64 ((Int.tmod a0 146097) - (wrap64 ((mn (wrap64 (Int.tdiv (Int.tmod a0 146097) 36524)) 3) * 36524)))) - (wrap64 ((wrap64 (Int.tdiv (wrap64 ((Int.tmod a0 146097) - (wrap64 ((mn (wrap64 (Int.tdiv (Int.tmod a0 146097) 36524)) 3) * 36524)))) 1461)) * 1461)))) 365)) 3))))) 1) else (some (0, 0, 0, t101)))
theorem civil_Date.mono_l : ∀ k, (∀ y0 y1 y2, LeO (civil_Date.l0 k y0 y1 y2) (civil_Date.l0 (k + 1) y0 y1 y2))
 | 0 => fun _ _ _ r h => by simp [civil_Date.l0] at h
 | k + 1 => by
  have ih0 := civil_Date.mono_l k
  ·intro y0 y1 y2
   unfold civil_Date.l0
   repeat' first
   | (with_reducible exact ih0 _ _ _)
   | (with_reducible exact LeO.refl _)
   | (with_reducible exact LeO.none _)
   | (with_reducible refine LeO.ite ?_ ?_)
   | (with_reducible refine LeO.bind ?_ (fun _ => ?_))
   | exact ih0 _ _ _
   | exact LeO.none _
   | refine LeO.ite ?_ ?_
   | refine LeO.bind ?_ (fun _ => ?_)
theorem civil_Date.mono : ∀ a0 k, LeO (civil_Date.f k a0) (civil_Date.f (k + 1) a0) := by
 intro a0 k
 have ih0 := civil_Date.mono_l k
 unfold civil_Date.f
 repeat' first
  | (with_reducible exact ih0 _ _ _)
  | (with_reducible exact LeO.refl _)
  | (with_reducible exact LeO.none _)
  | (with_reducible refine LeO.ite ?_ ?_)
  | (with_reducible refine LeO.bind ?_ (fun _ => ?_))
  | exact ih0 _ _ _
  | exact LeO.none _
  | refine LeO.ite ?_ ?_
  | refine LeO.bind ?_ (fun _ => ?_)
set_option maxHeartbeats 8000000 in
set_option maxRecDepth 100000 in
theorem civil_Date.calls (k : Nat) (a0 : Int) (r1 : Int) (r2 : Int) (r3 : Int) (r4 : Int) (w : World) (hg : Aside0 (Tab w)) (h : civil_Date.f k a0 = some (r1, r2, r3, r4)) :
  Calls Tryd.prog 19 #[.int .i64 a0] w fun e w' => e = .returned (.tuple #[.int .i64 r1, .int .i64 r2, .int .i64 r3, .int .i64 r4]) ∧ Below w.heap.size w w' := by
 have HB := Aside0.mk (Below.refl w.heap.size w)
 have H : ((civil_within.f a0 730484).bind fun t101 => (if t101 = 0 then (civil_Date.l0 k (wrap64 ((wrap64 ((wrap64 ((Int.tmod a0 146097) - (wrap64 ((mn (wrap64 (Int.tdiv (Int.tmod a0 146097) 36524)) 3) * 36524)))) - (wrap64 ((wrap64 (Int.tdiv (wrap64 ((Int.tmod a0 146097) - (wrap64 ((mn (wrap64 (Int.tdiv (Int.tmod a0 146097) 36524)) 3) * 36524)))) 1461)) * 1461)))) - (wrap64 ((mn (wrap64 (Int.tdiv (wrap64 ((wrap64 ((Int.tmod a0 146097) - (wrap64 ((mn (wrap64 (Int.tdiv (Int.tmod a0 146097) 36524)) 3) * 36524)))) - (wrap64 ((wrap64 (Int.tdiv (wrap64 ((Int.tmod a0 146097) - (wrap64 ((mn (wrap64 (Int.tdiv (Int.tmod a0 146097) 36524)) 3) * 36524)))) 1461)) * 1461)))) 365)) 3) * 365)))) (wrap64 ((wrap64 (2001 + (wrap64 (400 * (wrap64 (Int.tdiv a0 146097)))))) + (wrap64 ((wrap64 ((wrap64 (100 * (mn (wrap64 (Int.tdiv (Int.tmod a0 146097) 36524)) 3))) + (wrap64 (4 * (wrap64 (Int.tdiv (wrap64 ((Int.tmod a0 146097) - (wrap64 ((mn (wrap64 (Int.tdiv (Int.tmod a0 146097) 36524)) 3) * 36524)))) 1461)))))) + (mn (wrap64 (Int.tdiv (wrap64 ((wrap64 ((Int.tmod a0 146097) - (wrap64 ((mn (wrap64 (Int.tdiv (Int.tmod a0 146097) 36524)) 3) * 36524)))) - (wrap64 ((wrap64 (Int.tdiv (wrap64 ((Int.tmod a0 146097) - (wrap64 ((mn (wrap64 (Int.tdiv (Int.tmod a0 146097) 36524)) 3) * 36524)))) 1461)) * 1461)))) 365)) 3))))) 1) else (some (0, 0, 0, t101)))) = some (r1, r2, r3, r4) := h
 clear h
 replace H := Option.bind_eq_some_iff.mp H
 obtain ⟨t101, A20, H⟩ := H
 replace H : (if t101 = 0 then (civil_Date.l0 k (wrap64 ((wrap64 ((wrap64 ((Int.tmod a0 146097) - (wrap64 ((mn (wrap64 (Int.tdiv (Int.tmod a0 146097) 36524)) 3) * 36524)))) - (wrap64 ((wrap64 (Int.tdiv (wrap64 ((Int.tmod a0 146097) - (wrap64 ((mn (wrap64 (Int.tdiv (Int.tmod a0 146097) 36524)) 3) * 36524)))) 1461)) * 1461)))) - (wrap64 ((mn (wrap64 (Int.tdiv (wrap64 ((wrap64 ((Int.tmod a0 146097) - (wrap64 ((mn (wrap64 (Int.tdiv (Int.tmod a0 146097) 36524)) 3) * 36524)))) - (wrap64 ((wrap64 (Int.tdiv (wrap64 ((Int.tmod a0 146097) - (wrap64 ((mn (wrap64 (Int.tdiv (Int.tmod a0 146097) 36524)) 3) * 36524)))) 1461)) * 1461)))) 365)) 3) * 365)))) (wrap64 ((wrap64 (2001 + (wrap64 (400 * (wrap64 (Int.tdiv a0 146097)))))) + (wrap64 ((wrap64 ((wrap64 (100 * (mn (wrap64 (Int.tdiv (Int.tmod a0 146097) 36524)) 3))) + (wrap64 (4 * (wrap64 (Int.tdiv (wrap64 ((Int.tmod a0 146097) - (wrap64 ((mn (wrap64 (Int.tdiv (Int.tmod a0 146097) 36524)) 3) * 36524)))) 1461)))))) + (mn (wrap64 (Int.tdiv (wrap64 ((wrap64 ((Int.tmod a0 146097) - (wrap64 ((mn (wrap64 (Int.tdiv (Int.tmod a0 146097) 36524)) 3) * 36524)))) - (wrap64 ((wrap64 (Int.tdiv (wrap64 ((Int.tmod a0 146097) - (wrap64 ((mn (wrap64 (Int.tdiv (Int.tmod a0 146097) 36524)) 3) * 36524)))) 1461)) * 1461)))) 365)) 3))))) 1) else (some (0, 0, 0, t101))) = some (r1, r2, r3, r4) := H
 have A2 := Aside0.mk A20
 clear A20
 by_cases c3 : t101 = 0
 ·rw [if_pos c3] at H
  have c3b0 : (t101 == 0) = true := beq_iff_eq.mpr c3
  have c3b1 : (t101 != 0) = false := bne_eq_false_iff_eq.mpr c3
  clear c3
  obtain ⟨ji4, hji4⟩ : ∃ j_ : Int, (mn (wrap64 (Int.tdiv (Int.tmod a0 146097) 36524)) 3) = j_ := ⟨_, rfl⟩
  replace H : (civil_Date.l0 k (wrap64 ((wrap64 ((wrap64 ((Int.tmod a0 146097) - (wrap64 ((ji4) * 36524)))) - (wrap64 ((wrap64 (Int.tdiv (wrap64 ((Int.tmod a0 146097) - (wrap64 ((ji4) * 36524)))) 1461)) * 1461)))) - (wrap64 ((mn (wrap64 (Int.tdiv (wrap64 ((wrap64 ((Int.tmod a0 146097) - (wrap64 ((ji4) * 36524)))) - (wrap64 ((wrap64 (Int.tdiv (wrap64 ((Int.tmod a0 146097) - (wrap64 ((ji4) * 36524)))) 1461)) * 1461)))) 365)) 3) * 365)))) (wrap64 ((wrap64 (2001 + (wrap64 (400 * (wrap64 (Int.tdiv a0 146097)))))) + (wrap64 ((wrap64 ((wrap64 (100 * (ji4))) + (wrap64 (4 * (wrap64 (Int.tdiv (wrap64 ((Int.tmod a0 146097) - (wrap64 ((ji4) * 36524)))) 1461)))))) + (mn (wrap64 (Int.tdiv (wrap64 ((wrap64 ((Int.tmod a0 146097) - (wrap64 ((ji4) * 36524)))) - (wrap64 ((wrap64 (Int.tdiv (wrap64 ((Int.tmod a0 146097) - (wrap64 ((ji4) * 36524)))) 1461)) * 1461)))) 365)) 3))))) 1) = some (r1, r2, r3, r4) := by first | (rw [hji4] at H; exact H) | (simp only [hji4] at H ⊢; exact H)
  (try rw [hji4] at A2)
  (try (have hji4h : ji4 ≤ 3 := by (rw [← hji4]; unfold mn; (repeat' split) <;> omega)))
  (try (have hji4g : ji4 ≤ 64 := by omega))
  have hji4_ : (if 3 < (wrap64 (Int.tdiv (Int.tmod a0 146097) 36524)) then 3 else (wrap64 (Int.tdiv (Int.tmod a0 146097) 36524))) = ji4 := hji4
  obtain ⟨ji5, hji5⟩ : ∃ j_ : Int, (mn (wrap64 (Int.tdiv (wrap64 ((wrap64 ((Int.tmod a0 146097) - (wrap64 ((ji4) * 36524)))) - (wrap64 ((wrap64 (Int.tdiv (wrap64 ((Int.tmod a0 146097) - (wrap64 ((ji4) * 36524)))) 1461)) * 1461)))) 365)) 3) = j_ := ⟨_, rfl⟩
  replace H : (civil_Date.l0 k (wrap64 ((wrap64 ((wrap64 ((Int.tmod a0 146097) - (wrap64 ((ji4) * 36524)))) - (wrap64 ((wrap64 (Int.tdiv (wrap64 ((Int.tmod a0 146097) - (wrap64 ((ji4) * 36524)))) 1461)) * 1461)))) - (wrap64 ((ji5) * 365)))) (wrap64 ((wrap64 (2001 + (wrap64 (400 * (wrap64 (Int.tdiv a0 146097)))))) + (wrap64 ((wrap64 ((wrap64 (100 * (ji4))) + (wrap64 (4 * (wrap64 (Int.tdiv (wrap64 ((Int.tmod a0 146097) - (wrap64 ((ji4) * 36524)))) 1461)))))) + (ji5))))) 1) = some (r1, r2, r3, r4) := by first | (rw [hji5] at H; exact H) | (simp only [hji5] at H ⊢; exact H)
  (try rw [hji5] at A2)
  have hji5_ : (if 3 < (wrap64 (Int.tdiv (wrap64 ((wrap64 ((Int.tmod a0 146097) - (wrap64 ((ji4) * 36524)))) - (wrap64 ((wrap64 (Int.tdiv (wrap64 ((Int.tmod a0 146097) - (wrap64 ((ji4) * 36524)))) 1461)) * 1461)))) 365)) then 3 else (wrap64 (Int.tdiv (wrap64 ((wrap64 ((Int.tmod a0 146097) - (wrap64 ((ji4) * 36524)))) - (wrap64 ((wrap64 (Int.tdiv (wrap64 ((Int.tmod a0 146097) - (wrap64 ((ji4) * 36524)))) 1461)) * 1461)))) 365))) = ji5 := hji5
  have H' := Aside0.mk H
  clear H
  go_enter Tryd.func19, Tryd.ntmps19
  go_wp2_with (first | ((with_reducible refine gate_callee (f := 54) rfl ?_); refine goesL_ (some 13) rfl rfl Tryd.func54 (by kernel_rfl) rfl #[.int .i64 a0, .int .i64 730484] rfl (by (try simp only [List.map_toArray, List.map_cons, List.map_nil]); first | done | rfl | (simp only [List.length_drop, List.length_take]; rfl)) ?_; (with_reducible refine (civil_within.calls a0 730484 t101 _ A2.out).mono ?_); rintro e w' ⟨rfl, ⟨nd, rfl⟩⟩; refine ⟨_, rfl, ?_⟩))
  go_loopg [11] k (fun kq v11 w' => ∃ (x11_1 : Int), v11 = .int .i64 x11_1 ∧ Aside0 (civil_Date.l0 kq (wrap64 ((wrap64 ((wrap64 ((Int.tmod a0 146097) - (wrap64 ((ji4) * 36524)))) - (wrap64 ((wrap64 (Int.tdiv (wrap64 ((Int.tmod a0 146097) - (wrap64 ((ji4) * 36524)))) 1461)) * 1461)))) - (wrap64 ((ji5) * 365)))) (wrap64 ((wrap64 (2001 + (wrap64 (400 * (wrap64 (Int.tdiv a0 146097)))))) + (wrap64 ((wrap64 ((wrap64 (100 * (ji4))) + (wrap64 (4 * (wrap64 (Int.tdiv (wrap64 ((Int.tmod a0 146097) - (wrap64 ((ji4) * 36524)))) 1461)))))) + (ji5))))) x11_1 = some (r1, r2, r3, r4)) ∧ Aside0 (kq ≤ k) ∧ Aside0 (Below w.heap.size w w'))
  case atStart => exact ⟨(1), (by first | rfl | (simp; done) | (simp [*]; done) | (simp; exact (show ∀ a_ b_ : Bool, (a_ == b_) = (!(a_ != b_)) from by decide) _ _) | (rw [Bool.eq_iff_iff]; simp; done) | (simp; rw [Bool.eq_iff_iff]; simp; done)), H', ⟨Nat.le_refl _⟩, ⟨by repeat (first | (with_reducible first | exact HB.out | apply below_alloc | apply pw_below_drewN | apply below_drew1) | exact HB.out)⟩⟩
  case round =>
   clear H'
   try clear c1
   try clear p2
   try clear c3
   try clear c3b0
   try clear c3b1
   try clear c5
   obtain ⟨x11_1, rfl, HA, HK1, HB⟩ := hrel
   cases gk with
   | zero => exact absurd HA.out (by simp [civil_Date.l0])
   | succ k1 =>
    have H := HA.out
    clear HA
    simp only [civil_Date.l0] at H
    replace H := Option.bind_eq_some_iff.mp H
    obtain ⟨t102, A60, H⟩ := H
    replace H : (if (wrap64 ((wrap64 ((wrap64 ((Int.tmod a0 146097) - (wrap64 ((ji4) * 36524)))) - (wrap64 ((wrap64 (Int.tdiv (wrap64 ((Int.tmod a0 146097) - (wrap64 ((ji4) * 36524)))) 1461)) * 1461)))) - (wrap64 ((ji5) * 365)))) ≥ t102 then (civil_Date.l0 k1 (wrap64 ((wrap64 ((wrap64 ((Int.tmod a0 146097) - (wrap64 ((ji4) * 36524)))) - (wrap64 ((wrap64 (Int.tdiv (wrap64 ((Int.tmod a0 146097) - (wrap64 ((ji4) * 36524)))) 1461)) * 1461)))) - (wrap64 ((ji5) * 365)))) (wrap64 ((wrap64 (2001 + (wrap64 (400 * (wrap64 (Int.tdiv a0 146097)))))) + (wrap64 ((wrap64 ((wrap64 (100 * (ji4))) + (wrap64 (4 * (wrap64 (Int.tdiv (wrap64 ((Int.tmod a0 146097) - (wrap64 ((ji4) * 36524)))) 1461)))))) + (ji5))))) (wrap64 (x11_1 + 1))) else ((civil_first.f (wrap64 ((wrap64 (2001 + (wrap64 (400 * (wrap64 (Int.tdiv a0 146097)))))) + (wrap64 ((wrap64 ((wrap64 (100 * (ji4))) + (wrap64 (4 * (wrap64 (Int.tdiv (wrap64 ((Int.tmod a0 146097) - (wrap64 ((ji4) * 36524)))) 1461)))))) + (ji5))))) x11_1).bind fun t103 => (some ((wrap64 ((wrap64 (2001 + (wrap64 (400 * (wrap64 (Int.tdiv a0 146097)))))) + (wrap64 ((wrap64 ((wrap64 (100 * (ji4))) + (wrap64 (4 * (wrap64 (Int.tdiv (wrap64 ((Int.tmod a0 146097) - (wrap64 ((ji4) * 36524)))) 1461)))))) + (ji5))))), x11_1, wrap64 ((wrap64 ((wrap64 ((wrap64 ((wrap64 ((Int.tmod a0 146097) - (wrap64 ((ji4) * 36524)))) - (wrap64 ((wrap64 (Int.tdiv (wrap64 ((Int.tmod a0 146097) - (wrap64 ((ji4) * 36524)))) 1461)) * 1461)))) - (wrap64 ((ji5) * 365)))) - t103)) + 1), 0)))) = some (r1, r2, r3, r4) := H
    have A6 := Aside0.mk A60
    clear A60
    by_cases c7 : (wrap64 ((wrap64 ((wrap64 ((Int.tmod a0 146097) - (wrap64 ((ji4) * 36524)))) - (wrap64 ((wrap64 (Int.tdiv (wrap64 ((Int.tmod a0 146097) - (wrap64 ((ji4) * 36524)))) 1461)) * 1461)))) - (wrap64 ((ji5) * 365)))) ≥ t102
    ·rw [if_pos c7] at H
     have c7b0 : decide (t102 ≤ (wrap64 ((wrap64 ((wrap64 ((Int.tmod a0 146097) - (wrap64 ((ji4) * 36524)))) - (wrap64 ((wrap64 (Int.tdiv (wrap64 ((Int.tmod a0 146097) - (wrap64 ((ji4) * 36524)))) 1461)) * 1461)))) - (wrap64 ((ji5) * 365))))) = true := decide_eq_true c7
     clear c7
     have H' := Aside0.mk H
     clear H
     go_wp2_with (first | ((with_reducible refine gate_callee (f := 55) rfl ?_); refine goesL_ (some 56) rfl rfl Tryd.func55 (by kernel_rfl) rfl #[.int .i64 (wrap64 ((wrap64 (2001 + (wrap64 (400 * (wrap64 (Int.tdiv a0 146097)))))) + (wrap64 ((wrap64 ((wrap64 (100 * (ji4))) + (wrap64 (4 * (wrap64 (Int.tdiv (wrap64 ((Int.tmod a0 146097) - (wrap64 ((ji4) * 36524)))) 1461)))))) + (ji5))))), .int .i64 (wrap64 (x11_1 + 1))] rfl (by (try simp only [List.map_toArray, List.map_cons, List.map_nil]); first | done | (simp only [hji4, hji5]; rfl) | rfl | (simp only [List.length_drop, List.length_take]; rfl)) ?_; (with_reducible refine (civil_first.calls (wrap64 ((wrap64 (2001 + (wrap64 (400 * (wrap64 (Int.tdiv a0 146097)))))) + (wrap64 ((wrap64 ((wrap64 (100 * (ji4))) + (wrap64 (4 * (wrap64 (Int.tdiv (wrap64 ((Int.tmod a0 146097) - (wrap64 ((ji4) * 36524)))) 1461)))))) + (ji5))))) (wrap64 (x11_1 + 1)) t102 _ ?tabG A6.out).mono ?_); (case tabG => (first | exact hg | exact ⟨hg.out.below (by repeat (first | (with_reducible first | exact HB.out | apply below_alloc | apply pw_below_drewN | apply below_drew1) | exact HB.out))⟩ | exact hg | exact ⟨hg.out.drewN _⟩ | exact ⟨(hg.out.drewN _).drewN _⟩ | exact ⟨hg.out.drawn (by assumption)⟩)); rintro e w' ⟨rfl, ⟨nd, rfl⟩⟩; refine ⟨_, rfl, ?_⟩))
     go_roundg k1
     case measure => have := HK1.out; omega
     case rel => exact ⟨(wrap64 (x11_1 + 1)), (by first | rfl | (simp; done) | (simp [*]; done) | (simp; exact (show ∀ a_ b_ : Bool, (a_ == b_) = (!(a_ != b_)) from by decide) _ _) | (rw [Bool.eq_iff_iff]; simp; done) | (simp; rw [Bool.eq_iff_iff]; simp; done)), H', ⟨by have := HK1.out; omega⟩, ⟨by repeat (first | (with_reducible first | exact HB.out | apply below_alloc | apply pw_below_drewN | apply below_drew1) | exact HB.out)⟩⟩
    ·rw [if_neg c7] at H
     have c7b0 : decide (t102 ≤ (wrap64 ((wrap64 ((wrap64 ((Int.tmod a0 146097) - (wrap64 ((ji4) * 36524)))) - (wrap64 ((wrap64 (Int.tdiv (wrap64 ((Int.tmod a0 146097) - (wrap64 ((ji4) * 36524)))) 1461)) * 1461)))) - (wrap64 ((ji5) * 365))))) = false := decide_eq_false c7
     clear c7
     replace H := Option.bind_eq_some_iff.mp H
     obtain ⟨t103, A80, H⟩ := H
     replace H : (some ((wrap64 ((wrap64 (2001 + (wrap64 (400 * (wrap64 (Int.tdiv a0 146097)))))) + (wrap64 ((wrap64 ((wrap64 (100 * (ji4))) + (wrap64 (4 * (wrap64 (Int.tdiv (wrap64 ((Int.tmod a0 146097) - (wrap64 ((ji4) * 36524)))) 1461)))))) + (ji5))))), x11_1, wrap64 ((wrap64 ((wrap64 ((wrap64 ((wrap64 ((Int.tmod a0 146097) - (wrap64 ((ji4) * 36524)))) - (wrap64 ((wrap64 (Int.tdiv (wrap64 ((Int.tmod a0 146097) - (wrap64 ((ji4) * 36524)))) 1461)) * 1461)))) - (wrap64 ((ji5) * 365)))) - t103)) + 1), 0)) = some (r1, r2, r3, r4) := H
     have A8 := Aside0.mk A80
     clear A80
     simp only [Option.some.injEq, Prod.mk.injEq] at H
     obtain ⟨rfl, rfl, rfl, rfl⟩ := H
     go_wp2_with (first | ((with_reducible refine gate_callee (f := 55) rfl ?_); refine goesL_ (some 56) rfl rfl Tryd.func55 (by kernel_rfl) rfl #[.int .i64 (wrap64 ((wrap64 (2001 + (wrap64 (400 * (wrap64 (Int.tdiv a0 146097)))))) + (wrap64 ((wrap64 ((wrap64 (100 * (ji4))) + (wrap64 (4 * (wrap64 (Int.tdiv (wrap64 ((Int.tmod a0 146097) - (wrap64 ((ji4) * 36524)))) 1461)))))) + (ji5))))), .int .i64 (wrap64 (x11_1 + 1))] rfl (by (try simp only [List.map_toArray, List.map_cons, List.map_nil]); first | done | (simp only [hji4, hji5]; rfl) | rfl | (simp only [List.length_drop, List.length_take]; rfl)) ?_; (with_reducible refine (civil_first.calls (wrap64 ((wrap64 (2001 + (wrap64 (400 * (wrap64 (Int.tdiv a0 146097)))))) + (wrap64 ((wrap64 ((wrap64 (100 * (ji4))) + (wrap64 (4 * (wrap64 (Int.tdiv (wrap64 ((Int.tmod a0 146097) - (wrap64 ((ji4) * 36524)))) 1461)))))) + (ji5))))) (wrap64 (x11_1 + 1)) t102 _ ?tabG A6.out).mono ?_); (case tabG => (first | exact hg | exact ⟨hg.out.below (by repeat (first | (with_reducible first | exact HB.out | apply below_alloc | apply pw_below_drewN | apply below_drew1) | exact HB.out))⟩ | exact hg | exact ⟨hg.out.drewN _⟩ | exact ⟨(hg.out.drewN _).drewN _⟩ | exact ⟨hg.out.drawn (by assumption)⟩)); rintro e w' ⟨rfl, ⟨nd, rfl⟩⟩; refine ⟨_, rfl, ?_⟩) | ((with_reducible refine gate_callee (f := 55) rfl ?_); refine goesL_ (some 65) rfl rfl Tryd.func55 (by kernel_rfl) rfl #[.int .i64 (wrap64 ((wrap64 (2001 + (wrap64 (400 * (wrap64 (Int.tdiv a0 146097)))))) + (wrap64 ((wrap64 ((wrap64 (100 * (ji4))) + (wrap64 (4 * (wrap64 (Int.tdiv (wrap64 ((Int.tmod a0 146097) - (wrap64 ((ji4) * 36524)))) 1461)))))) + (ji5))))), .int .i64 x11_1] rfl (by (try simp only [List.map_toArray, List.map_cons, List.map_nil]); first | done | (simp only [hji4, hji5]; rfl) | rfl | (simp only [List.length_drop, List.length_take]; rfl)) ?_; (with_reducible refine (civil_first.calls (wrap64 ((wrap64 (2001 + (wrap64 (400 * (wrap64 (Int.tdiv a0 146097)))))) + (wrap64 ((wrap64 ((wrap64 (100 * (ji4))) + (wrap64 (4 * (wrap64 (Int.tdiv (wrap64 ((Int.tmod a0 146097) - (wrap64 ((ji4) * 36524)))) 1461)))))) + (ji5))))) x11_1 t103 _ ?tabG A8.out).mono ?_); (case tabG => (first | exact hg | exact ⟨hg.out.below (by repeat (first | (with_reducible first | exact HB.out | apply below_alloc | apply pw_below_drewN | apply below_drew1) | exact HB.out))⟩ | exact hg | exact ⟨hg.out.drewN _⟩ | exact ⟨(hg.out.drewN _).drewN _⟩ | exact ⟨hg.out.drawn (by assumption)⟩)); rintro e w' ⟨rfl, ⟨nd, rfl⟩⟩; refine ⟨_, rfl, ?_⟩))
     refine bodyPost_ret (results_list (rs := [.tmp 2, .tmp 3, .tmp 4, .tmp 5]) rfl (by simp) (.tmp (.tmp (.tmp (.tmp .nil))))) rfl ?_
     exact ⟨by first | rfl | (simp [errW_none, errW_some] <;> rfl) | (simp only [← hji4, ← hji5]; first | rfl | (simp [errW_none, errW_some] <;> rfl)) | (simp [*, errW_none, errW_some] <;> rfl), by repeat (first | (with_reducible first | exact HB.out | apply below_alloc | apply pw_below_drewN | apply below_drew1) | exact HB.out)⟩
 ·rw [if_neg c3] at H
  have c3b0 : (t101 == 0) = false := beq_eq_false_iff_ne.mpr c3
  have c3b1 : (t101 != 0) = true := bne_iff_ne.mpr c3
  simp only [Option.some.injEq, Prod.mk.injEq] at H
  obtain ⟨rfl, rfl, rfl, rfl⟩ := H
  go_enter Tryd.func19, Tryd.ntmps19
  go_wp2_with (first | ((with_reducible refine gate_callee (f := 54) rfl ?_); refine goesL_ (some 13) rfl rfl Tryd.func54 (by kernel_rfl) rfl #[.int .i64 a0, .int .i64 730484] rfl (by (try simp only [List.map_toArray, List.map_cons, List.map_nil]); first | done | rfl | (simp only [List.length_drop, List.length_take]; rfl)) ?_; (with_reducible refine (civil_within.calls a0 730484 t101 _ A2.out).mono ?_); rintro e w' ⟨rfl, ⟨nd, rfl⟩⟩; refine ⟨_, rfl, ?_⟩))
  refine bodyPost_ret (results_list (rs := [.tmp 2, .tmp 3, .tmp 4, .tmp 5]) rfl (by simp) (.tmp (.tmp (.tmp (.tmp .nil))))) rfl ?_
  exact ⟨by first | rfl | (simp [errW_none, errW_some] <;> rfl) | (simp [*, errW_none, errW_some] <;> rfl), by repeat (first | (with_reducible first | exact HB.out | apply below_alloc | apply pw_below_drewN | apply below_drew1) | exact HB.out)⟩
def civil_Weekday.f (a0 : Int) : Option (Int × Int) := (civil_within.f a0 730484).bind fun t104 => (if t104 = 0 then (some (Int.tmod a0 7, 0)) else (some (0, t104)))
set_option maxHeartbeats 8000000 in
set_option maxRecDepth 100000 in
theorem civil_Weekday.calls (a0 : Int) (r1 : Int) (r2 : Int) (w : World) (h : civil_Weekday.f a0 = some (r1, r2)) :
  Calls Tryd.prog 20 #[.int .i64 a0] w fun e w' => e = .returned (.tuple #[.int .i64 r1, .int .i64 r2]) ∧ Drawn0 w w' := by
 have H : ((civil_within.f a0 730484).bind fun t104 => (if t104 = 0 then (some (Int.tmod a0 7, 0)) else (some (0, t104)))) = some (r1, r2) := h
 clear h
 replace H := Option.bind_eq_some_iff.mp H
 obtain ⟨t104, A20, H⟩ := H
 replace H : (if t104 = 0 then (some (Int.tmod a0 7, 0)) else (some (0, t104))) = some (r1, r2) := H
 have A2 := Aside0.mk A20
 clear A20
 by_cases c3 : t104 = 0
 ·rw [if_pos c3] at H
  have c3b0 : (t104 == 0) = true := beq_iff_eq.mpr c3
  have c3b1 : (t104 != 0) = false := bne_eq_false_iff_eq.mpr c3
  clear c3
  simp only [Option.some.injEq, Prod.mk.injEq] at H
  obtain ⟨rfl, rfl⟩ := H
  go_enter Tryd.func20, Tryd.ntmps20
  go_wp2_with (first | ((with_reducible refine gate_callee (f := 54) rfl ?_); refine goesL_ (some 6) rfl rfl Tryd.func54 (by kernel_rfl) rfl #[.int .i64 a0, .int .i64 730484] rfl (by (try simp only [List.map_toArray, List.map_cons, List.map_nil]); first | done | rfl | (simp only [List.length_drop, List.length_take]; rfl)) ?_; (with_reducible refine (civil_within.calls a0 730484 t104 _ A2.out).mono ?_); rintro e w' ⟨rfl, ⟨nd, rfl⟩⟩; refine ⟨_, rfl, ?_⟩))
  go_ret2
  exact ⟨by first | rfl | (simp; done) | (simp [*]; done) | (simp; exact (show ∀ a_ b_ : Bool, (a_ == b_) = (!(a_ != b_)) from by decide) _ _), by repeat (first | exact Drawn0.refl _ | apply Drawn0.step)⟩
 ·rw [if_neg c3] at H
  have c3b0 : (t104 == 0) = false := beq_eq_false_iff_ne.mpr c3
  have c3b1 : (t104 != 0) = true := bne_iff_ne.mpr c3
  simp only [Option.some.injEq, Prod.mk.injEq] at H
  obtain ⟨rfl, rfl⟩ := H
  go_enter Tryd.func20, Tryd.ntmps20
  go_wp2_with (first | ((with_reducible refine gate_callee (f := 54) rfl ?_); refine goesL_ (some 6) rfl rfl Tryd.func54 (by kernel_rfl) rfl #[.int .i64 a0, .int .i64 730484] rfl (by (try simp only [List.map_toArray, List.map_cons, List.map_nil]); first | done | rfl | (simp only [List.length_drop, List.length_take]; rfl)) ?_; (with_reducible refine (civil_within.calls a0 730484 t104 _ A2.out).mono ?_); rintro e w' ⟨rfl, ⟨nd, rfl⟩⟩; refine ⟨_, rfl, ?_⟩))
  go_ret2
  exact ⟨by first | rfl | (simp; done) | (simp [*]; done) | (simp; exact (show ∀ a_ b_ : Bool, (a_ == b_) = (!(a_ != b_)) from by decide) _ _), by repeat (first | exact Drawn0.refl _ | apply Drawn0.step)⟩
def civil_Right.l0 : Nat → List Int → Int → List Int → Int → Int → Option (Bool)
 | 0, _, _, _, _, _ => none
 | k + 1, x0, x3, x6, x7, x8 => if x8 < x7 then (if 0 ≤ x8 then (if x8 < (x6.length : Int) then (if (rd x6 x8) ≤ x3 then (some false) else (if (rd x6 x8) > 730484 then (some false) else (civil_Right.l0 k x0 (rd x6 x8) x6 x7 (wrap64 (x8 + 1))))) else (none)) else (none)) else (some (decide ((x0.length : Int) ≤ 1000)))
def civil_Right.f (k : Nat) (l0 : List Int) : Option (Bool) := civil_Right.l0 k l0 (-1) l0 (l0.length : Int) 0
set_option maxHeartbeats 8000000 in
set_option maxRecDepth 100000 in
theorem civil_Right.calls (k : Nat) (A0 : Option Addr) (c0 : Nat) (l0 : List Int) (r : Bool) (w : World) (hr0 : Kd.C (Kd.int .i64) w A0 l0.length l0) (hc0 : l0.length ≤ c0) (h : civil_Right.f k l0 = some r) :
  Calls Tryd.prog 29 #[.slice A0 l0.length c0] w fun e w' => e = .returned (.bool r) ∧ Drawn0 w w' := by
 have HR0 := Aside0.mk hr0
 have HC0 := Aside0.mk hc0
 clear hr0 hc0
 have H : (civil_Right.l0 k l0 (-1) l0 (l0.length : Int) 0) = some r := h
 clear h
 have H' := Aside0.mk H
 clear H
 go_enter Tryd.func29, Tryd.ntmps29
 go_wp2
 go_loopg [3, 8] k (fun kq v3 v8 w' => ∃ (x3_1 : Int) (x8_1 : Int), v3 = .int .i64 x3_1 ∧ v8 = .int .i64 x8_1 ∧ Aside0 (civil_Right.l0 kq l0 x3_1 l0 (l0.length : Int) x8_1 = some r) ∧ Aside0 (kq ≤ k) ∧ Drawn0 w w')
 case atStart => exact ⟨((-1)), (0), (by first | rfl | (simp; done) | (simp [*]; done) | (simp; exact (show ∀ a_ b_ : Bool, (a_ == b_) = (!(a_ != b_)) from by decide) _ _) | (rw [Bool.eq_iff_iff]; simp; done) | (simp; rw [Bool.eq_iff_iff]; simp; done)), (by first | rfl | (simp; done) | (simp [*]; done) | (simp; exact (show ∀ a_ b_ : Bool, (a_ == b_) = (!(a_ != b_)) from by decide) _ _) | (rw [Bool.eq_iff_iff]; simp; done) | (simp; rw [Bool.eq_iff_iff]; simp; done)), H', ⟨Nat.le_refl _⟩, by repeat (first | exact Drawn0.refl _ | apply Drawn0.step)⟩
 case round =>
  clear H'
  obtain ⟨x3_1, x8_1, rfl, rfl, HA, HK1, ⟨m1, rfl⟩⟩ := hrel
  cases gk with
  | zero => exact absurd HA.out (by simp [civil_Right.l0])
  | succ k1 =>
   have H := HA.out
   clear HA
   simp only [civil_Right.l0] at H
   by_cases c2 : x8_1 < (l0.length : Int)
   ·rw [if_pos c2] at H
    have c2b0 : decide (x8_1 < (l0.length : Int)) = true := decide_eq_true c2
    clear c2
    by_cases c3 : 0 ≤ x8_1
    ·rw [if_pos c3] at H
     have c3b0 : decide (0 ≤ x8_1) = true := decide_eq_true c3
     clear c3
     by_cases c4 : x8_1 < (l0.length : Int)
     ·rw [if_pos c4] at H
      have c4b0 : decide (x8_1 < (l0.length : Int)) = true := decide_eq_true c4
      clear c4
      by_cases c5 : (rd l0 x8_1) ≤ x3_1
      ·rw [if_pos c5] at H
       have c5b0 : decide ((rd l0 x8_1) ≤ x3_1) = true := decide_eq_true c5
       clear c5
       obtain rfl := Option.some.inj H
       have p106 : 0 ≤ (x8_1 : Int) := of_decide_eq_true (by first | (with_reducible assumption) | assumption)
       have q106 : x8_1 < (l0.length : Int) := of_decide_eq_true (by first | (with_reducible assumption) | assumption)
       obtain ⟨ad106, e106, hx106_0⟩ := Kd.at_int HR0.out x8_1 p106 q106
       cases e106
       replace p106 := eq_true p106
       replace q106 := eq_true q106
       go_wp2
       go_ret
       exact ⟨by first | rfl | (simp; done) | (simp [*]; done) | (simp; exact (show ∀ a_ b_ : Bool, (a_ == b_) = (!(a_ != b_)) from by decide) _ _), by repeat (first | exact Drawn0.refl _ | apply Drawn0.step)⟩
      ·rw [if_neg c5] at H
       have c5b0 : decide ((rd l0 x8_1) ≤ x3_1) = false := decide_eq_false c5
       clear c5
       by_cases c6 : (rd l0 x8_1) > 730484
       ·rw [if_pos c6] at H
        have c6b0 : decide (730484 < (rd l0 x8_1)) = true := decide_eq_true c6
        clear c6
        obtain rfl := Option.some.inj H
        have p106 : 0 ≤ (x8_1 : Int) := of_decide_eq_true (by first | (with_reducible assumption) | assumption)
        have q106 : x8_1 < (l0.length : Int) := of_decide_eq_true (by first | (with_reducible assumption) | assumption)
        obtain ⟨ad106, e106, hx106_0⟩ := Kd.at_int HR0.out x8_1 p106 q106
        cases e106
        replace p106 := eq_true p106
        replace q106 := eq_true q106
        go_wp2
        go_ret
        exact ⟨by first | rfl | (simp; done) | (simp [*]; done) | (simp; exact (show ∀ a_ b_ : Bool, (a_ == b_) = (!(a_ != b_)) from by decide) _ _), by repeat (first | exact Drawn0.refl _ | apply Drawn0.step)⟩
       ·rw [if_neg c6] at H
        have c6b0 : decide (730484 < (rd l0 x8_1)) = false := decide_eq_false c6
        clear c6
        have H' := Aside0.mk H
        clear H
        have p106 : 0 ≤ (x8_1 : Int) := of_decide_eq_true (by first | (with_reducible assumption) | assumption)
        have q106 : x8_1 < (l0.length : Int) := of_decide_eq_true (by first | (with_reducible assumption) | assumption)
        obtain ⟨ad106, e106, hx106_0⟩ := Kd.at_int HR0.out x8_1 p106 q106
        cases e106
        replace p106 := eq_true p106
        replace q106 := eq_true q106
        go_wp2
        go_roundg k1
        case measure => have := HK1.out; omega
        case rel => exact ⟨(rd l0 x8_1), (wrap64 (x8_1 + 1)), (by first | rfl | (simp; done) | (simp [*]; done) | (simp; exact (show ∀ a_ b_ : Bool, (a_ == b_) = (!(a_ != b_)) from by decide) _ _) | (rw [Bool.eq_iff_iff]; simp; done) | (simp; rw [Bool.eq_iff_iff]; simp; done)), (by first | rfl | (simp; done) | (simp [*]; done) | (simp; exact (show ∀ a_ b_ : Bool, (a_ == b_) = (!(a_ != b_)) from by decide) _ _) | (rw [Bool.eq_iff_iff]; simp; done) | (simp; rw [Bool.eq_iff_iff]; simp; done)), H', ⟨by have := HK1.out; omega⟩, by repeat (first | exact Drawn0.refl _ | apply Drawn0.step)⟩
     ·rw [if_neg c4] at H
      exact absurd H (by simp)
    ·rw [if_neg c3] at H
     exact absurd H (by simp)
   ·rw [if_neg c2] at H
    have c2b0 : decide (x8_1 < (l0.length : Int)) = false := decide_eq_false c2
    clear c2
    obtain rfl := Option.some.inj H
    go_wp2
    go_ret
    exact ⟨by first | rfl | (simp; done) | (simp [*]; done) | (simp; exact (show ∀ a_ b_ : Bool, (a_ == b_) = (!(a_ != b_)) from by decide) _ _), by repeat (first | exact Drawn0.refl _ | apply Drawn0.step)⟩
def civil_dated.f (a0 : Int) (a1 : Int) (a2 : Int) : Option (Bool) := if a0 ≥ 2001 then (if a0 ≤ 4000 then (if a1 ≥ 1 then (if a1 ≤ 12 then (if a2 ≥ 1 then ((civil_first.f a0 (wrap64 (a1 + 1))).bind fun t107 => ((civil_first.f a0 a1).bind fun t108 => (some (decide (a2 ≤ (wrap64 (t107 - t108))))))) else (some false)) else (some false)) else (some false)) else (some false)) else (some false)
set_option maxHeartbeats 8000000 in
set_option maxRecDepth 100000 in
theorem civil_dated.calls (a0 : Int) (a1 : Int) (a2 : Int) (r : Bool) (w : World) (hg : Aside0 (Tab w)) (h : civil_dated.f a0 a1 a2 = some r) :
  Calls Tryd.prog 59 #[.int .i64 a0, .int .i64 a1, .int .i64 a2] w fun e w' => e = .returned (.bool r) ∧ Drawn0 w w' := by
 have H : (if a0 ≥ 2001 then (if a0 ≤ 4000 then (if a1 ≥ 1 then (if a1 ≤ 12 then (if a2 ≥ 1 then ((civil_first.f a0 (wrap64 (a1 + 1))).bind fun t107 => ((civil_first.f a0 a1).bind fun t108 => (some (decide (a2 ≤ (wrap64 (t107 - t108))))))) else (some false)) else (some false)) else (some false)) else (some false)) else (some false)) = some r := h
 clear h
 by_cases c4 : a0 ≥ 2001
 ·rw [if_pos c4] at H
  have c4b0 : decide (2001 ≤ a0) = true := decide_eq_true c4
  clear c4
  by_cases c5 : a0 ≤ 4000
  ·rw [if_pos c5] at H
   have c5b0 : decide (a0 ≤ 4000) = true := decide_eq_true c5
   clear c5
   by_cases c6 : a1 ≥ 1
   ·rw [if_pos c6] at H
    have c6b0 : decide (1 ≤ a1) = true := decide_eq_true c6
    clear c6
    by_cases c7 : a1 ≤ 12
    ·rw [if_pos c7] at H
     have c7b0 : decide (a1 ≤ 12) = true := decide_eq_true c7
     clear c7
     by_cases c8 : a2 ≥ 1
     ·rw [if_pos c8] at H
      have c8b0 : decide (1 ≤ a2) = true := decide_eq_true c8
      clear c8
      replace H := Option.bind_eq_some_iff.mp H
      obtain ⟨t107, A90, H⟩ := H
      replace H : ((civil_first.f a0 a1).bind fun t108 => (some (decide (a2 ≤ (wrap64 (t107 - t108)))))) = some r := H
      have A9 := Aside0.mk A90
      clear A90
      replace H := Option.bind_eq_some_iff.mp H
      obtain ⟨t108, A100, H⟩ := H
      replace H : (some (decide (a2 ≤ (wrap64 (t107 - t108))))) = some r := H
      have A10 := Aside0.mk A100
      clear A100
      obtain rfl := Option.some.inj H
      go_enter Tryd.func59, Tryd.ntmps59
      go_wp2_with (first | (go_at_call 55; (with_reducible refine (civil_first.calls a0 (wrap64 (a1 + 1)) t107 _ ?tabG A9.out).mono ?_); (case tabG => (first | exact hg | exact ⟨hg.out.drewN _⟩ | exact ⟨(hg.out.drewN _).drewN _⟩ | exact ⟨hg.out.drawn (by assumption)⟩)); rintro e w' ⟨rfl, ⟨nd, rfl⟩⟩) | (go_at_call 55; (with_reducible refine (civil_first.calls a0 a1 t108 _ ?tabG A10.out).mono ?_); (case tabG => (first | exact hg | exact ⟨hg.out.drewN _⟩ | exact ⟨(hg.out.drewN _).drewN _⟩ | exact ⟨hg.out.drawn (by assumption)⟩)); rintro e w' ⟨rfl, ⟨nd, rfl⟩⟩))
      go_ret
      exact ⟨by first | rfl | (simp; done) | (simp [*]; done) | (simp; exact (show ∀ a_ b_ : Bool, (a_ == b_) = (!(a_ != b_)) from by decide) _ _), by repeat (first | exact Drawn0.refl _ | apply Drawn0.step)⟩
     ·rw [if_neg c8] at H
      have c8b0 : decide (1 ≤ a2) = false := decide_eq_false c8
      clear c8
      obtain rfl := Option.some.inj H
      go_enter Tryd.func59, Tryd.ntmps59
      go_wp2
      go_ret
      exact ⟨by first | rfl | (simp; done) | (simp [*]; done) | (simp; exact (show ∀ a_ b_ : Bool, (a_ == b_) = (!(a_ != b_)) from by decide) _ _), by repeat (first | exact Drawn0.refl _ | apply Drawn0.step)⟩
    ·rw [if_neg c7] at H
     have c7b0 : decide (a1 ≤ 12) = false := decide_eq_false c7
     clear c7
     obtain rfl := Option.some.inj H
     go_enter Tryd.func59, Tryd.ntmps59
     go_wp2
     go_ret
     exact ⟨by first | rfl | (simp; done) | (simp [*]; done) | (simp; exact (show ∀ a_ b_ : Bool, (a_ == b_) = (!(a_ != b_)) from by decide) _ _), by repeat (first | exact Drawn0.refl _ | apply Drawn0.step)⟩
   ·rw [if_neg c6] at H
    have c6b0 : decide (1 ≤ a1) = false := decide_eq_false c6
    clear c6
    obtain rfl := Option.some.inj H
    go_enter Tryd.func59, Tryd.ntmps59
    go_wp2
    go_ret
    exact ⟨by first | rfl | (simp; done) | (simp [*]; done) | (simp; exact (show ∀ a_ b_ : Bool, (a_ == b_) = (!(a_ != b_)) from by decide) _ _), by repeat (first | exact Drawn0.refl _ | apply Drawn0.step)⟩
  ·rw [if_neg c5] at H
   have c5b0 : decide (a0 ≤ 4000) = false := decide_eq_false c5
   clear c5
   obtain rfl := Option.some.inj H
   go_enter Tryd.func59, Tryd.ntmps59
   go_wp2
   go_ret
   exact ⟨by first | rfl | (simp; done) | (simp [*]; done) | (simp; exact (show ∀ a_ b_ : Bool, (a_ == b_) = (!(a_ != b_)) from by decide) _ _), by repeat (first | exact Drawn0.refl _ | apply Drawn0.step)⟩
 ·rw [if_neg c4] at H
  have c4b0 : decide (2001 ≤ a0) = false := decide_eq_false c4
  clear c4
  obtain rfl := Option.some.inj H
  go_enter Tryd.func59, Tryd.ntmps59
  go_wp2
  go_ret
  exact ⟨by first | rfl | (simp; done) | (simp [*]; done) | (simp; exact (show ∀ a_ b_ : Bool, (a_ == b_) = (!(a_ != b_)) from by decide) _ _), by repeat (first | exact Drawn0.refl _ | apply Drawn0.step)⟩
def civil_Yearly.j0 : Nat → Int → Int → Int → Int → Bool → Option (Bool × Int)
 | 0, _, _, _, _, _ => none
 | k + 1, x1, x2, x9, x10, x36 => if x36 = true then (some (false, 10)) else (if x1 > x2 then (if (wrap64 ((wrap64 (100 * x9)) + x10)) ≥ x1 then (some (true, 0)) else (some (decide ((wrap64 ((wrap64 (100 * x9)) + x10)) ≤ x2), 0))) else (if (wrap64 ((wrap64 (100 * x9)) + x10)) ≥ x1 then (some (decide ((wrap64 ((wrap64 (100 * x9)) + x10)) ≤ x2), 0)) else (some (false, 0))))
def civil_Yearly.f (k : Nat) (a0 : Int) (a1 : Int) (a2 : Int) : Option (Bool × Int) := (civil_Date.f k a0).bind fun bt109 => (if bt109.2.2.2 = 0 then ((civil_dated.f 2004 (wrap64 (Int.tdiv a1 100)) (Int.tmod a1 100)).bind fun t113 => (if t113 = true then ((civil_dated.f 2004 (wrap64 (Int.tdiv a2 100)) (Int.tmod a2 100)).bind fun t114 => (civil_Yearly.j0 k a1 a2 bt109.2.1 bt109.2.2.1 (!t114))) else (civil_Yearly.j0 k a1 a2 bt109.2.1 bt109.2.2.1 true))) else (some (false, bt109.2.2.2)))
theorem civil_Yearly.mono_l : ∀ k, (∀ y0 y1 y2 y3 y4, LeO (civil_Yearly.j0 k y0 y1 y2 y3 y4) (civil_Yearly.j0 (k + 1) y0 y1 y2 y3 y4))
 | 0 => fun _ _ _ _ _ r h => by simp [civil_Yearly.j0] at h
 | k + 1 => by
  have ih0 := civil_Yearly.mono_l k
  ·intro y0 y1 y2 y3 y4
   unfold civil_Yearly.j0
   repeat' first
   | (with_reducible exact ih0 _ _ _ _ _)
   | (with_reducible exact civil_Date.mono _ _)
   | (with_reducible exact LeO.refl _)
   | (with_reducible exact LeO.none _)
   | (with_reducible refine LeO.ite ?_ ?_)
   | (with_reducible refine LeO.bind ?_ (fun _ => ?_))
   | exact ih0 _ _ _ _ _
   | exact civil_Date.mono _ _
   | exact LeO.none _
   | refine LeO.ite ?_ ?_
   | refine LeO.bind ?_ (fun _ => ?_)
theorem civil_Yearly.mono : ∀ a0 a1 a2 k, LeO (civil_Yearly.f k a0 a1 a2) (civil_Yearly.f (k + 1) a0 a1 a2) := by
 intro a0 a1 a2 k
 have ih0 := civil_Yearly.mono_l k
 unfold civil_Yearly.f
 repeat' first
  | (with_reducible exact ih0 _ _ _ _ _)
  | (with_reducible exact civil_Date.mono _ _)
  | (with_reducible exact LeO.refl _)
  | (with_reducible exact LeO.none _)
  | (with_reducible refine LeO.ite ?_ ?_)
  | (with_reducible refine LeO.bind ?_ (fun _ => ?_))
  | exact ih0 _ _ _ _ _
  | exact civil_Date.mono _ _
  | exact LeO.none _
  | refine LeO.ite ?_ ?_
  | refine LeO.bind ?_ (fun _ => ?_)
set_option maxHeartbeats 8000000 in
set_option maxRecDepth 100000 in
theorem civil_Yearly.calls (k : Nat) (a0 : Int) (a1 : Int) (a2 : Int) (r1 : Bool) (r2 : Int) (w : World) (hg : Aside0 (Tab w)) (h : civil_Yearly.f k a0 a1 a2 = some (r1, r2)) :
  Calls Tryd.prog 27 #[.int .i64 a0, .int .i64 a1, .int .i64 a2] w fun e w' => e = .returned (.tuple #[.bool r1, .int .i64 r2]) ∧ Below w.heap.size w w' := by
 have HB := Aside0.mk (Below.refl w.heap.size w)
 have H : ((civil_Date.f k a0).bind fun bt109 => (if bt109.2.2.2 = 0 then ((civil_dated.f 2004 (wrap64 (Int.tdiv a1 100)) (Int.tmod a1 100)).bind fun t113 => (if t113 = true then ((civil_dated.f 2004 (wrap64 (Int.tdiv a2 100)) (Int.tmod a2 100)).bind fun t114 => (civil_Yearly.j0 k a1 a2 bt109.2.1 bt109.2.2.1 (!t114))) else (civil_Yearly.j0 k a1 a2 bt109.2.1 bt109.2.2.1 true))) else (some (false, bt109.2.2.2)))) = some (r1, r2) := h
 clear h
 replace H := Option.bind_eq_some_iff.mp H
 obtain ⟨⟨t109, t110, t111, t112⟩, A40, H⟩ := H
 replace H : (if t112 = 0 then ((civil_dated.f 2004 (wrap64 (Int.tdiv a1 100)) (Int.tmod a1 100)).bind fun t113 => (if t113 = true then ((civil_dated.f 2004 (wrap64 (Int.tdiv a2 100)) (Int.tmod a2 100)).bind fun t114 => (civil_Yearly.j0 k a1 a2 t110 t111 (!t114))) else (civil_Yearly.j0 k a1 a2 t110 t111 true))) else (some (false, t112))) = some (r1, r2) := H
 have A4 := Aside0.mk A40
 clear A40
 by_cases c5 : t112 = 0
 ·rw [if_pos c5] at H
  have c5b0 : (t112 == 0) = true := beq_iff_eq.mpr c5
  have c5b1 : (t112 != 0) = false := bne_eq_false_iff_eq.mpr c5
  clear c5
  have HC6 := Aside0.mk H
  clear H
  go_enter Tryd.func27, Tryd.ntmps27
  go_upto_region 4 with (first | ((with_reducible refine gate_callee (f := 19) rfl ?_); refine goesL_ (some 15) rfl rfl Tryd.func19 (by kernel_rfl) rfl #[.int .i64 a0] rfl (by (try simp only [List.map_toArray, List.map_cons, List.map_nil]); first | done | rfl | (simp only [List.length_drop, List.length_take]; rfl)) ?_; (with_reducible refine (civil_Date.calls k a0 t109 t110 t111 t112 _ ?tabG A4.out).mono ?_); (case tabG => (first | exact hg | exact ⟨hg.out.below (by repeat (first | (with_reducible first | exact HB.out | apply below_alloc | apply pw_below_drewN | apply below_drew1) | exact HB.out))⟩)); rintro e w7 ⟨rfl, hb⟩; refine ⟨_, rfl, ?_⟩; have n0_ := Aside0.mk (below_step (by repeat (first | (with_reducible first | exact HB.out | apply below_alloc | apply pw_below_drewN | apply below_drew1) | exact HB.out)) hb); clear HB; have HB := n0_; clear n0_; (try clear hb); (try clear hb2); (try clear hk); (try clear hi)))
  (try simp only [Act.put, List.setIfInBounds_toArray, List.set_cons_zero, List.set_cons_succ])
  go_cut [36] (fun v36 wc => ∃ (kq : Nat) (x36_5 : Bool), v36 = .bool x36_5 ∧ Aside0 (civil_Yearly.j0 kq a1 a2 t110 t111 x36_5 = some (r1, r2)) ∧ Aside0 (kq ≤ k) ∧ Aside0 (Below w.heap.size w wc))
  case first =>
   have H := HC6.out
   clear HC6
   replace H := Option.bind_eq_some_iff.mp H
   obtain ⟨t113, A80, H⟩ := H
   replace H : (if t113 = true then ((civil_dated.f 2004 (wrap64 (Int.tdiv a2 100)) (Int.tmod a2 100)).bind fun t114 => (civil_Yearly.j0 k a1 a2 t110 t111 (!t114))) else (civil_Yearly.j0 k a1 a2 t110 t111 true)) = some (r1, r2) := H
   have A8 := Aside0.mk A80
   clear A80
   by_cases c9 : t113 = true
   ·subst c9
    have H1 : ((civil_dated.f 2004 (wrap64 (Int.tdiv a2 100)) (Int.tmod a2 100)).bind fun t114 => (civil_Yearly.j0 k a1 a2 t110 t111 (!t114))) = some (r1, r2) := by rw [if_pos rfl] at H; exact H
    clear H
    have H := H1
    clear H1
    replace H := Option.bind_eq_some_iff.mp H
    obtain ⟨t114, A100, H⟩ := H
    replace H : (civil_Yearly.j0 k a1 a2 t110 t111 (!t114)) = some (r1, r2) := H
    have A10 := Aside0.mk A100
    clear A100
    have H' := Aside0.mk H
    clear H
    go_wp2_with (first | ((with_reducible refine gate_callee (f := 59) rfl ?_); refine goesL_ (some 27) rfl rfl Tryd.func59 (by kernel_rfl) rfl #[.int .i64 2004, .int .i64 (wrap64 (Int.tdiv a1 100)), .int .i64 (Int.tmod a1 100)] rfl (by (try simp only [List.map_toArray, List.map_cons, List.map_nil]); first | done | rfl | (simp only [List.length_drop, List.length_take]; rfl)) ?_; (with_reducible refine (civil_dated.calls 2004 (wrap64 (Int.tdiv a1 100)) (Int.tmod a1 100) true _ ?tabG A8.out).mono ?_); (case tabG => (first | exact hg | exact ⟨hg.out.below (by repeat (first | (with_reducible first | exact HB.out | apply below_alloc | apply pw_below_drewN | apply below_drew1) | exact HB.out))⟩ | exact hg | exact ⟨hg.out.drewN _⟩ | exact ⟨(hg.out.drewN _).drewN _⟩ | exact ⟨hg.out.drawn (by assumption)⟩)); rintro e w' ⟨rfl, ⟨nd, rfl⟩⟩; refine ⟨_, rfl, ?_⟩) | (go_at_call 59; (with_reducible refine (civil_dated.calls 2004 (wrap64 (Int.tdiv a2 100)) (Int.tmod a2 100) t114 _ ?tabG A10.out).mono ?_); (case tabG => (first | exact hg | exact ⟨hg.out.below (by repeat (first | (with_reducible first | exact HB.out | apply below_alloc | apply pw_below_drewN | apply below_drew1) | exact HB.out))⟩ | exact hg | exact ⟨hg.out.drewN _⟩ | exact ⟨(hg.out.drewN _).drewN _⟩ | exact ⟨hg.out.drawn (by assumption)⟩)); rintro e w' ⟨rfl, ⟨nd, rfl⟩⟩))
    go_meet
    case rel => exact ⟨_, (!t114), (by first | rfl | (simp; done) | (simp [*]; done) | (simp; exact (show ∀ a_ b_ : Bool, (a_ == b_) = (!(a_ != b_)) from by decide) _ _) | (rw [Bool.eq_iff_iff]; simp; done) | (simp; rw [Bool.eq_iff_iff]; simp; done)), H', ⟨by first | omega | exact Nat.le_refl _⟩, ⟨by repeat (first | (with_reducible first | exact HB.out | apply below_alloc | apply pw_below_drewN | apply below_drew1) | exact HB.out)⟩⟩
   ·replace c9 := Bool.eq_false_iff.mpr c9
    subst c9
    have H1 : (civil_Yearly.j0 k a1 a2 t110 t111 true) = some (r1, r2) := by rw [if_neg (show ¬ (false = true) by decide)] at H; exact H
    clear H
    have H := H1
    clear H1
    have H' := Aside0.mk H
    clear H
    go_wp2_with (first | ((with_reducible refine gate_callee (f := 59) rfl ?_); refine goesL_ (some 27) rfl rfl Tryd.func59 (by kernel_rfl) rfl #[.int .i64 2004, .int .i64 (wrap64 (Int.tdiv a1 100)), .int .i64 (Int.tmod a1 100)] rfl (by (try simp only [List.map_toArray, List.map_cons, List.map_nil]); first | done | rfl | (simp only [List.length_drop, List.length_take]; rfl)) ?_; (with_reducible refine (civil_dated.calls 2004 (wrap64 (Int.tdiv a1 100)) (Int.tmod a1 100) false _ ?tabG A8.out).mono ?_); (case tabG => (first | exact hg | exact ⟨hg.out.below (by repeat (first | (with_reducible first | exact HB.out | apply below_alloc | apply pw_below_drewN | apply below_drew1) | exact HB.out))⟩ | exact hg | exact ⟨hg.out.drewN _⟩ | exact ⟨(hg.out.drewN _).drewN _⟩ | exact ⟨hg.out.drawn (by assumption)⟩)); rintro e w' ⟨rfl, ⟨nd, rfl⟩⟩; refine ⟨_, rfl, ?_⟩))
    go_meet
    case rel => exact ⟨_, (true), (by first | rfl | (simp; done) | (simp [*]; done) | (simp; exact (show ∀ a_ b_ : Bool, (a_ == b_) = (!(a_ != b_)) from by decide) _ _) | (rw [Bool.eq_iff_iff]; simp; done) | (simp; rw [Bool.eq_iff_iff]; simp; done)), H', ⟨by first | omega | exact Nat.le_refl _⟩, ⟨by repeat (first | (with_reducible first | exact HB.out | apply below_alloc | apply pw_below_drewN | apply below_drew1) | exact HB.out)⟩⟩
  case rest =>
   clear HC6
   try clear c1
   try clear c2
   try clear p2
   try clear c5
   try clear c5b0
   try clear c5b1
   try clear p6
   try clear c9
   obtain ⟨kq, x36_5, rfl, HA, HJ5, HB⟩ := hcut
   cases kq with
   | zero => exact absurd HA.out (by simp [civil_Yearly.j0])
   | succ kj5 =>
    have H := HA.out
    clear HA
    simp only [civil_Yearly.j0] at H
    by_cases c11 : x36_5 = true
    ·subst c11
     have H1 : (some (false, 10)) = some (r1, r2) := by rw [if_pos rfl] at H; exact H
     clear H
     have H := H1
     clear H1
     simp only [Option.some.injEq, Prod.mk.injEq] at H
     obtain ⟨rfl, rfl⟩ := H
     go_wp2
     go_ret2
     exact ⟨by first | rfl | (simp [errW_none, errW_some] <;> rfl) | (simp [*, errW_none, errW_some] <;> rfl), by repeat (first | (with_reducible first | exact HB.out | apply below_alloc | apply pw_below_drewN | apply below_drew1) | exact HB.out)⟩
    ·replace c11 := Bool.eq_false_iff.mpr c11
     subst c11
     have H1 : (if a1 > a2 then (if (wrap64 ((wrap64 (100 * t110)) + t111)) ≥ a1 then (some (true, 0)) else (some (decide ((wrap64 ((wrap64 (100 * t110)) + t111)) ≤ a2), 0))) else (if (wrap64 ((wrap64 (100 * t110)) + t111)) ≥ a1 then (some (decide ((wrap64 ((wrap64 (100 * t110)) + t111)) ≤ a2), 0)) else (some (false, 0)))) = some (r1, r2) := by rw [if_neg (show ¬ (false = true) by decide)] at H; exact H
     clear H
     have H := H1
     clear H1
     by_cases c12 : a1 > a2
     ·rw [if_pos c12] at H
      have c12b0 : decide (a2 < a1) = true := decide_eq_true c12
      clear c12
      by_cases c13 : (wrap64 ((wrap64 (100 * t110)) + t111)) ≥ a1
      ·rw [if_pos c13] at H
       have c13b0 : decide (a1 ≤ (wrap64 ((wrap64 (100 * t110)) + t111))) = true := decide_eq_true c13
       clear c13
       simp only [Option.some.injEq, Prod.mk.injEq] at H
       obtain ⟨rfl, rfl⟩ := H
       go_wp2
       go_ret2
       exact ⟨by first | rfl | (simp [errW_none, errW_some] <;> rfl) | (simp [*, errW_none, errW_some] <;> rfl), by repeat (first | (with_reducible first | exact HB.out | apply below_alloc | apply pw_below_drewN | apply below_drew1) | exact HB.out)⟩
      ·rw [if_neg c13] at H
       have c13b0 : decide (a1 ≤ (wrap64 ((wrap64 (100 * t110)) + t111))) = false := decide_eq_false c13
       clear c13
       simp only [Option.some.injEq, Prod.mk.injEq] at H
       obtain ⟨rfl, rfl⟩ := H
       go_wp2
       go_ret2
       exact ⟨by first | rfl | (simp [errW_none, errW_some] <;> rfl) | (simp [*, errW_none, errW_some] <;> rfl), by repeat (first | (with_reducible first | exact HB.out | apply below_alloc | apply pw_below_drewN | apply below_drew1) | exact HB.out)⟩
     ·rw [if_neg c12] at H
      have c12b0 : decide (a2 < a1) = false := decide_eq_false c12
      clear c12
      by_cases c14 : (wrap64 ((wrap64 (100 * t110)) + t111)) ≥ a1
      ·rw [if_pos c14] at H
       have c14b0 : decide (a1 ≤ (wrap64 ((wrap64 (100 * t110)) + t111))) = true := decide_eq_true c14
       clear c14
       simp only [Option.some.injEq, Prod.mk.injEq] at H
       obtain ⟨rfl, rfl⟩ := H
       go_wp2
       go_ret2
       exact ⟨by first | rfl | (simp [errW_none, errW_some] <;> rfl) | (simp [*, errW_none, errW_some] <;> rfl), by repeat (first | (with_reducible first | exact HB.out | apply below_alloc | apply pw_below_drewN | apply below_drew1) | exact HB.out)⟩
      ·rw [if_neg c14] at H
       have c14b0 : decide (a1 ≤ (wrap64 ((wrap64 (100 * t110)) + t111))) = false := decide_eq_false c14
       clear c14
       simp only [Option.some.injEq, Prod.mk.injEq] at H
       obtain ⟨rfl, rfl⟩ := H
       go_wp2
       go_ret2
       exact ⟨by first | rfl | (simp [errW_none, errW_some] <;> rfl) | (simp [*, errW_none, errW_some] <;> rfl), by repeat (first | (with_reducible first | exact HB.out | apply below_alloc | apply pw_below_drewN | apply below_drew1) | exact HB.out)⟩
 ·rw [if_neg c5] at H
  have c5b0 : (t112 == 0) = false := beq_eq_false_iff_ne.mpr c5
  have c5b1 : (t112 != 0) = true := bne_iff_ne.mpr c5
  simp only [Option.some.injEq, Prod.mk.injEq] at H
  obtain ⟨rfl, rfl⟩ := H
  go_enter Tryd.func27, Tryd.ntmps27
  go_wp2_with (first | ((with_reducible refine gate_callee (f := 19) rfl ?_); refine goesL_ (some 15) rfl rfl Tryd.func19 (by kernel_rfl) rfl #[.int .i64 a0] rfl (by (try simp only [List.map_toArray, List.map_cons, List.map_nil]); first | done | rfl | (simp only [List.length_drop, List.length_take]; rfl)) ?_; (with_reducible refine (civil_Date.calls k a0 t109 t110 t111 t112 _ ?tabG A4.out).mono ?_); (case tabG => (first | exact hg | exact ⟨hg.out.below (by repeat (first | (with_reducible first | exact HB.out | apply below_alloc | apply pw_below_drewN | apply below_drew1) | exact HB.out))⟩)); rintro e w15 ⟨rfl, hb⟩; refine ⟨_, rfl, ?_⟩; have n0_ := Aside0.mk (below_step (by repeat (first | (with_reducible first | exact HB.out | apply below_alloc | apply pw_below_drewN | apply below_drew1) | exact HB.out)) hb); clear HB; have HB := n0_; clear n0_; (try clear hb); (try clear hb2); (try clear hk); (try clear hi)))
  go_ret2
  exact ⟨by first | rfl | (simp [errW_none, errW_some] <;> rfl) | (simp [*, errW_none, errW_some] <;> rfl), by repeat (first | (with_reducible first | exact HB.out | apply below_alloc | apply pw_below_drewN | apply below_drew1) | exact HB.out)⟩
def civil_Day.f (a0 : Int) (a1 : Int) (a2 : Int) : Option (Int × Int) := (civil_dated.f a0 a1 a2).bind fun t115 => (if t115 = true then ((civil_first.f a0 a1).bind fun t116 => (some (wrap64 ((wrap64 ((wrap64 ((wrap64 ((wrap64 ((wrap64 ((wrap64 ((wrap64 (365 * (wrap64 (a0 - 1)))) + (wrap64 (Int.tdiv (wrap64 (a0 - 1)) 4)))) - (wrap64 (Int.tdiv (wrap64 (a0 - 1)) 100)))) + (wrap64 (Int.tdiv (wrap64 (a0 - 1)) 400)))) - 730485)) + t116)) + a2)) - 1), 0))) else (some (0, 10)))
set_option maxHeartbeats 8000000 in
set_option maxRecDepth 100000 in
theorem civil_Day.calls (a0 : Int) (a1 : Int) (a2 : Int) (r1 : Int) (r2 : Int) (w : World) (hg : Aside0 (Tab w)) (h : civil_Day.f a0 a1 a2 = some (r1, r2)) :
  Calls Tryd.prog 34 #[.int .i64 a0, .int .i64 a1, .int .i64 a2] w fun e w' => e = .returned (.tuple #[.int .i64 r1, .int .i64 r2]) ∧ Drawn0 w w' := by
 have H : ((civil_dated.f a0 a1 a2).bind fun t115 => (if t115 = true then ((civil_first.f a0 a1).bind fun t116 => (some (wrap64 ((wrap64 ((wrap64 ((wrap64 ((wrap64 ((wrap64 ((wrap64 ((wrap64 (365 * (wrap64 (a0 - 1)))) + (wrap64 (Int.tdiv (wrap64 (a0 - 1)) 4)))) - (wrap64 (Int.tdiv (wrap64 (a0 - 1)) 100)))) + (wrap64 (Int.tdiv (wrap64 (a0 - 1)) 400)))) - 730485)) + t116)) + a2)) - 1), 0))) else (some (0, 10)))) = some (r1, r2) := h
 clear h
 replace H := Option.bind_eq_some_iff.mp H
 obtain ⟨t115, A40, H⟩ := H
 replace H : (if t115 = true then ((civil_first.f a0 a1).bind fun t116 => (some (wrap64 ((wrap64 ((wrap64 ((wrap64 ((wrap64 ((wrap64 ((wrap64 ((wrap64 (365 * (wrap64 (a0 - 1)))) + (wrap64 (Int.tdiv (wrap64 (a0 - 1)) 4)))) - (wrap64 (Int.tdiv (wrap64 (a0 - 1)) 100)))) + (wrap64 (Int.tdiv (wrap64 (a0 - 1)) 400)))) - 730485)) + t116)) + a2)) - 1), 0))) else (some (0, 10))) = some (r1, r2) := H
 have A4 := Aside0.mk A40
 clear A40
 by_cases c5 : t115 = true
 ·subst c5
  have H1 : ((civil_first.f a0 a1).bind fun t116 => (some (wrap64 ((wrap64 ((wrap64 ((wrap64 ((wrap64 ((wrap64 ((wrap64 ((wrap64 (365 * (wrap64 (a0 - 1)))) + (wrap64 (Int.tdiv (wrap64 (a0 - 1)) 4)))) - (wrap64 (Int.tdiv (wrap64 (a0 - 1)) 100)))) + (wrap64 (Int.tdiv (wrap64 (a0 - 1)) 400)))) - 730485)) + t116)) + a2)) - 1), 0))) = some (r1, r2) := by rw [if_pos rfl] at H; exact H
  clear H
  have H := H1
  clear H1
  replace H := Option.bind_eq_some_iff.mp H
  obtain ⟨t116, A60, H⟩ := H
  replace H : (some (wrap64 ((wrap64 ((wrap64 ((wrap64 ((wrap64 ((wrap64 ((wrap64 ((wrap64 (365 * (wrap64 (a0 - 1)))) + (wrap64 (Int.tdiv (wrap64 (a0 - 1)) 4)))) - (wrap64 (Int.tdiv (wrap64 (a0 - 1)) 100)))) + (wrap64 (Int.tdiv (wrap64 (a0 - 1)) 400)))) - 730485)) + t116)) + a2)) - 1), 0)) = some (r1, r2) := H
  have A6 := Aside0.mk A60
  clear A60
  simp only [Option.some.injEq, Prod.mk.injEq] at H
  obtain ⟨rfl, rfl⟩ := H
  go_enter Tryd.func34, Tryd.ntmps34
  go_wp2_with (first | ((with_reducible refine gate_callee (f := 59) rfl ?_); refine goesL_ (some 12) rfl rfl Tryd.func59 (by kernel_rfl) rfl #[.int .i64 a0, .int .i64 a1, .int .i64 a2] rfl (by (try simp only [List.map_toArray, List.map_cons, List.map_nil]); first | done | rfl | (simp only [List.length_drop, List.length_take]; rfl)) ?_; (with_reducible refine (civil_dated.calls a0 a1 a2 true _ ?tabG A4.out).mono ?_); (case tabG => (first | exact hg | exact ⟨hg.out.drewN _⟩ | exact ⟨(hg.out.drewN _).drewN _⟩ | exact ⟨hg.out.drawn (by assumption)⟩)); rintro e w' ⟨rfl, ⟨nd, rfl⟩⟩; refine ⟨_, rfl, ?_⟩) | ((with_reducible refine gate_callee (f := 55) rfl ?_); refine goesL_ (some 30) rfl rfl Tryd.func55 (by kernel_rfl) rfl #[.int .i64 a0, .int .i64 a1] rfl (by (try simp only [List.map_toArray, List.map_cons, List.map_nil]); first | done | rfl | (simp only [List.length_drop, List.length_take]; rfl)) ?_; (with_reducible refine (civil_first.calls a0 a1 t116 _ ?tabG A6.out).mono ?_); (case tabG => (first | exact hg | exact ⟨hg.out.drewN _⟩ | exact ⟨(hg.out.drewN _).drewN _⟩ | exact ⟨hg.out.drawn (by assumption)⟩)); rintro e w' ⟨rfl, ⟨nd, rfl⟩⟩; refine ⟨_, rfl, ?_⟩))
  go_ret2
  exact ⟨by first | rfl | (simp; done) | (simp [*]; done) | (simp; exact (show ∀ a_ b_ : Bool, (a_ == b_) = (!(a_ != b_)) from by decide) _ _), by repeat (first | exact Drawn0.refl _ | apply Drawn0.step)⟩
 ·replace c5 := Bool.eq_false_iff.mpr c5
  subst c5
  have H1 : (some (0, 10)) = some (r1, r2) := by rw [if_neg (show ¬ (false = true) by decide)] at H; exact H
  clear H
  have H := H1
  clear H1
  simp only [Option.some.injEq, Prod.mk.injEq] at H
  obtain ⟨rfl, rfl⟩ := H
  go_enter Tryd.func34, Tryd.ntmps34
  go_wp2_with (first | ((with_reducible refine gate_callee (f := 59) rfl ?_); refine goesL_ (some 12) rfl rfl Tryd.func59 (by kernel_rfl) rfl #[.int .i64 a0, .int .i64 a1, .int .i64 a2] rfl (by (try simp only [List.map_toArray, List.map_cons, List.map_nil]); first | done | rfl | (simp only [List.length_drop, List.length_take]; rfl)) ?_; (with_reducible refine (civil_dated.calls a0 a1 a2 false _ ?tabG A4.out).mono ?_); (case tabG => (first | exact hg | exact ⟨hg.out.drewN _⟩ | exact ⟨(hg.out.drewN _).drewN _⟩ | exact ⟨hg.out.drawn (by assumption)⟩)); rintro e w' ⟨rfl, ⟨nd, rfl⟩⟩; refine ⟨_, rfl, ?_⟩))
  go_ret2
  exact ⟨by first | rfl | (simp; done) | (simp [*]; done) | (simp; exact (show ∀ a_ b_ : Bool, (a_ == b_) = (!(a_ != b_)) from by decide) _ _), by repeat (first | exact Drawn0.refl _ | apply Drawn0.step)⟩
end Go.Proofs.YtehnhedifhpalaaDoor.Cp
set_option linter.unusedVariables false
set_option linter.unusedSimpArgs false
namespace Go.Proofs.YtehnhedifhpalaaDoor.Cp
open Go.RowKit Go.Proofs.YtehnhedifhpalaaDoorW.PrintWords Go.Proofs.YtehnhedifhpalaaDoorW.PrintLast Go.Proofs.YtehnhedifhpalaaDoorW.PrintMore
theorem leapB_iff {y : Int} (hy : 0 ≤ y) : leapB y = decide (Cv.leap y) := by
  unfold leapB
  rw [Int.tmod_eq_emod_of_nonneg hy, Int.tmod_eq_emod_of_nonneg hy, Int.tmod_eq_emod_of_nonneg hy, Bool.eq_iff_iff, decide_eq_true_eq]
  unfold Cv.leap
  simp
theorem tab_ah (m : Int) : tabL.getD (m - 1).toNat 0 = Cv.ah m := rfl
theorem first_f {y m : Int} (hy : 0 ≤ y) (h1 : 1 ≤ m) (h2 : m ≤ 13) : civil_first.f y m = some (Cv.fst y m) := by
  unfold civil_first.f Cv.fst Cv.lp
  rw [if_pos h1, if_pos h2, tab_ah, leapB_iff hy]
  by_cases c : 2 < m
  · rw [if_pos c, if_pos c]
    by_cases l : Cv.leap y
    · rw [decide_eq_true l, if_pos rfl, if_pos l]
    · rw [decide_eq_false l, if_neg Bool.false_ne_true, if_neg l, Int.add_zero]
  · rw [if_neg c, if_neg c, Int.add_zero]
theorem date_l0 {y u : Int} (hy : 0 ≤ y) (hu : u < Cv.fst y 13) (d : Nat) : ∀ m : Int, 1 ≤ m → m ≤ 12 → 12 - m = d → Cv.fst y m ≤ u →
    ∃ n, (1 ≤ n ∧ n ≤ 12) ∧ Cv.fst y n ≤ u ∧ u < Cv.fst y (n + 1) ∧ Ev (fun k => civil_Date.l0 k u y m) (y, n, u - Cv.fst y n + 1, 0) := by
  induction d with
  | zero =>
    intro m h1 h2 hd hf
    obtain rfl : m = 12 := by omega
    refine ⟨12, by omega, hf, hu, ?_⟩
    have hb := Cv.fst_bd y (m := 12) (by decide) (by decide)
    have hb2 := Cv.fst_bd y (m := 13) (by decide) (by decide)
    refine Ev.step (fun k => civil_Date.l0.eq_2 _ _ _ k) ?_
    have w1 : wrap64 ((12 : Int) + 1) = 13 := w64 (by decide) (by decide)
    rw [w1]
    refine Ev.bind (ev_val (first_f hy (by decide) (by decide))) (ev_neg (by omega) (Ev.bind (ev_val (first_f hy (by decide) (by decide))) (ev_eq ?_ (Ev.now _))))
    have q : (-9223372036854775808 ≤ u - Cv.fst y 12 ∧ u - Cv.fst y 12 ≤ 9223372036854775807) ∧ -9223372036854775808 ≤ u - Cv.fst y 12 + 1 ∧ u - Cv.fst y 12 + 1 ≤ 9223372036854775807 := by clear w1; omega
    rw [w64 q.1.1 q.1.2, w64 q.2.1 q.2.2]
  | succ d ih =>
    intro m h1 h2 hd hf
    have hb := Cv.fst_bd y (m := m) h1 (by omega)
    have hb2 := Cv.fst_bd y (m := m + 1) (by omega) (by omega)
    have hb3 := Cv.fst_bd y (m := 13) (by decide) (by decide)
    have q0 : -9223372036854775808 ≤ m + 1 ∧ m + 1 ≤ 9223372036854775807 := by omega
    by_cases c : u ≥ Cv.fst y (m + 1)
    · obtain ⟨n, k1, k2, k3, k4⟩ := ih (m + 1) (by omega) (by omega) (by omega) c
      refine ⟨n, k1, k2, k3, Ev.step (fun k => civil_Date.l0.eq_2 _ _ _ k) ?_⟩
      rw [w64 q0.1 q0.2]
      exact Ev.bind (ev_val (first_f hy (by omega) (by omega))) (ev_pos c k4)
    · refine ⟨m, ⟨h1, h2⟩, hf, by omega, Ev.step (fun k => civil_Date.l0.eq_2 _ _ _ k) ?_⟩
      rw [w64 q0.1 q0.2]
      refine Ev.bind (ev_val (first_f hy (by omega) (by omega))) (ev_neg c (Ev.bind (ev_val (first_f hy h1 (by omega))) (ev_eq ?_ (Ev.now _))))
      have q : (-9223372036854775808 ≤ u - Cv.fst y m ∧ u - Cv.fst y m ≤ 9223372036854775807) ∧ -9223372036854775808 ≤ u - Cv.fst y m + 1 ∧ u - Cv.fst y m + 1 ≤ 9223372036854775807 := by omega
      rw [w64 q.1.1 q.1.2, w64 q.2.1 q.2.2]
end Go.Proofs.YtehnhedifhpalaaDoor.Cp
namespace Go.Proofs.YtehnhedifhpalaaDoor.Cp
open Go.RowKit Go.Proofs.YtehnhedifhpalaaDoorW.PrintWords Go.Proofs.YtehnhedifhpalaaDoorW.PrintLast Go.Proofs.YtehnhedifhpalaaDoorW.PrintMore
theorem mn_min (a b : Int) : mn a b = min a b := by unfold mn; split <;> omega
theorem wb {n : Int} (h : -10000000 ≤ n ∧ n ≤ 10000000) : wrap64 n = n := w64 (by omega) (by omega)
theorem date_f {a : Int} (h : 0 ≤ a ∧ a ≤ 730484) : ∃ y m k, Cv.IsDate y m k ∧ Cv.dayOf y m k = a ∧ Ev (fun n => civil_Date.f n a) (y, m, k, 0) := by
  obtain ⟨r, hr⟩ : ∃ r, r = a % 146097 := ⟨_, rfl⟩
  obtain ⟨g, hg⟩ : ∃ g, g = min (r / 36524) 3 := ⟨_, rfl⟩
  obtain ⟨s, hs⟩ : ∃ s, s = r - g * 36524 := ⟨_, rfl⟩
  obtain ⟨f, hf⟩ : ∃ f, f = s / 1461 := ⟨_, rfl⟩
  obtain ⟨t, ht⟩ : ∃ t, t = s - f * 1461 := ⟨_, rfl⟩
  obtain ⟨o, ho⟩ : ∃ o, o = min (t / 365) 3 := ⟨_, rfl⟩
  obtain ⟨u, hu⟩ : ∃ u, u = t - o * 365 := ⟨_, rfl⟩
  obtain ⟨q, hq⟩ : ∃ q, q = a / 146097 := ⟨_, rfl⟩
  obtain ⟨k1, k2, k3⟩ := Cv.year_of (day := a) (q := q) (r := r) (by omega) (by omega) (by omega) hg hs hf ht ho hu
  obtain ⟨y, hy⟩ : ∃ y, y = 2001 + 400 * q + (100 * g + 4 * f + o) := ⟨_, rfl⟩
  rw [← hy] at k1 k3
  have hy2 := Cv.date_exists h.1 h.2 k1 k2 k3
  have r0 : 0 ≤ r ∧ r < 146097 := by omega
  have g0 : 0 ≤ g ∧ g ≤ 3 := by omega
  have s0 : 0 ≤ s ∧ s ≤ 36524 := by omega
  have f0 : 0 ≤ f ∧ f ≤ 24 := by omega
  have t0 : 0 ≤ t ∧ t < 1461 := by omega
  have o0 : 0 ≤ o ∧ o ≤ 3 := by omega
  have q0 : 0 ≤ q ∧ q ≤ 5 := by omega
  obtain ⟨n, n1, n2, n3, hE⟩ := date_l0 (y := y) (u := u) (by omega) (by rw [Cv.fst_13]; omega) 11 1 (by decide) (by decide) (by decide) (by rw [Cv.fst_1]; exact k2)
  obtain ⟨i1, i2⟩ := Cv.month_of n1.1 n1.2 n2 n3 hy2.1 hy2.2
  refine ⟨y, n, u - Cv.fst y n + 1, i1, by rw [i2, k1], ?_⟩
  have b0 : -10000000 ≤ r / 36524 ∧ r / 36524 ≤ 10000000 := by omega
  have b1 : -10000000 ≤ g * 36524 ∧ g * 36524 ≤ 10000000 := by omega
  have b2 : -10000000 ≤ r - g * 36524 ∧ r - g * 36524 ≤ 10000000 := by omega
  have b3 : -10000000 ≤ s / 1461 ∧ s / 1461 ≤ 10000000 := by omega
  have b4 : -10000000 ≤ f * 1461 ∧ f * 1461 ≤ 10000000 := by omega
  have b5 : -10000000 ≤ s - f * 1461 ∧ s - f * 1461 ≤ 10000000 := by omega
  have b6 : -10000000 ≤ t / 365 ∧ t / 365 ≤ 10000000 := by omega
  have b7 : -10000000 ≤ o * 365 ∧ o * 365 ≤ 10000000 := by omega
  have b8 : -10000000 ≤ t - o * 365 ∧ t - o * 365 ≤ 10000000 := by omega
  have b9 : -10000000 ≤ a / 146097 ∧ a / 146097 ≤ 10000000 := by omega
  have b10 : -10000000 ≤ 400 * q ∧ 400 * q ≤ 10000000 := by omega
  have b11 : -10000000 ≤ 100 * g ∧ 100 * g ≤ 10000000 := by omega
  have b12 : -10000000 ≤ 4 * f ∧ 4 * f ≤ 10000000 := by omega
  have b13 : -10000000 ≤ 2001 + 400 * q ∧ 2001 + 400 * q ≤ 10000000 := by omega
  have b14 : -10000000 ≤ 100 * g + 4 * f ∧ 100 * g + 4 * f ≤ 10000000 := by omega
  have b15 : -10000000 ≤ 100 * g + 4 * f + o ∧ 100 * g + 4 * f + o ≤ 10000000 := by omega
  have b16 : -10000000 ≤ 2001 + 400 * q + (100 * g + 4 * f + o) ∧ 2001 + 400 * q + (100 * g + 4 * f + o) ≤ 10000000 := by omega
  have c1 : ¬ a < 0 := by omega
  have c2 : ¬ a > 730484 := by omega
  have e1 : Int.tmod a 146097 = r := by rw [Int.tmod_eq_emod_of_nonneg h.1, hr]
  have e2 : mn (wrap64 (Int.tdiv r 36524)) 3 = g := by rw [Int.tdiv_eq_ediv_of_nonneg r0.1, wb b0, mn_min, hg]
  have e3 : wrap64 (r - wrap64 (g * 36524)) = s := by rw [wb b1, wb b2, hs]
  have e4 : wrap64 (Int.tdiv s 1461) = f := by rw [Int.tdiv_eq_ediv_of_nonneg s0.1, wb b3, hf]
  have e5 : wrap64 (s - wrap64 (f * 1461)) = t := by rw [wb b4, wb b5, ht]
  have e6 : mn (wrap64 (Int.tdiv t 365)) 3 = o := by rw [Int.tdiv_eq_ediv_of_nonneg t0.1, wb b6, mn_min, ho]
  have e7 : wrap64 (t - wrap64 (o * 365)) = u := by rw [wb b7, wb b8, hu]
  have e8 : wrap64 (Int.tdiv a 146097) = q := by rw [Int.tdiv_eq_ediv_of_nonneg h.1, wb b9, hq]
  have e9 : wrap64 (wrap64 (2001 + wrap64 (400 * q)) + wrap64 (wrap64 (wrap64 (100 * g) + wrap64 (4 * f)) + o)) = y := by
    rw [wb b10, wb b11, wb b12, wb b13, wb b14, wb b15, wb b16, hy]
  unfold civil_Date.f
  refine Ev.bind (ev_val (r := 0) (by unfold civil_within.f; rw [if_neg c1, if_neg c2])) (ev_pos rfl ?_)
  rw [e1, e2, e3, e4, e5, e6, e7, e8, e9]
  exact hE
end Go.Proofs.YtehnhedifhpalaaDoor.Cp
namespace Go.Proofs.YtehnhedifhpalaaDoor.Cp
open Go.RowKit Go.Proofs.YtehnhedifhpalaaDoorW.PrintWords Go.Proofs.YtehnhedifhpalaaDoorW.PrintLast Go.Proofs.YtehnhedifhpalaaDoorW.PrintMore
theorem dated_f (y m d : Int) : civil_dated.f y m d = some (decide (Cv.IsDate y m d)) := by
  unfold civil_dated.f
  have no : ∀ {p : Prop}, ¬ Cv.IsDate y m d → (some false : Option Bool) = some (decide (Cv.IsDate y m d)) := fun h => by rw [decide_eq_false h]
  by_cases c1 : y ≥ 2001
  · rw [if_pos c1]
    by_cases c2 : y ≤ 4000
    · rw [if_pos c2]
      by_cases c3 : m ≥ 1
      · rw [if_pos c3]
        by_cases c4 : m ≤ 12
        · rw [if_pos c4]
          by_cases c5 : d ≥ 1
          · rw [if_pos c5]
            have b1 := Cv.fst_bd y (m := m) (by omega) (by omega)
            have b2 := Cv.fst_bd y (m := m + 1) (by omega) (by omega)
            have q1 : -10000000 ≤ m + 1 ∧ m + 1 ≤ 10000000 := by omega
            have q2 : -10000000 ≤ Cv.fst y (m + 1) - Cv.fst y m ∧ Cv.fst y (m + 1) - Cv.fst y m ≤ 10000000 := by omega
            rw [wb q1, first_f (by omega) (by omega) (by omega), first_f (by omega) (by omega) (by omega)]
            simp only [Option.bind_some]
            rw [wb q2]
            congr 1
            rw [decide_eq_decide]
            constructor
            · intro h; exact ⟨c1, c2, c3, c4, c5, h⟩
            · intro h; exact h.d2
          · rw [if_neg c5]; exact no (p := True) (fun h => c5 h.d1)
        · rw [if_neg c4]; exact no (p := True) (fun h => c4 h.m2)
      · rw [if_neg c3]; exact no (p := True) (fun h => c3 h.m1)
    · rw [if_neg c2]; exact no (p := True) (fun h => c2 h.y2)
  · rw [if_neg c1]; exact no (p := True) (fun h => c1 h.y1)
theorem day_f {y m d : Int} (h : Cv.IsDate y m d) : civil_Day.f y m d = some (Cv.dayOf y m d, 0) := by
  unfold civil_Day.f
  rw [dated_f, decide_eq_true h]
  simp only [Option.bind_some, if_true]
  have h1 := h.y1; have h2 := h.y2; have h3 := h.m1; have h4 := h.m2; have h5 := h.d1; have h6 := h.d2
  have b1 := Cv.fst_bd y (m := m) (by omega) (by omega)
  have b2 := Cv.mlen_bd y (m := m) (by omega) (by omega)
  rw [first_f (by omega) (by omega) (by omega)]
  simp only [Option.bind_some]
  have hd := Cv.dayOf_bd h
  unfold Cv.dayOf Cv.ys at *
  have n1 : 0 ≤ y - 1 := by omega
  rw [wb (n := y - 1) (by omega)]
  rw [Int.tdiv_eq_ediv_of_nonneg n1, Int.tdiv_eq_ediv_of_nonneg n1, Int.tdiv_eq_ediv_of_nonneg n1]
  generalize Cv.fst y m = x at *
  have p1 : -10000000 ≤ 365 * (y - 1) ∧ 365 * (y - 1) ≤ 10000000 := by omega
  have p2 : -10000000 ≤ (y - 1) / 4 ∧ (y - 1) / 4 ≤ 10000000 := by omega
  have p3 : -10000000 ≤ (y - 1) / 100 ∧ (y - 1) / 100 ≤ 10000000 := by omega
  have p4 : -10000000 ≤ (y - 1) / 400 ∧ (y - 1) / 400 ≤ 10000000 := by omega
  have p5 : -10000000 ≤ 365 * (y - 1) + (y - 1) / 4 ∧ 365 * (y - 1) + (y - 1) / 4 ≤ 10000000 := by omega
  have p6 : -10000000 ≤ 365 * (y - 1) + (y - 1) / 4 - (y - 1) / 100 ∧ 365 * (y - 1) + (y - 1) / 4 - (y - 1) / 100 ≤ 10000000 := by omega
  have p7 : -10000000 ≤ 365 * (y - 1) + (y - 1) / 4 - (y - 1) / 100 + (y - 1) / 400 ∧ 365 * (y - 1) + (y - 1) / 4 - (y - 1) / 100 + (y - 1) / 400 ≤ 10000000 := by omega
  have p8 : -10000000 ≤ 365 * (y - 1) + (y - 1) / 4 - (y - 1) / 100 + (y - 1) / 400 - 730485 ∧ 365 * (y - 1) + (y - 1) / 4 - (y - 1) / 100 + (y - 1) / 400 - 730485 ≤ 10000000 := by omega
  have p9 : -10000000 ≤ 365 * (y - 1) + (y - 1) / 4 - (y - 1) / 100 + (y - 1) / 400 - 730485 + x ∧ 365 * (y - 1) + (y - 1) / 4 - (y - 1) / 100 + (y - 1) / 400 - 730485 + x ≤ 10000000 := by omega
  have p10 : -10000000 ≤ 365 * (y - 1) + (y - 1) / 4 - (y - 1) / 100 + (y - 1) / 400 - 730485 + x + d ∧ 365 * (y - 1) + (y - 1) / 4 - (y - 1) / 100 + (y - 1) / 400 - 730485 + x + d ≤ 10000000 := by omega
  have p11 : -10000000 ≤ 365 * (y - 1) + (y - 1) / 4 - (y - 1) / 100 + (y - 1) / 400 - 730485 + x + d - 1 ∧ 365 * (y - 1) + (y - 1) / 4 - (y - 1) / 100 + (y - 1) / 400 - 730485 + x + d - 1 ≤ 10000000 := by omega
  rw [wb p1, wb p2, wb p3, wb p4, wb p5, wb p6, wb p7, wb p8, wb p9, wb p10, wb p11]
theorem day_no {y m d : Int} (h : ¬ Cv.IsDate y m d) : civil_Day.f y m d = some (0, 10) := by
  unfold civil_Day.f
  rw [dated_f, decide_eq_false h]
  rfl
end Go.Proofs.YtehnhedifhpalaaDoor.Cp
set_option linter.unusedVariables false
set_option linter.unusedSimpArgs false
namespace Go.Proofs.YtehnhedifhpalaaDoor.Cq
open Go.Proofs.YtehnhedifhpalaaDoor.Cp
open Go.RowKit Go.Proofs.YtehnhedifhpalaaDoorW.PrintWords Go.Proofs.YtehnhedifhpalaaDoorW.PrintLast Go.Proofs.YtehnhedifhpalaaDoorW.PrintMore
attribute [local go_sem] max2_int min2_int max_two min_two max_three min_three max_four min_four
theorem set_mid {α : Type} {x v : α} : ∀ {P Q : List α} {i : Nat}, P.length = i → (P ++ x :: Q).set i v = P ++ v :: Q := by
  intro P
  induction P with
  | nil => intro Q i h; subst h; rfl
  | cons y P ih => intro Q i h; subst h; simp [ih rfl]
theorem setG {w : World} {g : Nat} {t : TypeId} {f : Nat × Nat} {cs : Array Value} (h : w.heap[g]? = some (.cells cs t f)) (i : Nat) (u : Value) : (w.setCell ⟨g, i, none⟩ u).heap[g]? = some (.cells (cs.setIfInBounds i u) t f) := by
  simp [World.setCell, Array.getElem?_modify, h]
theorem frozenG {w : World} {g : Nat} {t : TypeId} {n m : Nat} {cs : Array Value} (h : w.heap[g]? = some (.cells cs t (n, m))) (i : Nat) (hi : i < n) : w.frozen? ⟨g, i, none⟩ = false := by
  simp [World.frozen?, h]; omega
/-- What is written when the digits from place i on are. -/
structure PutAt (vs : List Int) (off n : Nat) (x : Int) (m : Nat) (y : Int) (us : List Int) : Prop where
  le : m ≤ n
  pos : 0 ≤ y ∧ y ≤ 1000000
  is : ∃ suf, Cv.dig n x = Cv.dig m y ++ suf ∧ us = vs.take (off + m) ++ (suf ++ vs.drop (off + n))
theorem PutAt.start {vs : List Int} {off n : Nat} {x : Int} (hx : 0 ≤ x ∧ x ≤ 1000000) : PutAt vs off n x n x vs :=
  ⟨Nat.le_refl _, hx, [], by simp, by simp⟩
theorem PutAt.step {vs : List Int} {off n : Nat} {x : Int} {m : Nat} {y : Int} {us : List Int} (h : PutAt vs off n x (m + 1) y us) (hl : off + n ≤ vs.length) : PutAt vs off n x m (y / 10) (us.set (off + m) (48 + y % 10)) := by
  obtain ⟨suf, h1, h2⟩ := h.is
  have hp := h.pos
  have hle := h.le
  refine ⟨by omega, by omega, [48 + y % 10] ++ suf, ?_, ?_⟩
  · rw [h1, Cv.dig, List.append_assoc]
  · have hn : off + m < vs.length := by omega
    rw [h2, show off + (m + 1) = off + m + 1 by omega, List.take_succ_eq_append_getElem hn, List.append_assoc, List.singleton_append, set_mid (by rw [List.length_take]; omega)]
    simp
theorem PutAt.done {vs : List Int} {off n : Nat} {x : Int} {y : Int} {us : List Int} (h : PutAt vs off n x 0 y us) : us = vs.take off ++ (Cv.dig n x ++ vs.drop (off + n)) := by
  obtain ⟨suf, h1, h2⟩ := h.is
  rw [h2, h1]; rfl
theorem PutAt.len {vs : List Int} {off n : Nat} {x : Int} {m : Nat} {y : Int} {us : List Int} (h : PutAt vs off n x m y us) (hl : off + n ≤ vs.length) : us.length = vs.length := by
  obtain ⟨suf, h1, h2⟩ := h.is
  have hle := h.le
  have := congrArg List.length h1
  rw [List.length_append, Cv.dig_len, Cv.dig_len] at this
  rw [h2, List.length_append, List.length_append, List.length_take, List.length_drop]
  omega
def PutPost (g f f2 : Nat) (us : List Int) (w : World) (e : Ending) (w' : World) : Prop :=
  e = .returned (.tuple #[]) ∧ w'.heap[g]? = some (.cells (nums .u8 us).toArray 5 (f, f2)) ∧ KeepBut w w' g none ∧ w'.os = w.os ∧ w'.tape = w.tape ∧ w'.output = w.output
set_option maxHeartbeats 8000000 in
set_option maxRecDepth 100000 in
theorem put_any (g off n c : Nat) (x : Int) (vs : List Int) (f f2 : Nat) (w : World) (hv : off + n ≤ f) (hb : w.heap[g]? = some (.cells (nums .u8 vs).toArray 5 (f, f2))) (h : off + n ≤ vs.length) (hn : n ≤ 100) (hx : 0 ≤ x ∧ x ≤ 1000000) :
    Calls Tryd.prog 56 #[.slice (some ⟨g, off, none⟩) n c, .int .i64 x] w (PutPost g f f2 (vs.take off ++ (Cv.dig n x ++ vs.drop (off + n))) w) := by
  have H := Aside0.mk h
  have HV := Aside0.mk hv
  clear hv
  have HN := Aside0.mk hn
  have BK := Aside0.mk hb
  have PS := Aside0.mk (PutAt.start (vs := vs) (off := off) (n := n) hx)
  clear h hn hb hx
  have EN : wrap64 ((n : Int) - 1) = (n : Int) - 1 := by have := HN.out; unfold wrap64; omega
  go_enter Tryd.func56, Tryd.ntmps56
  go_wp2
  go_loopg [1, 4] n (fun kq v1 v4 wr => ∃ (i y : Int) (us : List Int), v1 = .int .i64 y ∧ v4 = .int .i64 i ∧ Aside0 (-1 ≤ i ∧ (kq : Int) = i + 1) ∧ Aside0 (wr.heap[g]? = some (.cells (nums .u8 us).toArray 5 (f, f2))) ∧ Aside0 (PutAt vs off n x (i + 1).toNat y us) ∧ Aside0 (KeepBut w wr g none ∧ wr.os = w.os ∧ wr.tape = w.tape ∧ wr.output = w.output))
  case atStart => exact ⟨(n : Int) - 1, x, vs, rfl, by first | rfl | simp [EN], ⟨by omega⟩, BK, ⟨by rw [show ((n : Int) - 1 + 1).toNat = n by omega]; exact PS.out⟩, ⟨KeepBut.refl _ _ _, rfl, rfl, rfl⟩⟩
  case round =>
    obtain ⟨i, y, us, rfl, rfl, HI, BU, PU, KB⟩ := hrel
    by_cases c : 0 ≤ i
    · have cb : decide (0 ≤ i) = true := decide_eq_true c
      have p0 := eq_true c
      have C0 := Aside0.mk c
      have hle := PU.out.le
      have hy := PU.out.pos
      have hlen := PU.out.len H.out
      have hnn := HN.out
      have hh := H.out
      have q0 : (i < (n : Int)) = True := eq_true (by omega)
      have hk : off + i.toNat < us.length := by omega
      have ei : (i + 1).toNat = i.toNat + 1 := by omega
      have PU2 := Aside0.mk (PutAt.step (by have := PU.out; rw [ei] at this; exact this) H.out)
      have hcz : _ = some (Value.int .u8 us[off + i.toNat]) := (cell_of_row _ g (off + i.toNat) _ 5 (f, f2) BU.out).trans (by simp [nums, hk])
      have hfz := frozenG BU.out (off + i.toNat) (by have := HV.out; omega)
      generalize us[off + i.toNat] = z at hcz
      have e1 : Int.tmod y 10 = y % 10 := Int.tmod_eq_emod_of_nonneg hy.1
      have e2 : Int.tdiv y 10 = y / 10 := Int.tdiv_eq_ediv_of_nonneg hy.1
      have q1 : -9223372036854775808 ≤ 48 + y % 10 ∧ 48 + y % 10 ≤ 9223372036854775807 := by omega
      have q2 : -9223372036854775808 ≤ y / 10 ∧ y / 10 ≤ 9223372036854775807 := by omega
      have q3 : -9223372036854775808 ≤ i - 1 ∧ i - 1 ≤ 9223372036854775807 := by omega
      have e3 : (48 + y % 10) % 256 = 48 + y % 10 := by omega
      have e4 : (i - 1 + 1).toNat = i.toNat := by omega
      have E4 := Aside0.mk e4
      have w1 := w64 q1.1 q1.2
      have w2 := w64 q2.1 q2.2
      have w3 := w64 q3.1 q3.2
      have BV : ∀ W : World, W.heap[g]? = some (.cells (nums .u8 us).toArray 5 (f, f2)) → (W.setCell ⟨g, off + i.toNat, none⟩ (.int .u8 (48 + y % 10))).heap[g]? = some (.cells (nums .u8 (us.set (off + i.toNat) (48 + y % 10))).toArray 5 (f, f2)) :=
        fun W hW => by have := setG hW (off + i.toNat) (.int .u8 (48 + y % 10)); rw [this]; simp [nums, List.map_set]
      have HBV := Aside0.mk BV
      clear q1 q2 q3 hle hy hlen hnn hh c hk ei e4 BV
      go_wp2
      go_roundg i.toNat
      case measure => have := HI.out; have := C0.out; clear w1 w2 w3; omega
      case rel => exact ⟨i - 1, y / 10, _, by first | rfl | simp [w2], by first | rfl | simp [w3], ⟨by have := HI.out; have := C0.out; clear w1 w2 w3; omega⟩, ⟨HBV.out _ BU.out⟩, ⟨by rw [E4.out]; exact PU2.out⟩, ⟨KeepBut.set_ KB.out.1 _ _, KB.out.2⟩⟩
    · have cb : decide (0 ≤ i) = false := decide_eq_false c
      have ei : (i + 1).toNat = 0 := by have := HI.out; omega
      have PD := Aside0.mk (PutAt.done (by have := PU.out; rw [ei] at this; exact this))
      clear c ei
      go_wp2
      go_end0
      exact ⟨by first | rfl | simp, by rw [← PD.out]; exact BU.out, KB.out⟩
end Go.Proofs.YtehnhedifhpalaaDoor.Cq
namespace Go.Proofs.YtehnhedifhpalaaDoor.Cp
open Go.RowKit Go.Proofs.YtehnhedifhpalaaDoorW.PrintWords Go.Proofs.YtehnhedifhpalaaDoorW.PrintLast Go.Proofs.YtehnhedifhpalaaDoorW.PrintMore
attribute [local go_sem] max2_int min2_int max_two min_two max_three min_three max_four min_four
/-- A text out of its bytes. -/
def txt (l : List Int) : ByteArray := ⟨(l.map fun b => UInt8.ofNat b.toNat).toArray⟩
def civil_Text.f (k : Nat) (a0 : Int) : Option (ByteArray × Int) :=
  (civil_Date.f k a0).bind fun r => if r.2.2.2 = 0 then (if (0 ≤ r.1 ∧ r.1 ≤ 1000000) ∧ (0 ≤ r.2.1 ∧ r.2.1 ≤ 1000000) ∧ 0 ≤ r.2.2.1 ∧ r.2.2.1 ≤ 1000000 then some (txt (Cv.dtext r.1 r.2.1 r.2.2.1), 0) else none) else some (txt [], r.2.2.2)
theorem civil_Text.mono : ∀ a0 k, LeO (civil_Text.f k a0) (civil_Text.f (k + 1) a0) := by
  intro a0 k
  unfold civil_Text.f
  exact LeO.bind (civil_Date.mono _ _) (fun _ => LeO.refl _)
theorem nums_at (us : List Int) (i : Nat) (h : i < us.length) : (nums .u8 us).toArray[i]? = some (.int .u8 (us.getD i 0)) := by simp [nums, List.getElem?_eq_getElem h, List.getD_eq_getElem?_getD]
theorem below_keep {w W W' : World} {g : Nat} (hb : Below w.heap.size w W) (hk : KeepBut W W' g none ∧ W'.os = W.os ∧ W'.tape = W.tape ∧ W'.output = W.output) (hg : w.heap.size ≤ g) : Below w.heap.size w W' :=
  ⟨hk.2.1.trans hb.os, hk.2.2.1.trans hb.tape, hk.2.2.2.trans hb.output, Nat.le_trans hb.size hk.1.1, fun i hi => (hk.1.2 i (Nat.lt_of_lt_of_le hi hb.size) (Nat.ne_of_lt (Nat.lt_of_lt_of_le hi hg)) (by simp)).trans (hb.block i hi)⟩
theorem conv_zeros (w : World) : (convert 27 27 (.slice (some ⟨w.heap.size, 0, none⟩) 10 10)).run Tryd.prog (w.alloc (.cells #[.int .u8 48, .int .u8 48, .int .u8 48, .int .u8 48, .int .u8 45, .int .u8 48, .int .u8 48, .int .u8 45, .int .u8 48, .int .u8 48] 5)) = .ok (.slice (some ⟨w.heap.size, 0, none⟩) 10 10) (w.alloc (.cells #[.int .u8 48, .int .u8 48, .int .u8 48, .int .u8 48, .int .u8 45, .int .u8 48, .int .u8 48, .int .u8 45, .int .u8 48, .int .u8 48] 5 (10, 11))) :=
  Lib.run_convert_bytes_const w 27 5 _ 10 10 Tryd.underlying27 Tryd.underlying5
theorem zeros_new (w : World) : (w.alloc (.cells #[.int .u8 48, .int .u8 48, .int .u8 48, .int .u8 48, .int .u8 45, .int .u8 48, .int .u8 48, .int .u8 45, .int .u8 48, .int .u8 48] 5 (10, 11))).heap[w.heap.size]? = some (.cells (nums .u8 [48, 48, 48, 48, 45, 48, 48, 45, 48, 48]).toArray 5 (10, 11)) := blk_new _ _
set_option maxHeartbeats 600000 in
set_option maxRecDepth 100000 in
theorem civil_Text.calls (k : Nat) (a0 : Int) (r1 : ByteArray) (r2 : Int) (w : World) (hg : Aside0 (Tab w)) (h : civil_Text.f k a0 = some (r1, r2)) :
    Calls Tryd.prog 21 #[.int .i64 a0] w fun e w' => e = .returned (.tuple #[.string r1, .int .i64 r2]) ∧ Below w.heap.size w w' := by
  unfold civil_Text.f at h
  obtain ⟨⟨y, m, d, e⟩, hd, h⟩ := Option.bind_eq_some_iff.mp h
  simp only at h
  have HD := Aside0.mk hd
  clear hd
  by_cases c : e = 0
  · subst c
    rw [if_pos rfl] at h
    by_cases hb : (0 ≤ y ∧ y ≤ 1000000) ∧ (0 ≤ m ∧ m ≤ 1000000) ∧ 0 ≤ d ∧ d ≤ 1000000
    · rw [if_pos hb] at h
      obtain ⟨rfl, rfl⟩ : txt (Cv.dtext y m d) = r1 ∧ 0 = r2 := by simpa using h
      clear h
      obtain ⟨p, q, r, s, ey⟩ : ∃ p q r s, Cv.dig 4 y = [p, q, r, s] := ⟨_, _, _, _, rfl⟩
      obtain ⟨t, u, em⟩ : ∃ t u, Cv.dig 2 m = [t, u] := ⟨_, _, rfl⟩
      obtain ⟨v, z, ed⟩ : ∃ v z, Cv.dig 2 d = [v, z] := ⟨_, _, rfl⟩
      have et : Cv.dtext y m d = [p, q, r, s, 45, t, u, 45, v, z] := by simp [Cv.dtext, ey, em, ed]
      have hp1 := fun (g : Nat) (w : World) (h : w.heap[g]? = some (.cells (nums .u8 [48, 48, 48, 48, 45, 48, 48, 45, 48, 48]).toArray 5 (10, 11))) => Cq.put_any g 0 4 10 y _ 10 11 w (by decide) h (by decide) (by decide) hb.1
      have hp2 := fun (g : Nat) (w : World) (h : w.heap[g]? = some (.cells (nums .u8 [p, q, r, s, 45, 48, 48, 45, 48, 48]).toArray 5 (10, 11))) => Cq.put_any g 5 2 5 m _ 10 11 w (by decide) h (by simp) (by decide) hb.2.1
      have hp3 := fun (g : Nat) (w : World) (h : w.heap[g]? = some (.cells (nums .u8 [p, q, r, s, 45, t, u, 45, 48, 48]).toArray 5 (10, 11))) => Cq.put_any g 8 2 2 d _ 10 11 w (by decide) h (by simp) (by decide) hb.2.2
      rw [ey] at hp1
      rw [em] at hp2
      rw [ed] at hp3
      rw [et]
      clear ey em ed et hb
      go_enter Tryd.func21, Tryd.ntmps21
      go_wp2_with (first | (go_at_call 19; (with_reducible refine (civil_Date.calls k a0 y m d 0 _ ?tabG HD.out).mono ?_); (case tabG => exact hg); rintro e w1 ⟨rfl, hb⟩; have HB := Aside0.mk hb; have hcz := conv_zeros w1; clear hb) | (go_at_call 56; (with_reducible refine (hp1 w1.heap.size _ (zeros_new w1)).mono ?_); rintro e w3 ⟨rfl, B1, K1⟩; have B1 := Aside0.mk B1; have K1 := Aside0.mk K1) | (go_at_call 56; (with_reducible refine (hp2 w1.heap.size _ B1.out).mono ?_); rintro e w4 ⟨rfl, B2, K2⟩; have B2 := Aside0.mk B2; have K2 := Aside0.mk K2) | (go_at_call 56; (with_reducible refine (hp3 w1.heap.size _ B2.out).mono ?_); rintro e w5 ⟨rfl, B3, K3⟩; have hcv := run_convert_bytes_arg (P := Tryd.prog) w5 27 5 Tryd.underlying27 Tryd.underlying5 w1.heap.size 0 10 10 [p, q, r, s, 45, t, u, 45, v, z] rfl (fun i hi => (cell_of_row _ _ (0 + i) _ 5 (10, 11) B3).trans (by rw [Nat.zero_add]; exact nums_at _ i hi)) 9 Tryd.underlying9; have K3 := Aside0.mk K3; clear B3))
      go_ret2
      exact ⟨rfl, below_keep (below_keep (below_keep (below_alloc HB.out _) K1.out (below_size HB.out)) K2.out (below_size HB.out)) K3.out (below_size HB.out)⟩
    · rw [if_neg hb] at h; exact absurd h (by simp)
  · rw [if_neg c] at h
    obtain ⟨rfl, rfl⟩ : txt [] = r1 ∧ e = r2 := by simpa using h
    clear h
    have c0 : (e == 0) = false := beq_eq_false_iff_ne.mpr c
    have c1 : (e != 0) = true := bne_iff_ne.mpr c
    clear c
    go_enter Tryd.func21, Tryd.ntmps21
    go_wp2_with (first | (go_at_call 19; (with_reducible refine (civil_Date.calls k a0 y m d e _ ?tabG HD.out).mono ?_); (case tabG => exact hg); rintro e w1 ⟨rfl, hb⟩; have HB := Aside0.mk hb; clear hb))
    go_ret2
    exact ⟨rfl, HB.out⟩
end Go.Proofs.YtehnhedifhpalaaDoor.Cp
namespace Go.Proofs.YtehnhedifhpalaaDoor.Cp
open Go.RowKit Go.Proofs.YtehnhedifhpalaaDoorW.PrintWords Go.Proofs.YtehnhedifhpalaaDoorW.PrintLast Go.Proofs.YtehnhedifhpalaaDoorW.PrintMore
attribute [local go_sem] max2_int min2_int max_two min_two max_three min_three max_four min_four   -- for this text's walks alone
set_option linter.unusedVariables false
set_option linter.unusedSimpArgs false
def civil_number.l0 : Nat → ByteArray → Int → Int → Int → Option (Int × Bool)
 | 0, _, _, _, _ => none
 | k + 1, x0, x4, x7, x8 => if x8 < x7 then (if 0 ≤ x8 then (if x8 < (x0.size : Int) then (if (bt x0 x8) < 48 then (some (0, false)) else (if (bt x0 x8) > 57 then (some (0, false)) else (civil_number.l0 k x0 (wrap64 ((wrap64 (x4 * 10)) + (((bt x0 x8) - 48) % 256))) x7 (wrap64 (x8 + 1))))) else (none)) else (none)) else (some (x4, true))
def civil_number.f (k : Nat) (a0 : ByteArray) : Option (Int × Bool) := civil_number.l0 k a0 0 (a0.size : Int) 0
theorem civil_number.mono_l : ∀ k, (∀ y0 y1 y2 y3, LeO (civil_number.l0 k y0 y1 y2 y3) (civil_number.l0 (k + 1) y0 y1 y2 y3))
 | 0 => fun _ _ _ _ r h => by simp [civil_number.l0] at h
 | k + 1 => by
  have ih0 := civil_number.mono_l k
  ·intro y0 y1 y2 y3
   unfold civil_number.l0
   repeat' first
   | (with_reducible exact ih0 _ _ _ _)
   | (with_reducible exact LeO.refl _)
   | (with_reducible exact LeO.none _)
   | (with_reducible refine LeO.ite ?_ ?_)
   | (with_reducible refine LeO.bind ?_ (fun _ => ?_))
   | exact ih0 _ _ _ _
   | exact LeO.none _
   | refine LeO.ite ?_ ?_
   | refine LeO.bind ?_ (fun _ => ?_)
theorem civil_number.mono : ∀ a0 k, LeO (civil_number.f k a0) (civil_number.f (k + 1) a0) := by
 intro a0 k
 have ih0 := civil_number.mono_l k
 unfold civil_number.f
 repeat' first
  | (with_reducible exact ih0 _ _ _ _)
  | (with_reducible exact LeO.refl _)
  | (with_reducible exact LeO.none _)
  | (with_reducible refine LeO.ite ?_ ?_)
  | (with_reducible refine LeO.bind ?_ (fun _ => ?_))
  | exact ih0 _ _ _ _
  | exact LeO.none _
  | refine LeO.ite ?_ ?_
  | refine LeO.bind ?_ (fun _ => ?_)
set_option maxHeartbeats 8000000 in
set_option maxRecDepth 100000 in
theorem civil_number.calls (k : Nat) (a0 : ByteArray) (r1 : Int) (r2 : Bool) (w : World) (h : civil_number.f k a0 = some (r1, r2)) :
  Calls Tryd.prog 60 #[.string a0] w fun e w' => e = .returned (.tuple #[.int .i64 r1, .bool r2]) ∧ Drawn0 w w' := by
 have H : (civil_number.l0 k a0 0 (a0.size : Int) 0) = some (r1, r2) := h
 clear h
 have H' := Aside0.mk H
 clear H
 go_enter Tryd.func60, Tryd.ntmps60
 go_wp2
 go_loopg [4, 8] k (fun kq v4 v8 w' => ∃ (x4_1 : Int) (x8_1 : Int), v4 = .int .i64 x4_1 ∧ v8 = .int .i64 x8_1 ∧ Aside0 (civil_number.l0 kq a0 x4_1 (a0.size : Int) x8_1 = some (r1, r2)) ∧ Aside0 (kq ≤ k) ∧ Drawn0 w w')
 case atStart => exact ⟨(0), (0), (by first | rfl | (simp; done) | (simp [*]; done) | (simp; exact (show ∀ a_ b_ : Bool, (a_ == b_) = (!(a_ != b_)) from by decide) _ _) | (rw [Bool.eq_iff_iff]; simp; done) | (simp; rw [Bool.eq_iff_iff]; simp; done)), (by first | rfl | (simp; done) | (simp [*]; done) | (simp; exact (show ∀ a_ b_ : Bool, (a_ == b_) = (!(a_ != b_)) from by decide) _ _) | (rw [Bool.eq_iff_iff]; simp; done) | (simp; rw [Bool.eq_iff_iff]; simp; done)), H', ⟨Nat.le_refl _⟩, by repeat (first | exact Drawn0.refl _ | apply Drawn0.step)⟩
 case round =>
  clear H'
  obtain ⟨x4_1, x8_1, rfl, rfl, HA, HK1, ⟨m1, rfl⟩⟩ := hrel
  cases gk with
  | zero => exact absurd HA.out (by simp [civil_number.l0])
  | succ k1 =>
   have H := HA.out
   clear HA
   simp only [civil_number.l0] at H
   by_cases c2 : x8_1 < (a0.size : Int)
   ·rw [if_pos c2] at H
    have c2b0 : decide (x8_1 < (a0.size : Int)) = true := decide_eq_true c2
    clear c2
    by_cases c3 : 0 ≤ x8_1
    ·rw [if_pos c3] at H
     have c3b0 : decide (0 ≤ x8_1) = true := decide_eq_true c3
     clear c3
     by_cases c4 : x8_1 < (a0.size : Int)
     ·rw [if_pos c4] at H
      have c4b0 : decide (x8_1 < (a0.size : Int)) = true := decide_eq_true c4
      clear c4
      by_cases c6 : (bt a0 x8_1) < 48
      ·rw [if_pos c6] at H
       have c6b0 : decide ((bt a0 x8_1) < 48) = true := decide_eq_true c6
       clear c6
       simp only [Option.some.injEq, Prod.mk.injEq] at H
       obtain ⟨rfl, rfl⟩ := H
       have p5 : 0 ≤ (x8_1 : Int) := of_decide_eq_true (by first | (with_reducible assumption) | assumption)
       have q5 : x8_1 < (a0.size : Int) := of_decide_eq_true (by first | (with_reducible assumption) | assumption)
       have hx5 := bt_at a0 x8_1
       replace p5 := eq_true p5
       replace q5 := eq_true q5
       go_wp2
       go_ret2
       exact ⟨by first | rfl | (simp; done) | (simp [*]; done) | (simp; exact (show ∀ a_ b_ : Bool, (a_ == b_) = (!(a_ != b_)) from by decide) _ _), by repeat (first | exact Drawn0.refl _ | apply Drawn0.step)⟩
      ·rw [if_neg c6] at H
       have c6b0 : decide ((bt a0 x8_1) < 48) = false := decide_eq_false c6
       clear c6
       by_cases c8 : (bt a0 x8_1) > 57
       ·rw [if_pos c8] at H
        have c8b0 : decide (57 < (bt a0 x8_1)) = true := decide_eq_true c8
        clear c8
        simp only [Option.some.injEq, Prod.mk.injEq] at H
        obtain ⟨rfl, rfl⟩ := H
        have p5 : 0 ≤ (x8_1 : Int) := of_decide_eq_true (by first | (with_reducible assumption) | assumption)
        have q5 : x8_1 < (a0.size : Int) := of_decide_eq_true (by first | (with_reducible assumption) | assumption)
        have hx5 := bt_at a0 x8_1
        replace p5 := eq_true p5
        replace q5 := eq_true q5
        have p7 : 0 ≤ (x8_1 : Int) := of_decide_eq_true (by first | (with_reducible assumption) | assumption)
        have q7 : x8_1 < (a0.size : Int) := of_decide_eq_true (by first | (with_reducible assumption) | assumption)
        have hx7 := bt_at a0 x8_1
        replace p7 := eq_true p7
        replace q7 := eq_true q7
        go_wp2
        go_ret2
        exact ⟨by first | rfl | (simp; done) | (simp [*]; done) | (simp; exact (show ∀ a_ b_ : Bool, (a_ == b_) = (!(a_ != b_)) from by decide) _ _), by repeat (first | exact Drawn0.refl _ | apply Drawn0.step)⟩
       ·rw [if_neg c8] at H
        have c8b0 : decide (57 < (bt a0 x8_1)) = false := decide_eq_false c8
        clear c8
        have H' := Aside0.mk H
        clear H
        have p5 : 0 ≤ (x8_1 : Int) := of_decide_eq_true (by first | (with_reducible assumption) | assumption)
        have q5 : x8_1 < (a0.size : Int) := of_decide_eq_true (by first | (with_reducible assumption) | assumption)
        have hx5 := bt_at a0 x8_1
        replace p5 := eq_true p5
        replace q5 := eq_true q5
        have p7 : 0 ≤ (x8_1 : Int) := of_decide_eq_true (by first | (with_reducible assumption) | assumption)
        have q7 : x8_1 < (a0.size : Int) := of_decide_eq_true (by first | (with_reducible assumption) | assumption)
        have hx7 := bt_at a0 x8_1
        replace p7 := eq_true p7
        replace q7 := eq_true q7
        have p9 : 0 ≤ (x8_1 : Int) := of_decide_eq_true (by first | (with_reducible assumption) | assumption)
        have q9 : x8_1 < (a0.size : Int) := of_decide_eq_true (by first | (with_reducible assumption) | assumption)
        have hx9 := bt_at a0 x8_1
        replace p9 := eq_true p9
        replace q9 := eq_true q9
        go_wp2
        go_roundg k1
        case measure => have := HK1.out; omega
        case rel => exact ⟨(wrap64 ((wrap64 (x4_1 * 10)) + (((bt a0 x8_1) - 48) % 256))), (wrap64 (x8_1 + 1)), (by first | rfl | (simp; done) | (simp [*]; done) | (simp; exact (show ∀ a_ b_ : Bool, (a_ == b_) = (!(a_ != b_)) from by decide) _ _) | (rw [Bool.eq_iff_iff]; simp; done) | (simp; rw [Bool.eq_iff_iff]; simp; done)), (by first | rfl | (simp; done) | (simp [*]; done) | (simp; exact (show ∀ a_ b_ : Bool, (a_ == b_) = (!(a_ != b_)) from by decide) _ _) | (rw [Bool.eq_iff_iff]; simp; done) | (simp; rw [Bool.eq_iff_iff]; simp; done)), H', ⟨by have := HK1.out; omega⟩, by repeat (first | exact Drawn0.refl _ | apply Drawn0.step)⟩
     ·rw [if_neg c4] at H
      exact absurd H (by simp)
    ·rw [if_neg c3] at H
     exact absurd H (by simp)
   ·rw [if_neg c2] at H
    have c2b0 : decide (x8_1 < (a0.size : Int)) = false := decide_eq_false c2
    clear c2
    simp only [Option.some.injEq, Prod.mk.injEq] at H
    obtain ⟨rfl, rfl⟩ := H
    go_wp2
    go_ret2
    exact ⟨by first | rfl | (simp; done) | (simp [*]; done) | (simp; exact (show ∀ a_ b_ : Bool, (a_ == b_) = (!(a_ != b_)) from by decide) _ _), by repeat (first | exact Drawn0.refl _ | apply Drawn0.step)⟩
def civil_Read.j0 : Nat → ByteArray → Bool → Option (Int × Int)
 | 0, _, _ => none
 | k + 1, x0, x22 => if x22 = true then (some (0, 11)) else (if 0 ≤ 4 then (if 4 ≤ (x0.size : Int) then ((civil_number.f k (x0.extract 0 4)).bind fun bt117 => (if 5 ≤ 7 then (if 7 ≤ (x0.size : Int) then ((civil_number.f k (x0.extract 5 7)).bind fun bt119 => (if 8 ≤ (x0.size : Int) then ((civil_number.f k (x0.extract 8 x0.size)).bind fun bt121 => (if bt117.2 = true then (if bt119.2 = true then (if bt121.2 = true then ((civil_dated.f bt117.1 bt119.1 bt121.1).bind fun t123 => (if t123 = true then ((civil_Day.f bt117.1 bt119.1 bt121.1).bind fun bt124 => (some (bt124.1, bt124.2))) else (some (0, 11)))) else (some (0, 11))) else (some (0, 11))) else (some (0, 11)))) else (none))) else (none)) else (none))) else (none)) else (none))
def civil_Read.f (k : Nat) (a0 : ByteArray) : Option (Int × Int) := if (a0.size : Int) = 10 then (if 4 < (a0.size : Int) then (if (bt a0 4) = 45 then (if 7 < (a0.size : Int) then (civil_Read.j0 k a0 ((bt a0 7) != 45)) else (none)) else (civil_Read.j0 k a0 true)) else (none)) else (civil_Read.j0 k a0 true)
theorem civil_Read.mono_l : ∀ k, (∀ y0 y1, LeO (civil_Read.j0 k y0 y1) (civil_Read.j0 (k + 1) y0 y1))
 | 0 => fun _ _ r h => by simp [civil_Read.j0] at h
 | k + 1 => by
  have ih0 := civil_Read.mono_l k
  ·intro y0 y1
   unfold civil_Read.j0
   repeat' first
   | (with_reducible exact ih0 _ _)
   | (with_reducible exact civil_number.mono _ _)
   | (with_reducible exact LeO.refl _)
   | (with_reducible exact LeO.none _)
   | (with_reducible refine LeO.ite ?_ ?_)
   | (with_reducible refine LeO.bind ?_ (fun _ => ?_))
   | exact ih0 _ _
   | exact civil_number.mono _ _
   | exact LeO.none _
   | refine LeO.ite ?_ ?_
   | refine LeO.bind ?_ (fun _ => ?_)
theorem civil_Read.mono : ∀ a0 k, LeO (civil_Read.f k a0) (civil_Read.f (k + 1) a0) := by
 intro a0 k
 have ih0 := civil_Read.mono_l k
 unfold civil_Read.f
 repeat' first
  | (with_reducible exact ih0 _ _)
  | (with_reducible exact civil_number.mono _ _)
  | (with_reducible exact LeO.refl _)
  | (with_reducible exact LeO.none _)
  | (with_reducible refine LeO.ite ?_ ?_)
  | (with_reducible refine LeO.bind ?_ (fun _ => ?_))
  | exact ih0 _ _
  | exact civil_number.mono _ _
  | exact LeO.none _
  | refine LeO.ite ?_ ?_
  | refine LeO.bind ?_ (fun _ => ?_)
set_option maxHeartbeats 8000000 in
set_option maxRecDepth 100000 in
theorem civil_Read.calls (k : Nat) (a0 : ByteArray) (r1 : Int) (r2 : Int) (w : World) (hg : Aside0 (Tab w)) (h : civil_Read.f k a0 = some (r1, r2)) :
  Calls Tryd.prog 30 #[.string a0] w fun e w' => e = .returned (.tuple #[.int .i64 r1, .int .i64 r2]) ∧ Drawn0 w w' := by
 have H : (if (a0.size : Int) = 10 then (if 4 < (a0.size : Int) then (if (bt a0 4) = 45 then (if 7 < (a0.size : Int) then (civil_Read.j0 k a0 ((bt a0 7) != 45)) else (none)) else (civil_Read.j0 k a0 true)) else (none)) else (civil_Read.j0 k a0 true)) = some (r1, r2) := h
 clear h
 have HC2 := Aside0.mk H
 clear H
 go_enter Tryd.func30, Tryd.ntmps30
 go_upto_region 1 with (fail)
 go_cut [22] (fun v22 wc => ∃ (kq : Nat) (x22_1 : Bool), v22 = .bool x22_1 ∧ Aside0 (civil_Read.j0 kq a0 x22_1 = some (r1, r2)) ∧ Aside0 (kq ≤ k) ∧ Drawn0 w wc)
 case first =>
  have H := HC2.out
  clear HC2
  by_cases c3 : (a0.size : Int) = 10
  ·rw [if_pos c3] at H
   have c3b0 : ((a0.size : Int) == 10) = true := beq_iff_eq.mpr c3
   have c3b1 : ((a0.size : Int) != 10) = false := bne_eq_false_iff_eq.mpr c3
   clear c3
   (first | rw [c3b0] | (simp only [i64_w, i32_w]; rw [c3b0]) | skip)
   by_cases c4 : 4 < (a0.size : Int)
   ·rw [if_pos c4] at H
    have c4b0 : decide (4 < (a0.size : Int)) = true := decide_eq_true c4
    have c4b1 : decide (4 < a0.size) = true := decide_eq_true (by omega)
    clear c4
    by_cases c6 : (bt a0 4) = 45
    ·rw [if_pos c6] at H
     have c6b0 : ((bt a0 4) == 45) = true := beq_iff_eq.mpr c6
     have c6b1 : ((bt a0 4) != 45) = false := bne_eq_false_iff_eq.mpr c6
     clear c6
     by_cases c7 : 7 < (a0.size : Int)
     ·rw [if_pos c7] at H
      have c7b0 : decide (7 < (a0.size : Int)) = true := decide_eq_true c7
      have c7b1 : decide (7 < a0.size) = true := decide_eq_true (by omega)
      clear c7
      have H' := Aside0.mk H
      clear H
      have p5 : 0 ≤ (4 : Int) := (by omega)
      have q5 : 4 < a0.size := (by have : (4 : Int) < (a0.size : Int) := of_decide_eq_true (by first | (with_reducible assumption) | assumption); omega)
      have hx5 : ∀ h : 4 < a0.size, ((a0[4]'h).toNat : Int) = bt a0 4 := bt_at a0 4
      clear p5
      have qi5 : (4 < (a0.size : Int)) = True := eq_true (of_decide_eq_true (by first | (with_reducible assumption) | assumption))
      replace q5 := eq_true q5
      have p8 : 0 ≤ (7 : Int) := (by omega)
      have q8 : 7 < a0.size := (by have : (7 : Int) < (a0.size : Int) := of_decide_eq_true (by first | (with_reducible assumption) | assumption); omega)
      have hx8 : ∀ h : 7 < a0.size, ((a0[7]'h).toNat : Int) = bt a0 7 := bt_at a0 7
      clear p8
      have qi8 : (7 < (a0.size : Int)) = True := eq_true (of_decide_eq_true (by first | (with_reducible assumption) | assumption))
      replace q8 := eq_true q8
      go_wp2
      go_meet
      case rel => exact ⟨_, (((bt a0 7) != 45)), (by first | rfl | (simp; done) | (simp [*]; done) | (simp; exact (show ∀ a_ b_ : Bool, (a_ == b_) = (!(a_ != b_)) from by decide) _ _) | (rw [Bool.eq_iff_iff]; simp; done) | (simp; rw [Bool.eq_iff_iff]; simp; done)), H', ⟨by first | omega | exact Nat.le_refl _⟩, by repeat (first | exact Drawn0.refl _ | apply Drawn0.step)⟩
     ·rw [if_neg c7] at H
      exact absurd H (by simp)
    ·rw [if_neg c6] at H
     have c6b0 : ((bt a0 4) == 45) = false := beq_eq_false_iff_ne.mpr c6
     have c6b1 : ((bt a0 4) != 45) = true := bne_iff_ne.mpr c6
     have H' := Aside0.mk H
     clear H
     have p5 : 0 ≤ (4 : Int) := (by omega)
     have q5 : 4 < a0.size := (by have : (4 : Int) < (a0.size : Int) := of_decide_eq_true (by first | (with_reducible assumption) | assumption); omega)
     have hx5 : ∀ h : 4 < a0.size, ((a0[4]'h).toNat : Int) = bt a0 4 := bt_at a0 4
     clear p5
     have qi5 : (4 < (a0.size : Int)) = True := eq_true (of_decide_eq_true (by first | (with_reducible assumption) | assumption))
     replace q5 := eq_true q5
     go_wp2
     go_meet
     case rel => exact ⟨_, (true), (by first | rfl | (simp; done) | (simp [*]; done) | (simp; exact (show ∀ a_ b_ : Bool, (a_ == b_) = (!(a_ != b_)) from by decide) _ _) | (rw [Bool.eq_iff_iff]; simp; done) | (simp; rw [Bool.eq_iff_iff]; simp; done)), H', ⟨by first | omega | exact Nat.le_refl _⟩, by repeat (first | exact Drawn0.refl _ | apply Drawn0.step)⟩
   ·rw [if_neg c4] at H
    exact absurd H (by simp)
  ·rw [if_neg c3] at H
   have c3b0 : ((a0.size : Int) == 10) = false := beq_eq_false_iff_ne.mpr c3
   have c3b1 : ((a0.size : Int) != 10) = true := bne_iff_ne.mpr c3
   (first | rw [c3b0] | (simp only [i64_w, i32_w]; rw [c3b0]) | skip)
   have H' := Aside0.mk H
   clear H
   go_wp2
   go_meet
   case rel => exact ⟨_, (true), (by first | rfl | (simp; done) | (simp [*]; done) | (simp; exact (show ∀ a_ b_ : Bool, (a_ == b_) = (!(a_ != b_)) from by decide) _ _) | (rw [Bool.eq_iff_iff]; simp; done) | (simp; rw [Bool.eq_iff_iff]; simp; done)), H', ⟨by first | omega | exact Nat.le_refl _⟩, by repeat (first | exact Drawn0.refl _ | apply Drawn0.step)⟩
 case rest =>
  clear HC2
  try clear p2
  try clear c3
  try clear c3b0
  try clear c3b1
  try clear c4
  try clear c4b0
  try clear c4b1
  try clear p5
  try clear q5
  try clear hx5
  try clear qi5
  try clear c6
  try clear c6b0
  try clear c6b1
  try clear c7
  try clear c7b0
  try clear c7b1
  try clear p8
  try clear q8
  try clear hx8
  try clear qi8
  try clear p5
  try clear p8
  try clear q5
  try clear q8
  obtain ⟨kq, x22_1, rfl, HA, HJ1, ⟨mc1, rfl⟩⟩ := hcut
  cases kq with
  | zero => exact absurd HA.out (by simp [civil_Read.j0])
  | succ kj1 =>
   have H := HA.out
   clear HA
   simp only [civil_Read.j0] at H
   by_cases c9 : x22_1 = true
   ·subst c9
    have H1 : (some (0, 11)) = some (r1, r2) := by rw [if_pos rfl] at H; exact H
    clear H
    have H := H1
    clear H1
    simp only [Option.some.injEq, Prod.mk.injEq] at H
    obtain ⟨rfl, rfl⟩ := H
    go_wp2
    go_ret2
    exact ⟨by first | rfl | (simp; done) | (simp [*]; done) | (simp; exact (show ∀ a_ b_ : Bool, (a_ == b_) = (!(a_ != b_)) from by decide) _ _), by repeat (first | exact Drawn0.refl _ | apply Drawn0.step)⟩
   ·replace c9 := Bool.eq_false_iff.mpr c9
    subst c9
    have H1 : (if 0 ≤ 4 then (if 4 ≤ (a0.size : Int) then ((civil_number.f kj1 (a0.extract 0 4)).bind fun bt117 => (if 5 ≤ 7 then (if 7 ≤ (a0.size : Int) then ((civil_number.f kj1 (a0.extract 5 7)).bind fun bt119 => (if 8 ≤ (a0.size : Int) then ((civil_number.f kj1 (a0.extract 8 a0.size)).bind fun bt121 => (if bt117.2 = true then (if bt119.2 = true then (if bt121.2 = true then ((civil_dated.f bt117.1 bt119.1 bt121.1).bind fun t123 => (if t123 = true then ((civil_Day.f bt117.1 bt119.1 bt121.1).bind fun bt124 => (some (bt124.1, bt124.2))) else (some (0, 11)))) else (some (0, 11))) else (some (0, 11))) else (some (0, 11)))) else (none))) else (none)) else (none))) else (none)) else (none)) = some (r1, r2) := by rw [if_neg (show ¬ (false = true) by decide)] at H; exact H
    clear H
    have H := H1
    clear H1
    by_cases c10 : 0 ≤ 4
    ·rw [if_pos c10] at H
     have c10b0 := eq_true c10
     have c10b1 : decide (0 ≤ 4) = true := decide_eq_true c10
     clear c10
     by_cases c11 : 4 ≤ (a0.size : Int)
     ·rw [if_pos c11] at H
      have c11b0 := eq_true c11
      have c11b1 : decide (4 ≤ (a0.size : Int)) = true := decide_eq_true c11
      clear c11
      replace H := Option.bind_eq_some_iff.mp H
      obtain ⟨⟨t117, t118⟩, A120, H⟩ := H
      replace H : (if 5 ≤ 7 then (if 7 ≤ (a0.size : Int) then ((civil_number.f kj1 (a0.extract 5 7)).bind fun bt119 => (if 8 ≤ (a0.size : Int) then ((civil_number.f kj1 (a0.extract 8 a0.size)).bind fun bt121 => (if t118 = true then (if bt119.2 = true then (if bt121.2 = true then ((civil_dated.f t117 bt119.1 bt121.1).bind fun t123 => (if t123 = true then ((civil_Day.f t117 bt119.1 bt121.1).bind fun bt124 => (some (bt124.1, bt124.2))) else (some (0, 11)))) else (some (0, 11))) else (some (0, 11))) else (some (0, 11)))) else (none))) else (none)) else (none)) = some (r1, r2) := H
      have A12 := Aside0.mk A120
      clear A120
      by_cases c13 : 5 ≤ 7
      ·rw [if_pos c13] at H
       have c13b0 := eq_true c13
       have c13b1 : decide (5 ≤ 7) = true := decide_eq_true c13
       clear c13
       by_cases c14 : 7 ≤ (a0.size : Int)
       ·rw [if_pos c14] at H
        have c14b0 := eq_true c14
        have c14b1 : decide (7 ≤ (a0.size : Int)) = true := decide_eq_true c14
        clear c14
        replace H := Option.bind_eq_some_iff.mp H
        obtain ⟨⟨t119, t120⟩, A150, H⟩ := H
        replace H : (if 8 ≤ (a0.size : Int) then ((civil_number.f kj1 (a0.extract 8 a0.size)).bind fun bt121 => (if t118 = true then (if t120 = true then (if bt121.2 = true then ((civil_dated.f t117 t119 bt121.1).bind fun t123 => (if t123 = true then ((civil_Day.f t117 t119 bt121.1).bind fun bt124 => (some (bt124.1, bt124.2))) else (some (0, 11)))) else (some (0, 11))) else (some (0, 11))) else (some (0, 11)))) else (none)) = some (r1, r2) := H
        have A15 := Aside0.mk A150
        clear A150
        by_cases c16 : 8 ≤ (a0.size : Int)
        ·rw [if_pos c16] at H
         have c16b0 := eq_true c16
         have c16b1 : decide (8 ≤ (a0.size : Int)) = true := decide_eq_true c16
         clear c16
         replace H := Option.bind_eq_some_iff.mp H
         obtain ⟨⟨t121, t122⟩, A170, H⟩ := H
         replace H : (if t118 = true then (if t120 = true then (if t122 = true then ((civil_dated.f t117 t119 t121).bind fun t123 => (if t123 = true then ((civil_Day.f t117 t119 t121).bind fun bt124 => (some (bt124.1, bt124.2))) else (some (0, 11)))) else (some (0, 11))) else (some (0, 11))) else (some (0, 11))) = some (r1, r2) := H
         have A17 := Aside0.mk A170
         clear A170
         by_cases c18 : t118 = true
         ·subst c18
          have H1 : (if t120 = true then (if t122 = true then ((civil_dated.f t117 t119 t121).bind fun t123 => (if t123 = true then ((civil_Day.f t117 t119 t121).bind fun bt124 => (some (bt124.1, bt124.2))) else (some (0, 11)))) else (some (0, 11))) else (some (0, 11))) = some (r1, r2) := by rw [if_pos rfl] at H; exact H
          clear H
          have H := H1
          clear H1
          by_cases c19 : t120 = true
          ·subst c19
           have H1 : (if t122 = true then ((civil_dated.f t117 t119 t121).bind fun t123 => (if t123 = true then ((civil_Day.f t117 t119 t121).bind fun bt124 => (some (bt124.1, bt124.2))) else (some (0, 11)))) else (some (0, 11))) = some (r1, r2) := by rw [if_pos rfl] at H; exact H
           clear H
           have H := H1
           clear H1
           by_cases c20 : t122 = true
           ·subst c20
            have H1 : ((civil_dated.f t117 t119 t121).bind fun t123 => (if t123 = true then ((civil_Day.f t117 t119 t121).bind fun bt124 => (some (bt124.1, bt124.2))) else (some (0, 11)))) = some (r1, r2) := by rw [if_pos rfl] at H; exact H
            clear H
            have H := H1
            clear H1
            replace H := Option.bind_eq_some_iff.mp H
            obtain ⟨t123, A210, H⟩ := H
            replace H : (if t123 = true then ((civil_Day.f t117 t119 t121).bind fun bt124 => (some (bt124.1, bt124.2))) else (some (0, 11))) = some (r1, r2) := H
            have A21 := Aside0.mk A210
            clear A210
            by_cases c22 : t123 = true
            ·subst c22
             have H1 : ((civil_Day.f t117 t119 t121).bind fun bt124 => (some (bt124.1, bt124.2))) = some (r1, r2) := by rw [if_pos rfl] at H; exact H
             clear H
             have H := H1
             clear H1
             replace H := Option.bind_eq_some_iff.mp H
             obtain ⟨⟨t124, t125⟩, A230, H⟩ := H
             replace H : (some (t124, t125)) = some (r1, r2) := H
             have A23 := Aside0.mk A230
             clear A230
             simp only [Option.some.injEq, Prod.mk.injEq] at H
             obtain ⟨rfl, rfl⟩ := H
             go_wp2_with (first | ((with_reducible refine gate_callee (f := 60) rfl ?_); refine goesL_ (some 26) rfl rfl Tryd.func60 (by kernel_rfl) rfl #[.string (a0.extract 0 4)] rfl (by (try simp only [List.map_toArray, List.map_cons, List.map_nil]); first | done | rfl | (simp only [List.length_drop, List.length_take]; rfl)) ?_; (with_reducible refine (civil_number.calls kj1 (a0.extract 0 4) t117 true _ A12.out).mono ?_); rintro e w' ⟨rfl, ⟨nd, rfl⟩⟩; refine ⟨_, rfl, ?_⟩) | ((with_reducible refine gate_callee (f := 60) rfl ?_); refine goesL_ (some 32) rfl rfl Tryd.func60 (by kernel_rfl) rfl #[.string (a0.extract 5 7)] rfl (by (try simp only [List.map_toArray, List.map_cons, List.map_nil]); first | done | rfl | (simp only [List.length_drop, List.length_take]; rfl)) ?_; (with_reducible refine (civil_number.calls kj1 (a0.extract 5 7) t119 true _ A15.out).mono ?_); rintro e w' ⟨rfl, ⟨nd, rfl⟩⟩; refine ⟨_, rfl, ?_⟩) | ((with_reducible refine gate_callee (f := 60) rfl ?_); refine goesL_ (some 38) rfl rfl Tryd.func60 (by kernel_rfl) rfl #[.string (a0.extract 8 a0.size)] rfl (by (try simp only [List.map_toArray, List.map_cons, List.map_nil]); first | done | rfl | (simp only [List.length_drop, List.length_take]; rfl)) ?_; (with_reducible refine (civil_number.calls kj1 (a0.extract 8 a0.size) t121 true _ A17.out).mono ?_); rintro e w' ⟨rfl, ⟨nd, rfl⟩⟩; refine ⟨_, rfl, ?_⟩) | (go_at_call 59; (with_reducible refine (civil_dated.calls t117 t119 t121 true _ ?tabG A21.out).mono ?_); (case tabG => (first | exact hg | exact ⟨hg.out.drewN _⟩ | exact ⟨(hg.out.drewN _).drewN _⟩ | exact ⟨hg.out.drawn (by assumption)⟩)); rintro e w' ⟨rfl, ⟨nd, rfl⟩⟩) | ((with_reducible refine gate_callee (f := 34) rfl ?_); refine goesL_ (some 61) rfl rfl Tryd.func34 (by kernel_rfl) rfl #[.int .i64 t117, .int .i64 t119, .int .i64 t121] rfl (by (try simp only [List.map_toArray, List.map_cons, List.map_nil]); first | done | rfl | (simp only [List.length_drop, List.length_take]; rfl)) ?_; (with_reducible refine (civil_Day.calls t117 t119 t121 t124 t125 _ ?tabG A23.out).mono ?_); (case tabG => (first | exact hg | exact ⟨hg.out.drewN _⟩ | exact ⟨(hg.out.drewN _).drewN _⟩ | exact ⟨hg.out.drawn (by assumption)⟩)); rintro e w' ⟨rfl, ⟨nd, rfl⟩⟩; refine ⟨_, rfl, ?_⟩))
             go_ret2
             exact ⟨by first | rfl | (simp; done) | (simp [*]; done) | (simp; exact (show ∀ a_ b_ : Bool, (a_ == b_) = (!(a_ != b_)) from by decide) _ _), by repeat (first | exact Drawn0.refl _ | apply Drawn0.step)⟩
            ·replace c22 := Bool.eq_false_iff.mpr c22
             subst c22
             have H1 : (some (0, 11)) = some (r1, r2) := by rw [if_neg (show ¬ (false = true) by decide)] at H; exact H
             clear H
             have H := H1
             clear H1
             simp only [Option.some.injEq, Prod.mk.injEq] at H
             obtain ⟨rfl, rfl⟩ := H
             go_wp2_with (first | ((with_reducible refine gate_callee (f := 60) rfl ?_); refine goesL_ (some 26) rfl rfl Tryd.func60 (by kernel_rfl) rfl #[.string (a0.extract 0 4)] rfl (by (try simp only [List.map_toArray, List.map_cons, List.map_nil]); first | done | rfl | (simp only [List.length_drop, List.length_take]; rfl)) ?_; (with_reducible refine (civil_number.calls kj1 (a0.extract 0 4) t117 true _ A12.out).mono ?_); rintro e w' ⟨rfl, ⟨nd, rfl⟩⟩; refine ⟨_, rfl, ?_⟩) | ((with_reducible refine gate_callee (f := 60) rfl ?_); refine goesL_ (some 32) rfl rfl Tryd.func60 (by kernel_rfl) rfl #[.string (a0.extract 5 7)] rfl (by (try simp only [List.map_toArray, List.map_cons, List.map_nil]); first | done | rfl | (simp only [List.length_drop, List.length_take]; rfl)) ?_; (with_reducible refine (civil_number.calls kj1 (a0.extract 5 7) t119 true _ A15.out).mono ?_); rintro e w' ⟨rfl, ⟨nd, rfl⟩⟩; refine ⟨_, rfl, ?_⟩) | ((with_reducible refine gate_callee (f := 60) rfl ?_); refine goesL_ (some 38) rfl rfl Tryd.func60 (by kernel_rfl) rfl #[.string (a0.extract 8 a0.size)] rfl (by (try simp only [List.map_toArray, List.map_cons, List.map_nil]); first | done | rfl | (simp only [List.length_drop, List.length_take]; rfl)) ?_; (with_reducible refine (civil_number.calls kj1 (a0.extract 8 a0.size) t121 true _ A17.out).mono ?_); rintro e w' ⟨rfl, ⟨nd, rfl⟩⟩; refine ⟨_, rfl, ?_⟩) | (go_at_call 59; (with_reducible refine (civil_dated.calls t117 t119 t121 false _ ?tabG A21.out).mono ?_); (case tabG => (first | exact hg | exact ⟨hg.out.drewN _⟩ | exact ⟨(hg.out.drewN _).drewN _⟩ | exact ⟨hg.out.drawn (by assumption)⟩)); rintro e w' ⟨rfl, ⟨nd, rfl⟩⟩))
             go_ret2
             exact ⟨by first | rfl | (simp; done) | (simp [*]; done) | (simp; exact (show ∀ a_ b_ : Bool, (a_ == b_) = (!(a_ != b_)) from by decide) _ _), by repeat (first | exact Drawn0.refl _ | apply Drawn0.step)⟩
           ·replace c20 := Bool.eq_false_iff.mpr c20
            subst c20
            have H1 : (some (0, 11)) = some (r1, r2) := by rw [if_neg (show ¬ (false = true) by decide)] at H; exact H
            clear H
            have H := H1
            clear H1
            simp only [Option.some.injEq, Prod.mk.injEq] at H
            obtain ⟨rfl, rfl⟩ := H
            go_wp2_with (first | ((with_reducible refine gate_callee (f := 60) rfl ?_); refine goesL_ (some 26) rfl rfl Tryd.func60 (by kernel_rfl) rfl #[.string (a0.extract 0 4)] rfl (by (try simp only [List.map_toArray, List.map_cons, List.map_nil]); first | done | rfl | (simp only [List.length_drop, List.length_take]; rfl)) ?_; (with_reducible refine (civil_number.calls kj1 (a0.extract 0 4) t117 true _ A12.out).mono ?_); rintro e w' ⟨rfl, ⟨nd, rfl⟩⟩; refine ⟨_, rfl, ?_⟩) | ((with_reducible refine gate_callee (f := 60) rfl ?_); refine goesL_ (some 32) rfl rfl Tryd.func60 (by kernel_rfl) rfl #[.string (a0.extract 5 7)] rfl (by (try simp only [List.map_toArray, List.map_cons, List.map_nil]); first | done | rfl | (simp only [List.length_drop, List.length_take]; rfl)) ?_; (with_reducible refine (civil_number.calls kj1 (a0.extract 5 7) t119 true _ A15.out).mono ?_); rintro e w' ⟨rfl, ⟨nd, rfl⟩⟩; refine ⟨_, rfl, ?_⟩) | ((with_reducible refine gate_callee (f := 60) rfl ?_); refine goesL_ (some 38) rfl rfl Tryd.func60 (by kernel_rfl) rfl #[.string (a0.extract 8 a0.size)] rfl (by (try simp only [List.map_toArray, List.map_cons, List.map_nil]); first | done | rfl | (simp only [List.length_drop, List.length_take]; rfl)) ?_; (with_reducible refine (civil_number.calls kj1 (a0.extract 8 a0.size) t121 false _ A17.out).mono ?_); rintro e w' ⟨rfl, ⟨nd, rfl⟩⟩; refine ⟨_, rfl, ?_⟩))
            go_ret2
            exact ⟨by first | rfl | (simp; done) | (simp [*]; done) | (simp; exact (show ∀ a_ b_ : Bool, (a_ == b_) = (!(a_ != b_)) from by decide) _ _), by repeat (first | exact Drawn0.refl _ | apply Drawn0.step)⟩
          ·replace c19 := Bool.eq_false_iff.mpr c19
           subst c19
           have H1 : (some (0, 11)) = some (r1, r2) := by rw [if_neg (show ¬ (false = true) by decide)] at H; exact H
           clear H
           have H := H1
           clear H1
           simp only [Option.some.injEq, Prod.mk.injEq] at H
           obtain ⟨rfl, rfl⟩ := H
           go_wp2_with (first | ((with_reducible refine gate_callee (f := 60) rfl ?_); refine goesL_ (some 26) rfl rfl Tryd.func60 (by kernel_rfl) rfl #[.string (a0.extract 0 4)] rfl (by (try simp only [List.map_toArray, List.map_cons, List.map_nil]); first | done | rfl | (simp only [List.length_drop, List.length_take]; rfl)) ?_; (with_reducible refine (civil_number.calls kj1 (a0.extract 0 4) t117 true _ A12.out).mono ?_); rintro e w' ⟨rfl, ⟨nd, rfl⟩⟩; refine ⟨_, rfl, ?_⟩) | ((with_reducible refine gate_callee (f := 60) rfl ?_); refine goesL_ (some 32) rfl rfl Tryd.func60 (by kernel_rfl) rfl #[.string (a0.extract 5 7)] rfl (by (try simp only [List.map_toArray, List.map_cons, List.map_nil]); first | done | rfl | (simp only [List.length_drop, List.length_take]; rfl)) ?_; (with_reducible refine (civil_number.calls kj1 (a0.extract 5 7) t119 false _ A15.out).mono ?_); rintro e w' ⟨rfl, ⟨nd, rfl⟩⟩; refine ⟨_, rfl, ?_⟩) | ((with_reducible refine gate_callee (f := 60) rfl ?_); refine goesL_ (some 38) rfl rfl Tryd.func60 (by kernel_rfl) rfl #[.string (a0.extract 8 a0.size)] rfl (by (try simp only [List.map_toArray, List.map_cons, List.map_nil]); first | done | rfl | (simp only [List.length_drop, List.length_take]; rfl)) ?_; (with_reducible refine (civil_number.calls kj1 (a0.extract 8 a0.size) t121 t122 _ A17.out).mono ?_); rintro e w' ⟨rfl, ⟨nd, rfl⟩⟩; refine ⟨_, rfl, ?_⟩))
           go_ret2
           exact ⟨by first | rfl | (simp; done) | (simp [*]; done) | (simp; exact (show ∀ a_ b_ : Bool, (a_ == b_) = (!(a_ != b_)) from by decide) _ _), by repeat (first | exact Drawn0.refl _ | apply Drawn0.step)⟩
         ·replace c18 := Bool.eq_false_iff.mpr c18
          subst c18
          have H1 : (some (0, 11)) = some (r1, r2) := by rw [if_neg (show ¬ (false = true) by decide)] at H; exact H
          clear H
          have H := H1
          clear H1
          simp only [Option.some.injEq, Prod.mk.injEq] at H
          obtain ⟨rfl, rfl⟩ := H
          go_wp2_with (first | ((with_reducible refine gate_callee (f := 60) rfl ?_); refine goesL_ (some 26) rfl rfl Tryd.func60 (by kernel_rfl) rfl #[.string (a0.extract 0 4)] rfl (by (try simp only [List.map_toArray, List.map_cons, List.map_nil]); first | done | rfl | (simp only [List.length_drop, List.length_take]; rfl)) ?_; (with_reducible refine (civil_number.calls kj1 (a0.extract 0 4) t117 false _ A12.out).mono ?_); rintro e w' ⟨rfl, ⟨nd, rfl⟩⟩; refine ⟨_, rfl, ?_⟩) | ((with_reducible refine gate_callee (f := 60) rfl ?_); refine goesL_ (some 32) rfl rfl Tryd.func60 (by kernel_rfl) rfl #[.string (a0.extract 5 7)] rfl (by (try simp only [List.map_toArray, List.map_cons, List.map_nil]); first | done | rfl | (simp only [List.length_drop, List.length_take]; rfl)) ?_; (with_reducible refine (civil_number.calls kj1 (a0.extract 5 7) t119 t120 _ A15.out).mono ?_); rintro e w' ⟨rfl, ⟨nd, rfl⟩⟩; refine ⟨_, rfl, ?_⟩) | ((with_reducible refine gate_callee (f := 60) rfl ?_); refine goesL_ (some 38) rfl rfl Tryd.func60 (by kernel_rfl) rfl #[.string (a0.extract 8 a0.size)] rfl (by (try simp only [List.map_toArray, List.map_cons, List.map_nil]); first | done | rfl | (simp only [List.length_drop, List.length_take]; rfl)) ?_; (with_reducible refine (civil_number.calls kj1 (a0.extract 8 a0.size) t121 t122 _ A17.out).mono ?_); rintro e w' ⟨rfl, ⟨nd, rfl⟩⟩; refine ⟨_, rfl, ?_⟩))
          go_ret2
          exact ⟨by first | rfl | (simp; done) | (simp [*]; done) | (simp; exact (show ∀ a_ b_ : Bool, (a_ == b_) = (!(a_ != b_)) from by decide) _ _), by repeat (first | exact Drawn0.refl _ | apply Drawn0.step)⟩
        ·rw [if_neg c16] at H
         exact absurd H (by simp)
       ·rw [if_neg c14] at H
        exact absurd H (by simp)
      ·rw [if_neg c13] at H
       exact absurd H (by simp)
     ·rw [if_neg c11] at H
      exact absurd H (by simp)
    ·rw [if_neg c10] at H
     exact absurd H (by simp)
def civil_ReadTime.j0 : Nat → ByteArray → Bool → Option (Int × Int)
 | 0, _, _ => none
 | k + 1, x0, x22 => if x22 = true then (some (0, 11)) else (if 0 ≤ 10 then (if 10 ≤ (x0.size : Int) then ((civil_Read.f k (x0.extract 0 10)).bind fun bt126 => (if 11 ≤ 13 then (if 13 ≤ (x0.size : Int) then ((civil_number.f k (x0.extract 11 13)).bind fun bt128 => (if 14 ≤ (x0.size : Int) then ((civil_number.f k (x0.extract 14 x0.size)).bind fun bt130 => (if bt126.2 = 0 then (if bt128.2 = true then (if bt130.2 = true then (if bt128.1 > 23 then (some (0, 11)) else (if bt130.1 > 59 then (some (0, 11)) else (some (wrap64 ((wrap64 ((wrap64 (bt126.1 * 1440)) + (wrap64 (bt128.1 * 60)))) + bt130.1), 0)))) else (some (0, 11))) else (some (0, 11))) else (some (0, 11)))) else (none))) else (none)) else (none))) else (none)) else (none))
def civil_ReadTime.f (k : Nat) (a0 : ByteArray) : Option (Int × Int) := if (a0.size : Int) = 16 then (if 10 < (a0.size : Int) then (if (bt a0 10) = 32 then (if 13 < (a0.size : Int) then (civil_ReadTime.j0 k a0 ((bt a0 13) != 58)) else (none)) else (civil_ReadTime.j0 k a0 true)) else (none)) else (civil_ReadTime.j0 k a0 true)
theorem civil_ReadTime.mono_l : ∀ k, (∀ y0 y1, LeO (civil_ReadTime.j0 k y0 y1) (civil_ReadTime.j0 (k + 1) y0 y1))
 | 0 => fun _ _ r h => by simp [civil_ReadTime.j0] at h
 | k + 1 => by
  have ih0 := civil_ReadTime.mono_l k
  ·intro y0 y1
   unfold civil_ReadTime.j0
   repeat' first
   | (with_reducible exact ih0 _ _)
   | (with_reducible exact civil_Read.mono _ _)
   | (with_reducible exact civil_number.mono _ _)
   | (with_reducible exact LeO.refl _)
   | (with_reducible exact LeO.none _)
   | (with_reducible refine LeO.ite ?_ ?_)
   | (with_reducible refine LeO.bind ?_ (fun _ => ?_))
   | exact ih0 _ _
   | exact civil_Read.mono _ _
   | exact civil_number.mono _ _
   | exact LeO.none _
   | refine LeO.ite ?_ ?_
   | refine LeO.bind ?_ (fun _ => ?_)
theorem civil_ReadTime.mono : ∀ a0 k, LeO (civil_ReadTime.f k a0) (civil_ReadTime.f (k + 1) a0) := by
 intro a0 k
 have ih0 := civil_ReadTime.mono_l k
 unfold civil_ReadTime.f
 repeat' first
  | (with_reducible exact ih0 _ _)
  | (with_reducible exact civil_Read.mono _ _)
  | (with_reducible exact civil_number.mono _ _)
  | (with_reducible exact LeO.refl _)
  | (with_reducible exact LeO.none _)
  | (with_reducible refine LeO.ite ?_ ?_)
  | (with_reducible refine LeO.bind ?_ (fun _ => ?_))
  | exact ih0 _ _
  | exact civil_Read.mono _ _
  | exact civil_number.mono _ _
  | exact LeO.none _
  | refine LeO.ite ?_ ?_
  | refine LeO.bind ?_ (fun _ => ?_)
set_option maxHeartbeats 8000000 in
set_option maxRecDepth 100000 in
theorem civil_ReadTime.calls (k : Nat) (a0 : ByteArray) (r1 : Int) (r2 : Int) (w : World) (hg : Aside0 (Tab w)) (h : civil_ReadTime.f k a0 = some (r1, r2)) :
  Calls Tryd.prog 32 #[.string a0] w fun e w' => e = .returned (.tuple #[.int .i64 r1, .int .i64 r2]) ∧ Drawn0 w w' := by
 have H : (if (a0.size : Int) = 16 then (if 10 < (a0.size : Int) then (if (bt a0 10) = 32 then (if 13 < (a0.size : Int) then (civil_ReadTime.j0 k a0 ((bt a0 13) != 58)) else (none)) else (civil_ReadTime.j0 k a0 true)) else (none)) else (civil_ReadTime.j0 k a0 true)) = some (r1, r2) := h
 clear h
 have HC2 := Aside0.mk H
 clear H
 go_enter Tryd.func32, Tryd.ntmps32
 go_upto_region 1 with (fail)
 go_cut [22] (fun v22 wc => ∃ (kq : Nat) (x22_1 : Bool), v22 = .bool x22_1 ∧ Aside0 (civil_ReadTime.j0 kq a0 x22_1 = some (r1, r2)) ∧ Aside0 (kq ≤ k) ∧ Drawn0 w wc)
 case first =>
  have H := HC2.out
  clear HC2
  by_cases c3 : (a0.size : Int) = 16
  ·rw [if_pos c3] at H
   have c3b0 : ((a0.size : Int) == 16) = true := beq_iff_eq.mpr c3
   have c3b1 : ((a0.size : Int) != 16) = false := bne_eq_false_iff_eq.mpr c3
   clear c3
   (first | rw [c3b0] | (simp only [i64_w, i32_w]; rw [c3b0]) | skip)
   by_cases c4 : 10 < (a0.size : Int)
   ·rw [if_pos c4] at H
    have c4b0 : decide (10 < (a0.size : Int)) = true := decide_eq_true c4
    have c4b1 : decide (10 < a0.size) = true := decide_eq_true (by omega)
    clear c4
    by_cases c6 : (bt a0 10) = 32
    ·rw [if_pos c6] at H
     have c6b0 : ((bt a0 10) == 32) = true := beq_iff_eq.mpr c6
     have c6b1 : ((bt a0 10) != 32) = false := bne_eq_false_iff_eq.mpr c6
     clear c6
     by_cases c7 : 13 < (a0.size : Int)
     ·rw [if_pos c7] at H
      have c7b0 : decide (13 < (a0.size : Int)) = true := decide_eq_true c7
      have c7b1 : decide (13 < a0.size) = true := decide_eq_true (by omega)
      clear c7
      have H' := Aside0.mk H
      clear H
      have p5 : 0 ≤ (10 : Int) := (by omega)
      have q5 : 10 < a0.size := (by have : (10 : Int) < (a0.size : Int) := of_decide_eq_true (by first | (with_reducible assumption) | assumption); omega)
      have hx5 : ∀ h : 10 < a0.size, ((a0[10]'h).toNat : Int) = bt a0 10 := bt_at a0 10
      clear p5
      have qi5 : (10 < (a0.size : Int)) = True := eq_true (of_decide_eq_true (by first | (with_reducible assumption) | assumption))
      replace q5 := eq_true q5
      have p8 : 0 ≤ (13 : Int) := (by omega)
      have q8 : 13 < a0.size := (by have : (13 : Int) < (a0.size : Int) := of_decide_eq_true (by first | (with_reducible assumption) | assumption); omega)
      have hx8 : ∀ h : 13 < a0.size, ((a0[13]'h).toNat : Int) = bt a0 13 := bt_at a0 13
      clear p8
      have qi8 : (13 < (a0.size : Int)) = True := eq_true (of_decide_eq_true (by first | (with_reducible assumption) | assumption))
      replace q8 := eq_true q8
      go_wp2
      go_meet
      case rel => exact ⟨_, (((bt a0 13) != 58)), (by first | rfl | (simp; done) | (simp [*]; done) | (simp; exact (show ∀ a_ b_ : Bool, (a_ == b_) = (!(a_ != b_)) from by decide) _ _) | (rw [Bool.eq_iff_iff]; simp; done) | (simp; rw [Bool.eq_iff_iff]; simp; done)), H', ⟨by first | omega | exact Nat.le_refl _⟩, by repeat (first | exact Drawn0.refl _ | apply Drawn0.step)⟩
     ·rw [if_neg c7] at H
      exact absurd H (by simp)
    ·rw [if_neg c6] at H
     have c6b0 : ((bt a0 10) == 32) = false := beq_eq_false_iff_ne.mpr c6
     have c6b1 : ((bt a0 10) != 32) = true := bne_iff_ne.mpr c6
     have H' := Aside0.mk H
     clear H
     have p5 : 0 ≤ (10 : Int) := (by omega)
     have q5 : 10 < a0.size := (by have : (10 : Int) < (a0.size : Int) := of_decide_eq_true (by first | (with_reducible assumption) | assumption); omega)
     have hx5 : ∀ h : 10 < a0.size, ((a0[10]'h).toNat : Int) = bt a0 10 := bt_at a0 10
     clear p5
     have qi5 : (10 < (a0.size : Int)) = True := eq_true (of_decide_eq_true (by first | (with_reducible assumption) | assumption))
     replace q5 := eq_true q5
     go_wp2
     go_meet
     case rel => exact ⟨_, (true), (by first | rfl | (simp; done) | (simp [*]; done) | (simp; exact (show ∀ a_ b_ : Bool, (a_ == b_) = (!(a_ != b_)) from by decide) _ _) | (rw [Bool.eq_iff_iff]; simp; done) | (simp; rw [Bool.eq_iff_iff]; simp; done)), H', ⟨by first | omega | exact Nat.le_refl _⟩, by repeat (first | exact Drawn0.refl _ | apply Drawn0.step)⟩
   ·rw [if_neg c4] at H
    exact absurd H (by simp)
  ·rw [if_neg c3] at H
   have c3b0 : ((a0.size : Int) == 16) = false := beq_eq_false_iff_ne.mpr c3
   have c3b1 : ((a0.size : Int) != 16) = true := bne_iff_ne.mpr c3
   (first | rw [c3b0] | (simp only [i64_w, i32_w]; rw [c3b0]) | skip)
   have H' := Aside0.mk H
   clear H
   go_wp2
   go_meet
   case rel => exact ⟨_, (true), (by first | rfl | (simp; done) | (simp [*]; done) | (simp; exact (show ∀ a_ b_ : Bool, (a_ == b_) = (!(a_ != b_)) from by decide) _ _) | (rw [Bool.eq_iff_iff]; simp; done) | (simp; rw [Bool.eq_iff_iff]; simp; done)), H', ⟨by first | omega | exact Nat.le_refl _⟩, by repeat (first | exact Drawn0.refl _ | apply Drawn0.step)⟩
 case rest =>
  clear HC2
  try clear p2
  try clear c3
  try clear c3b0
  try clear c3b1
  try clear c4
  try clear c4b0
  try clear c4b1
  try clear p5
  try clear q5
  try clear hx5
  try clear qi5
  try clear c6
  try clear c6b0
  try clear c6b1
  try clear c7
  try clear c7b0
  try clear c7b1
  try clear p8
  try clear q8
  try clear hx8
  try clear qi8
  try clear p5
  try clear p8
  try clear q5
  try clear q8
  obtain ⟨kq, x22_1, rfl, HA, HJ1, ⟨mc1, rfl⟩⟩ := hcut
  cases kq with
  | zero => exact absurd HA.out (by simp [civil_ReadTime.j0])
  | succ kj1 =>
   have H := HA.out
   clear HA
   simp only [civil_ReadTime.j0] at H
   by_cases c9 : x22_1 = true
   ·subst c9
    have H1 : (some (0, 11)) = some (r1, r2) := by rw [if_pos rfl] at H; exact H
    clear H
    have H := H1
    clear H1
    simp only [Option.some.injEq, Prod.mk.injEq] at H
    obtain ⟨rfl, rfl⟩ := H
    go_wp2
    go_ret2
    exact ⟨by first | rfl | (simp; done) | (simp [*]; done) | (simp; exact (show ∀ a_ b_ : Bool, (a_ == b_) = (!(a_ != b_)) from by decide) _ _), by repeat (first | exact Drawn0.refl _ | apply Drawn0.step)⟩
   ·replace c9 := Bool.eq_false_iff.mpr c9
    subst c9
    have H1 : (if 0 ≤ 10 then (if 10 ≤ (a0.size : Int) then ((civil_Read.f kj1 (a0.extract 0 10)).bind fun bt126 => (if 11 ≤ 13 then (if 13 ≤ (a0.size : Int) then ((civil_number.f kj1 (a0.extract 11 13)).bind fun bt128 => (if 14 ≤ (a0.size : Int) then ((civil_number.f kj1 (a0.extract 14 a0.size)).bind fun bt130 => (if bt126.2 = 0 then (if bt128.2 = true then (if bt130.2 = true then (if bt128.1 > 23 then (some (0, 11)) else (if bt130.1 > 59 then (some (0, 11)) else (some (wrap64 ((wrap64 ((wrap64 (bt126.1 * 1440)) + (wrap64 (bt128.1 * 60)))) + bt130.1), 0)))) else (some (0, 11))) else (some (0, 11))) else (some (0, 11)))) else (none))) else (none)) else (none))) else (none)) else (none)) = some (r1, r2) := by rw [if_neg (show ¬ (false = true) by decide)] at H; exact H
    clear H
    have H := H1
    clear H1
    by_cases c10 : 0 ≤ 10
    ·rw [if_pos c10] at H
     have c10b0 := eq_true c10
     have c10b1 : decide (0 ≤ 10) = true := decide_eq_true c10
     clear c10
     by_cases c11 : 10 ≤ (a0.size : Int)
     ·rw [if_pos c11] at H
      have c11b0 := eq_true c11
      have c11b1 : decide (10 ≤ (a0.size : Int)) = true := decide_eq_true c11
      clear c11
      replace H := Option.bind_eq_some_iff.mp H
      obtain ⟨⟨t126, t127⟩, A120, H⟩ := H
      replace H : (if 11 ≤ 13 then (if 13 ≤ (a0.size : Int) then ((civil_number.f kj1 (a0.extract 11 13)).bind fun bt128 => (if 14 ≤ (a0.size : Int) then ((civil_number.f kj1 (a0.extract 14 a0.size)).bind fun bt130 => (if t127 = 0 then (if bt128.2 = true then (if bt130.2 = true then (if bt128.1 > 23 then (some (0, 11)) else (if bt130.1 > 59 then (some (0, 11)) else (some (wrap64 ((wrap64 ((wrap64 (t126 * 1440)) + (wrap64 (bt128.1 * 60)))) + bt130.1), 0)))) else (some (0, 11))) else (some (0, 11))) else (some (0, 11)))) else (none))) else (none)) else (none)) = some (r1, r2) := H
      have A12 := Aside0.mk A120
      clear A120
      by_cases c13 : 11 ≤ 13
      ·rw [if_pos c13] at H
       have c13b0 := eq_true c13
       have c13b1 : decide (11 ≤ 13) = true := decide_eq_true c13
       clear c13
       by_cases c14 : 13 ≤ (a0.size : Int)
       ·rw [if_pos c14] at H
        have c14b0 := eq_true c14
        have c14b1 : decide (13 ≤ (a0.size : Int)) = true := decide_eq_true c14
        clear c14
        replace H := Option.bind_eq_some_iff.mp H
        obtain ⟨⟨t128, t129⟩, A150, H⟩ := H
        replace H : (if 14 ≤ (a0.size : Int) then ((civil_number.f kj1 (a0.extract 14 a0.size)).bind fun bt130 => (if t127 = 0 then (if t129 = true then (if bt130.2 = true then (if t128 > 23 then (some (0, 11)) else (if bt130.1 > 59 then (some (0, 11)) else (some (wrap64 ((wrap64 ((wrap64 (t126 * 1440)) + (wrap64 (t128 * 60)))) + bt130.1), 0)))) else (some (0, 11))) else (some (0, 11))) else (some (0, 11)))) else (none)) = some (r1, r2) := H
        have A15 := Aside0.mk A150
        clear A150
        by_cases c16 : 14 ≤ (a0.size : Int)
        ·rw [if_pos c16] at H
         have c16b0 := eq_true c16
         have c16b1 : decide (14 ≤ (a0.size : Int)) = true := decide_eq_true c16
         clear c16
         replace H := Option.bind_eq_some_iff.mp H
         obtain ⟨⟨t130, t131⟩, A170, H⟩ := H
         replace H : (if t127 = 0 then (if t129 = true then (if t131 = true then (if t128 > 23 then (some (0, 11)) else (if t130 > 59 then (some (0, 11)) else (some (wrap64 ((wrap64 ((wrap64 (t126 * 1440)) + (wrap64 (t128 * 60)))) + t130), 0)))) else (some (0, 11))) else (some (0, 11))) else (some (0, 11))) = some (r1, r2) := H
         have A17 := Aside0.mk A170
         clear A170
         by_cases c18 : t127 = 0
         ·rw [if_pos c18] at H
          have c18b0 : (t127 == 0) = true := beq_iff_eq.mpr c18
          have c18b1 : (t127 != 0) = false := bne_eq_false_iff_eq.mpr c18
          clear c18
          by_cases c19 : t129 = true
          ·subst c19
           have H1 : (if t131 = true then (if t128 > 23 then (some (0, 11)) else (if t130 > 59 then (some (0, 11)) else (some (wrap64 ((wrap64 ((wrap64 (t126 * 1440)) + (wrap64 (t128 * 60)))) + t130), 0)))) else (some (0, 11))) = some (r1, r2) := by rw [if_pos rfl] at H; exact H
           clear H
           have H := H1
           clear H1
           by_cases c20 : t131 = true
           ·subst c20
            have H1 : (if t128 > 23 then (some (0, 11)) else (if t130 > 59 then (some (0, 11)) else (some (wrap64 ((wrap64 ((wrap64 (t126 * 1440)) + (wrap64 (t128 * 60)))) + t130), 0)))) = some (r1, r2) := by rw [if_pos rfl] at H; exact H
            clear H
            have H := H1
            clear H1
            by_cases c21 : t128 > 23
            ·rw [if_pos c21] at H
             have c21b0 : decide (23 < t128) = true := decide_eq_true c21
             clear c21
             simp only [Option.some.injEq, Prod.mk.injEq] at H
             obtain ⟨rfl, rfl⟩ := H
             go_wp2_with (first | ((with_reducible refine gate_callee (f := 30) rfl ?_); refine goesL_ (some 26) rfl rfl Tryd.func30 (by kernel_rfl) rfl #[.string (a0.extract 0 10)] rfl (by (try simp only [List.map_toArray, List.map_cons, List.map_nil]); first | done | rfl | (simp only [List.length_drop, List.length_take]; rfl)) ?_; (with_reducible refine (civil_Read.calls kj1 (a0.extract 0 10) t126 t127 _ ?tabG A12.out).mono ?_); (case tabG => (first | exact hg | exact ⟨hg.out.drewN _⟩ | exact ⟨(hg.out.drewN _).drewN _⟩ | exact ⟨hg.out.drawn (by assumption)⟩)); rintro e w' ⟨rfl, ⟨nd, rfl⟩⟩; refine ⟨_, rfl, ?_⟩) | ((with_reducible refine gate_callee (f := 60) rfl ?_); refine goesL_ (some 32) rfl rfl Tryd.func60 (by kernel_rfl) rfl #[.string (a0.extract 11 13)] rfl (by (try simp only [List.map_toArray, List.map_cons, List.map_nil]); first | done | rfl | (simp only [List.length_drop, List.length_take]; rfl)) ?_; (with_reducible refine (civil_number.calls kj1 (a0.extract 11 13) t128 true _ A15.out).mono ?_); rintro e w' ⟨rfl, ⟨nd, rfl⟩⟩; refine ⟨_, rfl, ?_⟩) | ((with_reducible refine gate_callee (f := 60) rfl ?_); refine goesL_ (some 38) rfl rfl Tryd.func60 (by kernel_rfl) rfl #[.string (a0.extract 14 a0.size)] rfl (by (try simp only [List.map_toArray, List.map_cons, List.map_nil]); first | done | rfl | (simp only [List.length_drop, List.length_take]; rfl)) ?_; (with_reducible refine (civil_number.calls kj1 (a0.extract 14 a0.size) t130 true _ A17.out).mono ?_); rintro e w' ⟨rfl, ⟨nd, rfl⟩⟩; refine ⟨_, rfl, ?_⟩))
             go_ret2
             exact ⟨by first | rfl | (simp; done) | (simp [*]; done) | (simp; exact (show ∀ a_ b_ : Bool, (a_ == b_) = (!(a_ != b_)) from by decide) _ _), by repeat (first | exact Drawn0.refl _ | apply Drawn0.step)⟩
            ·rw [if_neg c21] at H
             have c21b0 : decide (23 < t128) = false := decide_eq_false c21
             clear c21
             by_cases c22 : t130 > 59
             ·rw [if_pos c22] at H
              have c22b0 : decide (59 < t130) = true := decide_eq_true c22
              clear c22
              simp only [Option.some.injEq, Prod.mk.injEq] at H
              obtain ⟨rfl, rfl⟩ := H
              go_wp2_with (first | ((with_reducible refine gate_callee (f := 30) rfl ?_); refine goesL_ (some 26) rfl rfl Tryd.func30 (by kernel_rfl) rfl #[.string (a0.extract 0 10)] rfl (by (try simp only [List.map_toArray, List.map_cons, List.map_nil]); first | done | rfl | (simp only [List.length_drop, List.length_take]; rfl)) ?_; (with_reducible refine (civil_Read.calls kj1 (a0.extract 0 10) t126 t127 _ ?tabG A12.out).mono ?_); (case tabG => (first | exact hg | exact ⟨hg.out.drewN _⟩ | exact ⟨(hg.out.drewN _).drewN _⟩ | exact ⟨hg.out.drawn (by assumption)⟩)); rintro e w' ⟨rfl, ⟨nd, rfl⟩⟩; refine ⟨_, rfl, ?_⟩) | ((with_reducible refine gate_callee (f := 60) rfl ?_); refine goesL_ (some 32) rfl rfl Tryd.func60 (by kernel_rfl) rfl #[.string (a0.extract 11 13)] rfl (by (try simp only [List.map_toArray, List.map_cons, List.map_nil]); first | done | rfl | (simp only [List.length_drop, List.length_take]; rfl)) ?_; (with_reducible refine (civil_number.calls kj1 (a0.extract 11 13) t128 true _ A15.out).mono ?_); rintro e w' ⟨rfl, ⟨nd, rfl⟩⟩; refine ⟨_, rfl, ?_⟩) | ((with_reducible refine gate_callee (f := 60) rfl ?_); refine goesL_ (some 38) rfl rfl Tryd.func60 (by kernel_rfl) rfl #[.string (a0.extract 14 a0.size)] rfl (by (try simp only [List.map_toArray, List.map_cons, List.map_nil]); first | done | rfl | (simp only [List.length_drop, List.length_take]; rfl)) ?_; (with_reducible refine (civil_number.calls kj1 (a0.extract 14 a0.size) t130 true _ A17.out).mono ?_); rintro e w' ⟨rfl, ⟨nd, rfl⟩⟩; refine ⟨_, rfl, ?_⟩))
              go_ret2
              exact ⟨by first | rfl | (simp; done) | (simp [*]; done) | (simp; exact (show ∀ a_ b_ : Bool, (a_ == b_) = (!(a_ != b_)) from by decide) _ _), by repeat (first | exact Drawn0.refl _ | apply Drawn0.step)⟩
             ·rw [if_neg c22] at H
              have c22b0 : decide (59 < t130) = false := decide_eq_false c22
              clear c22
              simp only [Option.some.injEq, Prod.mk.injEq] at H
              obtain ⟨rfl, rfl⟩ := H
              go_wp2_with (first | ((with_reducible refine gate_callee (f := 30) rfl ?_); refine goesL_ (some 26) rfl rfl Tryd.func30 (by kernel_rfl) rfl #[.string (a0.extract 0 10)] rfl (by (try simp only [List.map_toArray, List.map_cons, List.map_nil]); first | done | rfl | (simp only [List.length_drop, List.length_take]; rfl)) ?_; (with_reducible refine (civil_Read.calls kj1 (a0.extract 0 10) t126 t127 _ ?tabG A12.out).mono ?_); (case tabG => (first | exact hg | exact ⟨hg.out.drewN _⟩ | exact ⟨(hg.out.drewN _).drewN _⟩ | exact ⟨hg.out.drawn (by assumption)⟩)); rintro e w' ⟨rfl, ⟨nd, rfl⟩⟩; refine ⟨_, rfl, ?_⟩) | ((with_reducible refine gate_callee (f := 60) rfl ?_); refine goesL_ (some 32) rfl rfl Tryd.func60 (by kernel_rfl) rfl #[.string (a0.extract 11 13)] rfl (by (try simp only [List.map_toArray, List.map_cons, List.map_nil]); first | done | rfl | (simp only [List.length_drop, List.length_take]; rfl)) ?_; (with_reducible refine (civil_number.calls kj1 (a0.extract 11 13) t128 true _ A15.out).mono ?_); rintro e w' ⟨rfl, ⟨nd, rfl⟩⟩; refine ⟨_, rfl, ?_⟩) | ((with_reducible refine gate_callee (f := 60) rfl ?_); refine goesL_ (some 38) rfl rfl Tryd.func60 (by kernel_rfl) rfl #[.string (a0.extract 14 a0.size)] rfl (by (try simp only [List.map_toArray, List.map_cons, List.map_nil]); first | done | rfl | (simp only [List.length_drop, List.length_take]; rfl)) ?_; (with_reducible refine (civil_number.calls kj1 (a0.extract 14 a0.size) t130 true _ A17.out).mono ?_); rintro e w' ⟨rfl, ⟨nd, rfl⟩⟩; refine ⟨_, rfl, ?_⟩))
              go_ret2
              exact ⟨by first | rfl | (simp; done) | (simp [*]; done) | (simp; exact (show ∀ a_ b_ : Bool, (a_ == b_) = (!(a_ != b_)) from by decide) _ _), by repeat (first | exact Drawn0.refl _ | apply Drawn0.step)⟩
           ·replace c20 := Bool.eq_false_iff.mpr c20
            subst c20
            have H1 : (some (0, 11)) = some (r1, r2) := by rw [if_neg (show ¬ (false = true) by decide)] at H; exact H
            clear H
            have H := H1
            clear H1
            simp only [Option.some.injEq, Prod.mk.injEq] at H
            obtain ⟨rfl, rfl⟩ := H
            go_wp2_with (first | ((with_reducible refine gate_callee (f := 30) rfl ?_); refine goesL_ (some 26) rfl rfl Tryd.func30 (by kernel_rfl) rfl #[.string (a0.extract 0 10)] rfl (by (try simp only [List.map_toArray, List.map_cons, List.map_nil]); first | done | rfl | (simp only [List.length_drop, List.length_take]; rfl)) ?_; (with_reducible refine (civil_Read.calls kj1 (a0.extract 0 10) t126 t127 _ ?tabG A12.out).mono ?_); (case tabG => (first | exact hg | exact ⟨hg.out.drewN _⟩ | exact ⟨(hg.out.drewN _).drewN _⟩ | exact ⟨hg.out.drawn (by assumption)⟩)); rintro e w' ⟨rfl, ⟨nd, rfl⟩⟩; refine ⟨_, rfl, ?_⟩) | ((with_reducible refine gate_callee (f := 60) rfl ?_); refine goesL_ (some 32) rfl rfl Tryd.func60 (by kernel_rfl) rfl #[.string (a0.extract 11 13)] rfl (by (try simp only [List.map_toArray, List.map_cons, List.map_nil]); first | done | rfl | (simp only [List.length_drop, List.length_take]; rfl)) ?_; (with_reducible refine (civil_number.calls kj1 (a0.extract 11 13) t128 true _ A15.out).mono ?_); rintro e w' ⟨rfl, ⟨nd, rfl⟩⟩; refine ⟨_, rfl, ?_⟩) | ((with_reducible refine gate_callee (f := 60) rfl ?_); refine goesL_ (some 38) rfl rfl Tryd.func60 (by kernel_rfl) rfl #[.string (a0.extract 14 a0.size)] rfl (by (try simp only [List.map_toArray, List.map_cons, List.map_nil]); first | done | rfl | (simp only [List.length_drop, List.length_take]; rfl)) ?_; (with_reducible refine (civil_number.calls kj1 (a0.extract 14 a0.size) t130 false _ A17.out).mono ?_); rintro e w' ⟨rfl, ⟨nd, rfl⟩⟩; refine ⟨_, rfl, ?_⟩))
            go_ret2
            exact ⟨by first | rfl | (simp; done) | (simp [*]; done) | (simp; exact (show ∀ a_ b_ : Bool, (a_ == b_) = (!(a_ != b_)) from by decide) _ _), by repeat (first | exact Drawn0.refl _ | apply Drawn0.step)⟩
          ·replace c19 := Bool.eq_false_iff.mpr c19
           subst c19
           have H1 : (some (0, 11)) = some (r1, r2) := by rw [if_neg (show ¬ (false = true) by decide)] at H; exact H
           clear H
           have H := H1
           clear H1
           simp only [Option.some.injEq, Prod.mk.injEq] at H
           obtain ⟨rfl, rfl⟩ := H
           go_wp2_with (first | ((with_reducible refine gate_callee (f := 30) rfl ?_); refine goesL_ (some 26) rfl rfl Tryd.func30 (by kernel_rfl) rfl #[.string (a0.extract 0 10)] rfl (by (try simp only [List.map_toArray, List.map_cons, List.map_nil]); first | done | rfl | (simp only [List.length_drop, List.length_take]; rfl)) ?_; (with_reducible refine (civil_Read.calls kj1 (a0.extract 0 10) t126 t127 _ ?tabG A12.out).mono ?_); (case tabG => (first | exact hg | exact ⟨hg.out.drewN _⟩ | exact ⟨(hg.out.drewN _).drewN _⟩ | exact ⟨hg.out.drawn (by assumption)⟩)); rintro e w' ⟨rfl, ⟨nd, rfl⟩⟩; refine ⟨_, rfl, ?_⟩) | ((with_reducible refine gate_callee (f := 60) rfl ?_); refine goesL_ (some 32) rfl rfl Tryd.func60 (by kernel_rfl) rfl #[.string (a0.extract 11 13)] rfl (by (try simp only [List.map_toArray, List.map_cons, List.map_nil]); first | done | rfl | (simp only [List.length_drop, List.length_take]; rfl)) ?_; (with_reducible refine (civil_number.calls kj1 (a0.extract 11 13) t128 false _ A15.out).mono ?_); rintro e w' ⟨rfl, ⟨nd, rfl⟩⟩; refine ⟨_, rfl, ?_⟩) | ((with_reducible refine gate_callee (f := 60) rfl ?_); refine goesL_ (some 38) rfl rfl Tryd.func60 (by kernel_rfl) rfl #[.string (a0.extract 14 a0.size)] rfl (by (try simp only [List.map_toArray, List.map_cons, List.map_nil]); first | done | rfl | (simp only [List.length_drop, List.length_take]; rfl)) ?_; (with_reducible refine (civil_number.calls kj1 (a0.extract 14 a0.size) t130 t131 _ A17.out).mono ?_); rintro e w' ⟨rfl, ⟨nd, rfl⟩⟩; refine ⟨_, rfl, ?_⟩))
           go_ret2
           exact ⟨by first | rfl | (simp; done) | (simp [*]; done) | (simp; exact (show ∀ a_ b_ : Bool, (a_ == b_) = (!(a_ != b_)) from by decide) _ _), by repeat (first | exact Drawn0.refl _ | apply Drawn0.step)⟩
         ·rw [if_neg c18] at H
          have c18b0 : (t127 == 0) = false := beq_eq_false_iff_ne.mpr c18
          have c18b1 : (t127 != 0) = true := bne_iff_ne.mpr c18
          simp only [Option.some.injEq, Prod.mk.injEq] at H
          obtain ⟨rfl, rfl⟩ := H
          go_wp2_with (first | ((with_reducible refine gate_callee (f := 30) rfl ?_); refine goesL_ (some 26) rfl rfl Tryd.func30 (by kernel_rfl) rfl #[.string (a0.extract 0 10)] rfl (by (try simp only [List.map_toArray, List.map_cons, List.map_nil]); first | done | rfl | (simp only [List.length_drop, List.length_take]; rfl)) ?_; (with_reducible refine (civil_Read.calls kj1 (a0.extract 0 10) t126 t127 _ ?tabG A12.out).mono ?_); (case tabG => (first | exact hg | exact ⟨hg.out.drewN _⟩ | exact ⟨(hg.out.drewN _).drewN _⟩ | exact ⟨hg.out.drawn (by assumption)⟩)); rintro e w' ⟨rfl, ⟨nd, rfl⟩⟩; refine ⟨_, rfl, ?_⟩) | ((with_reducible refine gate_callee (f := 60) rfl ?_); refine goesL_ (some 32) rfl rfl Tryd.func60 (by kernel_rfl) rfl #[.string (a0.extract 11 13)] rfl (by (try simp only [List.map_toArray, List.map_cons, List.map_nil]); first | done | rfl | (simp only [List.length_drop, List.length_take]; rfl)) ?_; (with_reducible refine (civil_number.calls kj1 (a0.extract 11 13) t128 t129 _ A15.out).mono ?_); rintro e w' ⟨rfl, ⟨nd, rfl⟩⟩; refine ⟨_, rfl, ?_⟩) | ((with_reducible refine gate_callee (f := 60) rfl ?_); refine goesL_ (some 38) rfl rfl Tryd.func60 (by kernel_rfl) rfl #[.string (a0.extract 14 a0.size)] rfl (by (try simp only [List.map_toArray, List.map_cons, List.map_nil]); first | done | rfl | (simp only [List.length_drop, List.length_take]; rfl)) ?_; (with_reducible refine (civil_number.calls kj1 (a0.extract 14 a0.size) t130 t131 _ A17.out).mono ?_); rintro e w' ⟨rfl, ⟨nd, rfl⟩⟩; refine ⟨_, rfl, ?_⟩))
          go_ret2
          exact ⟨by first | rfl | (simp; done) | (simp [*]; done) | (simp; exact (show ∀ a_ b_ : Bool, (a_ == b_) = (!(a_ != b_)) from by decide) _ _), by repeat (first | exact Drawn0.refl _ | apply Drawn0.step)⟩
        ·rw [if_neg c16] at H
         exact absurd H (by simp)
       ·rw [if_neg c14] at H
        exact absurd H (by simp)
      ·rw [if_neg c13] at H
       exact absurd H (by simp)
     ·rw [if_neg c11] at H
      exact absurd H (by simp)
    ·rw [if_neg c10] at H
     exact absurd H (by simp)
end Go.Proofs.YtehnhedifhpalaaDoor.Cp
set_option linter.unusedVariables false
set_option linter.unusedSimpArgs false
namespace Go.Proofs.YtehnhedifhpalaaDoor.Cp
open Go.RowKit Go.Proofs.YtehnhedifhpalaaDoorW.PrintWords Go.Proofs.YtehnhedifhpalaaDoorW.PrintLast Go.Proofs.YtehnhedifhpalaaDoorW.PrintMore
theorem right_l0 (l : List Int) (hl : l.length ≤ 9223372036854775807) (d : Nat) : ∀ (i : Nat) (last : Int), i ≤ l.length → l.length - i = d →
    Ev (fun k => civil_Right.l0 k l last l (l.length : Int) (i : Int)) (rightFrom last (l.drop i) && decide (l.length ≤ 1000)) := by
  induction d with
  | zero =>
    intro i last hi hd
    refine Ev.step (fun k => civil_Right.l0.eq_2 _ _ _ _ _ k) ?_
    rw [List.drop_of_length_le (by omega)]
    refine ev_neg (by omega) (ev_eq ?_ (Ev.now _))
    simp only [rightFrom, Bool.true_and]
    rw [Bool.eq_iff_iff]
    simp only [decide_eq_true_eq]
    omega
  | succ d ih =>
    intro i last hi hd
    have c : i < l.length := by omega
    have ci : (i : Int) < (l.length : Int) := by omega
    have b1 : -9223372036854775808 ≤ (i : Int) + 1 ∧ (i : Int) + 1 ≤ 9223372036854775807 := by omega
    have e1 : (i : Int) + 1 = ((i + 1 : Nat) : Int) := by omega
    have ih1 := ih (i + 1) l[i] (by omega) (by omega)
    refine Ev.step (fun k => civil_Right.l0.eq_2 _ _ _ _ _ k) ?_
    refine ev_pos ci (ev_pos (by omega) (ev_pos ci ?_))
    rw [rd_get c, w64 b1.1 b1.2, e1, List.drop_eq_getElem_cons c]
    simp only [rightFrom]
    by_cases c1 : l[i] ≤ last
    · refine ev_pos c1 (ev_eq ?_ (Ev.now _))
      rw [decide_eq_true c1]; rfl
    · refine ev_neg c1 ?_
      by_cases c2 : l[i] > 730484
      · refine ev_pos c2 (ev_eq ?_ (Ev.now _))
        rw [decide_eq_false c1, decide_eq_true (show 730484 < l[i] from c2)]; rfl
      · refine ev_neg c2 (ev_eq ?_ ih1)
        rw [decide_eq_false c1, decide_eq_false (show ¬ 730484 < l[i] from c2)]; rfl
theorem right_f (l : List Int) (hl : l.length ≤ 9223372036854775807) : Ev (fun k => civil_Right.f k l) (rightB l) := by
  unfold civil_Right.f rightB
  have h := right_l0 l hl (l.length - 0) 0 (-1) (by omega) rfl
  rw [List.drop_zero] at h
  exact h
theorem right_of {l : List Int} : ∀ {last : Int}, rightFrom last l = true → (∀ d ∈ l, last < d ∧ d ≤ 730484) ∧ l.Pairwise (· < ·) := by
  induction l with
  | nil => intro last _; exact ⟨by simp, List.Pairwise.nil⟩
  | cons a l ih =>
    intro last h
    simp only [rightFrom, Bool.and_eq_true, Bool.not_eq_true', decide_eq_false_iff_not] at h
    obtain ⟨⟨h1, h2⟩, h3⟩ := h
    obtain ⟨k1, k2⟩ := ih h3
    refine ⟨fun d hd => ?_, List.pairwise_cons.2 ⟨fun b hb => (k1 b hb).1, k2⟩⟩
    rcases List.mem_cons.1 hd with rfl | hd
    · omega
    · have := k1 d hd; omega
theorem rightB_of {l : List Int} (h : rightB l = true) : Cv.Right l ∧ l.length ≤ 1000 := by
  unfold rightB at h
  simp only [Bool.and_eq_true, decide_eq_true_eq] at h
  obtain ⟨k1, k2⟩ := right_of h.1
  exact ⟨⟨k2, fun d hd => by have := k1 d hd; omega⟩, h.2⟩
end Go.Proofs.YtehnhedifhpalaaDoor.Cp
namespace Go.Proofs.YtehnhedifhpalaaDoor.Cq
open Go.RowKit Go.Proofs.YtehnhedifhpalaaDoorW.PrintWords Go.Proofs.YtehnhedifhpalaaDoorW.PrintLast Go.Proofs.YtehnhedifhpalaaDoorW.PrintMore
attribute [local go_sem] max2_int min2_int max_two min_two max_three min_three max_four min_four   -- for this text's walks alone
set_option linter.unusedVariables false
set_option linter.unusedSimpArgs false
def cmp_isNaN_int.f (a0 : Int) : Option (Bool) := some (a0 != a0)
set_option maxHeartbeats 8000000 in
set_option maxRecDepth 100000 in
theorem cmp_isNaN_int.calls (a0 : Int) (r : Bool) (w : World) (h : cmp_isNaN_int.f a0 = some r) :
  Calls Tryd.prog 74 #[.int .i64 a0] w fun e w' => e = .returned (.bool r) ∧ Drawn0 w w' := by
 have H : (some (a0 != a0)) = some r := h
 clear h
 obtain rfl := Option.some.inj H
 go_enter Tryd.func74, Tryd.ntmps74
 go_wp2
 go_ret
 exact ⟨by first | rfl | (simp; done) | (simp [*]; done) | (simp; exact (show ∀ a_ b_ : Bool, (a_ == b_) = (!(a_ != b_)) from by decide) _ _), by repeat (first | exact Drawn0.refl _ | apply Drawn0.step)⟩
def cmp_Less_int.f (a0 : Int) (a1 : Int) : Option (Bool) := (cmp_isNaN_int.f a0).bind fun t166 => (if t166 = true then ((cmp_isNaN_int.f a1).bind fun t167 => (if t167 = true then (some (decide (a0 < a1))) else (some true))) else (some (decide (a0 < a1))))
set_option maxHeartbeats 8000000 in
set_option maxRecDepth 100000 in
theorem cmp_Less_int.calls (a0 : Int) (a1 : Int) (r : Bool) (w : World) (h : cmp_Less_int.f a0 a1 = some r) :
  Calls Tryd.prog 70 #[.int .i64 a0, .int .i64 a1] w fun e w' => e = .returned (.bool r) ∧ Drawn0 w w' := by
 have H : ((cmp_isNaN_int.f a0).bind fun t166 => (if t166 = true then ((cmp_isNaN_int.f a1).bind fun t167 => (if t167 = true then (some (decide (a0 < a1))) else (some true))) else (some (decide (a0 < a1))))) = some r := h
 clear h
 replace H := Option.bind_eq_some_iff.mp H
 obtain ⟨t166, A30, H⟩ := H
 replace H : (if t166 = true then ((cmp_isNaN_int.f a1).bind fun t167 => (if t167 = true then (some (decide (a0 < a1))) else (some true))) else (some (decide (a0 < a1)))) = some r := H
 have A3 := Aside0.mk A30
 clear A30
 by_cases c4 : t166 = true
 ·subst c4
  have H1 : ((cmp_isNaN_int.f a1).bind fun t167 => (if t167 = true then (some (decide (a0 < a1))) else (some true))) = some r := by rw [if_pos rfl] at H; exact H
  clear H
  have H := H1
  clear H1
  replace H := Option.bind_eq_some_iff.mp H
  obtain ⟨t167, A50, H⟩ := H
  replace H : (if t167 = true then (some (decide (a0 < a1))) else (some true)) = some r := H
  have A5 := Aside0.mk A50
  clear A50
  by_cases c6 : t167 = true
  ·subst c6
   have H1 : (some (decide (a0 < a1))) = some r := by rw [if_pos rfl] at H; exact H
   clear H
   have H := H1
   clear H1
   obtain rfl := Option.some.inj H
   go_enter Tryd.func70, Tryd.ntmps70
   go_wp2_with (first | ((with_reducible refine gate_callee (f := 74) rfl ?_); refine goesL_ (some 6) rfl rfl Tryd.func74 (by kernel_rfl) rfl #[.int .i64 a0] rfl (by (try simp only [List.map_toArray, List.map_cons, List.map_nil]); first | done | rfl | (simp only [List.length_drop, List.length_take]; rfl)) ?_; (with_reducible refine (cmp_isNaN_int.calls a0 true _ A3.out).mono ?_); rintro e w' ⟨rfl, ⟨nd, rfl⟩⟩; refine ⟨_, rfl, ?_⟩) | (go_at_call 74; (with_reducible refine (cmp_isNaN_int.calls a1 true _ A5.out).mono ?_); rintro e w' ⟨rfl, ⟨nd, rfl⟩⟩))
   go_ret
   exact ⟨by first | rfl | (simp; done) | (simp [*]; done) | (simp; exact (show ∀ a_ b_ : Bool, (a_ == b_) = (!(a_ != b_)) from by decide) _ _), by repeat (first | exact Drawn0.refl _ | apply Drawn0.step)⟩
  ·replace c6 := Bool.eq_false_iff.mpr c6
   subst c6
   have H1 : (some true) = some r := by rw [if_neg (show ¬ (false = true) by decide)] at H; exact H
   clear H
   have H := H1
   clear H1
   obtain rfl := Option.some.inj H
   go_enter Tryd.func70, Tryd.ntmps70
   go_wp2_with (first | ((with_reducible refine gate_callee (f := 74) rfl ?_); refine goesL_ (some 6) rfl rfl Tryd.func74 (by kernel_rfl) rfl #[.int .i64 a0] rfl (by (try simp only [List.map_toArray, List.map_cons, List.map_nil]); first | done | rfl | (simp only [List.length_drop, List.length_take]; rfl)) ?_; (with_reducible refine (cmp_isNaN_int.calls a0 true _ A3.out).mono ?_); rintro e w' ⟨rfl, ⟨nd, rfl⟩⟩; refine ⟨_, rfl, ?_⟩) | (go_at_call 74; (with_reducible refine (cmp_isNaN_int.calls a1 false _ A5.out).mono ?_); rintro e w' ⟨rfl, ⟨nd, rfl⟩⟩))
   go_ret
   exact ⟨by first | rfl | (simp; done) | (simp [*]; done) | (simp; exact (show ∀ a_ b_ : Bool, (a_ == b_) = (!(a_ != b_)) from by decide) _ _), by repeat (first | exact Drawn0.refl _ | apply Drawn0.step)⟩
 ·replace c4 := Bool.eq_false_iff.mpr c4
  subst c4
  have H1 : (some (decide (a0 < a1))) = some r := by rw [if_neg (show ¬ (false = true) by decide)] at H; exact H
  clear H
  have H := H1
  clear H1
  obtain rfl := Option.some.inj H
  go_enter Tryd.func70, Tryd.ntmps70
  go_wp2_with (first | ((with_reducible refine gate_callee (f := 74) rfl ?_); refine goesL_ (some 6) rfl rfl Tryd.func74 (by kernel_rfl) rfl #[.int .i64 a0] rfl (by (try simp only [List.map_toArray, List.map_cons, List.map_nil]); first | done | rfl | (simp only [List.length_drop, List.length_take]; rfl)) ?_; (with_reducible refine (cmp_isNaN_int.calls a0 false _ A3.out).mono ?_); rintro e w' ⟨rfl, ⟨nd, rfl⟩⟩; refine ⟨_, rfl, ?_⟩))
  go_ret
  exact ⟨by first | rfl | (simp; done) | (simp [*]; done) | (simp; exact (show ∀ a_ b_ : Bool, (a_ == b_) = (!(a_ != b_)) from by decide) _ _), by repeat (first | exact Drawn0.refl _ | apply Drawn0.step)⟩
def slices_isNaN_int.f (a0 : Int) : Option (Bool) := some (a0 != a0)
set_option maxHeartbeats 8000000 in
set_option maxRecDepth 100000 in
theorem slices_isNaN_int.calls (a0 : Int) (r : Bool) (w : World) (h : slices_isNaN_int.f a0 = some r) :
  Calls Tryd.prog 71 #[.int .i64 a0] w fun e w' => e = .returned (.bool r) ∧ Drawn0 w w' := by
 have H : (some (a0 != a0)) = some r := h
 clear h
 obtain rfl := Option.some.inj H
 go_enter Tryd.func71, Tryd.ntmps71
 go_wp2
 go_ret
 exact ⟨by first | rfl | (simp; done) | (simp [*]; done) | (simp; exact (show ∀ a_ b_ : Bool, (a_ == b_) = (!(a_ != b_)) from by decide) _ _), by repeat (first | exact Drawn0.refl _ | apply Drawn0.step)⟩
def slices_BinarySearch_int_int.l0 : Nat → List Int → Int → Int → Int → Int → Option (Int × Bool)
 | 0, _, _, _, _, _ => none
 | k + 1, x0, x1, x6, x7, x8 => if x7 < x8 then (if 0 ≤ (wrap64 ((IntKind.u64.wrap (wrap64 (x7 + x8))) / 2)) then (if (wrap64 ((IntKind.u64.wrap (wrap64 (x7 + x8))) / 2)) < (x0.length : Int) then ((cmp_Less_int.f (rd x0 (wrap64 ((IntKind.u64.wrap (wrap64 (x7 + x8))) / 2))) x1).bind fun t169 => (if t169 = true then (slices_BinarySearch_int_int.l0 k x0 x1 x6 (wrap64 ((wrap64 ((IntKind.u64.wrap (wrap64 (x7 + x8))) / 2)) + 1)) x8) else (slices_BinarySearch_int_int.l0 k x0 x1 x6 x7 (wrap64 ((IntKind.u64.wrap (wrap64 (x7 + x8))) / 2))))) else (none)) else (none)) else (if x7 < x6 then (if 0 ≤ x7 then (if x7 < (x0.length : Int) then (if (rd x0 x7) = x1 then (some (x7, true)) else ((slices_isNaN_int.f (rd x0 x7)).bind fun t172 => (if t172 = true then ((slices_isNaN_int.f x1).bind fun t173 => (some (x7, t173))) else (some (x7, false))))) else (none)) else (none)) else (some (x7, false)))
def slices_BinarySearch_int_int.f (k : Nat) (l0 : List Int) (a1 : Int) : Option (Int × Bool) := slices_BinarySearch_int_int.l0 k l0 a1 (l0.length : Int) 0 (l0.length : Int)
set_option maxHeartbeats 8000000 in
set_option maxRecDepth 100000 in
theorem slices_BinarySearch_int_int.calls (k : Nat) (A0 : Option Addr) (c0 : Nat) (l0 : List Int) (a1 : Int) (r1 : Int) (r2 : Bool) (w : World) (hr0 : Kd.C (Kd.int .i64) w A0 l0.length l0) (hc0 : l0.length ≤ c0) (h : slices_BinarySearch_int_int.f k l0 a1 = some (r1, r2)) :
  Calls Tryd.prog 57 #[.slice A0 l0.length c0, .int .i64 a1] w fun e w' => e = .returned (.tuple #[.int .i64 r1, .bool r2]) ∧ Drawn0 w w' := by
 have HR0 := Aside0.mk hr0
 have HC0 := Aside0.mk hc0
 clear hr0 hc0
 have H : (slices_BinarySearch_int_int.l0 k l0 a1 (l0.length : Int) 0 (l0.length : Int)) = some (r1, r2) := h
 clear h
 have H' := Aside0.mk H
 clear H
 go_enter Tryd.func57, Tryd.ntmps57
 go_wp2
 go_loopg [7, 8] k (fun kq v7 v8 w' => ∃ (x7_1 : Int) (x8_1 : Int), v7 = .int .i64 x7_1 ∧ v8 = .int .i64 x8_1 ∧ Aside0 (slices_BinarySearch_int_int.l0 kq l0 a1 (l0.length : Int) x7_1 x8_1 = some (r1, r2)) ∧ Aside0 (kq ≤ k) ∧ Drawn0 w w')
 case atStart => exact ⟨(0), ((l0.length : Int)), (by first | rfl | (simp; done) | (simp [*]; done) | (simp; exact (show ∀ a_ b_ : Bool, (a_ == b_) = (!(a_ != b_)) from by decide) _ _)), (by first | rfl | (simp; done) | (simp [*]; done) | (simp; exact (show ∀ a_ b_ : Bool, (a_ == b_) = (!(a_ != b_)) from by decide) _ _)), H', ⟨Nat.le_refl _⟩, by repeat (first | exact Drawn0.refl _ | apply Drawn0.step)⟩
 case round =>
  clear H'
  try clear p2
  obtain ⟨x7_1, x8_1, rfl, rfl, HA, HK1, ⟨m1, rfl⟩⟩ := hrel
  cases gk with
  | zero => exact absurd HA.out (by simp [slices_BinarySearch_int_int.l0])
  | succ k1 =>
   have H := HA.out
   clear HA
   simp only [slices_BinarySearch_int_int.l0] at H
   by_cases c3 : x7_1 < x8_1
   ·rw [if_pos c3] at H
    have c3b0 : decide (x7_1 < x8_1) = true := decide_eq_true c3
    clear c3
    obtain ⟨ji4, hji4⟩ : ∃ j_ : Int, (wrap64 ((IntKind.u64.wrap (wrap64 (x7_1 + x8_1))) / 2)) = j_ := ⟨_, rfl⟩
    replace H : (if 0 ≤ (ji4) then (if (ji4) < (l0.length : Int) then ((cmp_Less_int.f (rd l0 (ji4)) a1).bind fun t169 => (if t169 = true then (slices_BinarySearch_int_int.l0 k1 l0 a1 (l0.length : Int) (wrap64 ((ji4) + 1)) x8_1) else (slices_BinarySearch_int_int.l0 k1 l0 a1 (l0.length : Int) x7_1 ji4))) else (none)) else (none)) = some (r1, r2) := by first | (rw [hji4] at H; exact H) | (simp only [hji4] at H ⊢; exact H)
    have hji4w : (IntKind.i64.wrap ((IntKind.u64.wrap (wrap64 (x7_1 + x8_1))) / 2)) = ji4 := (i64_w _).trans hji4
    by_cases c5 : 0 ≤ (ji4)
    ·rw [if_pos c5] at H
     have c5b0 : decide (0 ≤ (ji4)) = true := decide_eq_true c5
     clear c5
     by_cases c6 : (ji4) < (l0.length : Int)
     ·rw [if_pos c6] at H
      have c6b0 : decide ((ji4) < (l0.length : Int)) = true := decide_eq_true c6
      clear c6
      replace H := Option.bind_eq_some_iff.mp H
      obtain ⟨t169, A70, H⟩ := H
      replace H : (if t169 = true then (slices_BinarySearch_int_int.l0 k1 l0 a1 (l0.length : Int) (wrap64 ((ji4) + 1)) x8_1) else (slices_BinarySearch_int_int.l0 k1 l0 a1 (l0.length : Int) x7_1 ji4)) = some (r1, r2) := H
      have A7 := Aside0.mk A70
      clear A70
      by_cases c8 : t169 = true
      ·subst c8
       have H1 : (slices_BinarySearch_int_int.l0 k1 l0 a1 (l0.length : Int) (wrap64 ((ji4) + 1)) x8_1) = some (r1, r2) := by rw [if_pos rfl] at H; exact H
       clear H
       have H := H1
       clear H1
       have H' := Aside0.mk H
       clear H
       have p168 : 0 ≤ ((ji4) : Int) := of_decide_eq_true (by first | (with_reducible assumption) | assumption)
       have q168 : (ji4) < (l0.length : Int) := of_decide_eq_true (by first | (with_reducible assumption) | assumption)
       obtain ⟨ad168, e168, hx168_0⟩ := Kd.at_int HR0.out (ji4) p168 q168
       cases e168
       replace p168 := eq_true p168
       replace q168 := eq_true q168
       go_wp2_with (first | ((with_reducible refine gate_callee (f := 70) rfl ?_); refine goesL_ (some 27) rfl rfl Tryd.func70 (by kernel_rfl) rfl #[.int .i64 (rd l0 (ji4)), .int .i64 a1] rfl (by (try simp only [List.map_toArray, List.map_cons, List.map_nil]); first | done | (simp only [hji4]; rfl) | rfl | (simp only [List.length_drop, List.length_take]; rfl)) ?_; (with_reducible refine (cmp_Less_int.calls (rd l0 (ji4)) a1 true _ A7.out).mono ?_); rintro e w' ⟨rfl, ⟨nd, rfl⟩⟩; refine ⟨_, rfl, ?_⟩))
       go_roundg k1
       case measure => have := HK1.out; omega
       case rel => exact ⟨(wrap64 ((ji4) + 1)), (x8_1), (by first | rfl | (simp; done) | (simp only [← hji4] <;> (first | rfl | simp)) | (simp [*]; done) | (simp; exact (show ∀ a_ b_ : Bool, (a_ == b_) = (!(a_ != b_)) from by decide) _ _)), (by first | rfl | (simp; done) | (simp [*]; done) | (simp; exact (show ∀ a_ b_ : Bool, (a_ == b_) = (!(a_ != b_)) from by decide) _ _)), H', ⟨by have := HK1.out; omega⟩, by repeat (first | exact Drawn0.refl _ | apply Drawn0.step)⟩
      ·replace c8 := Bool.eq_false_iff.mpr c8
       subst c8
       have H1 : (slices_BinarySearch_int_int.l0 k1 l0 a1 (l0.length : Int) x7_1 ji4) = some (r1, r2) := by rw [if_neg (show ¬ (false = true) by decide)] at H; exact H
       clear H
       have H := H1
       clear H1
       have H' := Aside0.mk H
       clear H
       have p168 : 0 ≤ ((ji4) : Int) := of_decide_eq_true (by first | (with_reducible assumption) | assumption)
       have q168 : (ji4) < (l0.length : Int) := of_decide_eq_true (by first | (with_reducible assumption) | assumption)
       obtain ⟨ad168, e168, hx168_0⟩ := Kd.at_int HR0.out (ji4) p168 q168
       cases e168
       replace p168 := eq_true p168
       replace q168 := eq_true q168
       go_wp2_with (first | ((with_reducible refine gate_callee (f := 70) rfl ?_); refine goesL_ (some 27) rfl rfl Tryd.func70 (by kernel_rfl) rfl #[.int .i64 (rd l0 (ji4)), .int .i64 a1] rfl (by (try simp only [List.map_toArray, List.map_cons, List.map_nil]); first | done | (simp only [hji4]; rfl) | rfl | (simp only [List.length_drop, List.length_take]; rfl)) ?_; (with_reducible refine (cmp_Less_int.calls (rd l0 (ji4)) a1 false _ A7.out).mono ?_); rintro e w' ⟨rfl, ⟨nd, rfl⟩⟩; refine ⟨_, rfl, ?_⟩))
       go_roundg k1
       case measure => have := HK1.out; omega
       case rel => exact ⟨(x7_1), (ji4), (by first | rfl | (simp; done) | (simp [*]; done) | (simp; exact (show ∀ a_ b_ : Bool, (a_ == b_) = (!(a_ != b_)) from by decide) _ _)), (by first | rfl | (simp; done) | (simp only [← hji4] <;> (first | rfl | simp)) | (simp [*]; done) | (simp; exact (show ∀ a_ b_ : Bool, (a_ == b_) = (!(a_ != b_)) from by decide) _ _)), H', ⟨by have := HK1.out; omega⟩, by repeat (first | exact Drawn0.refl _ | apply Drawn0.step)⟩
     ·rw [if_neg c6] at H
      exact absurd H (by simp)
    ·rw [if_neg c5] at H
     exact absurd H (by simp)
   ·rw [if_neg c3] at H
    have c3b0 : decide (x7_1 < x8_1) = false := decide_eq_false c3
    clear c3
    by_cases c9 : x7_1 < (l0.length : Int)
    ·rw [if_pos c9] at H
     have c9b0 : decide (x7_1 < (l0.length : Int)) = true := decide_eq_true c9
     clear c9
     by_cases c10 : 0 ≤ x7_1
     ·rw [if_pos c10] at H
      have c10b0 : decide (0 ≤ x7_1) = true := decide_eq_true c10
      clear c10
      by_cases c11 : x7_1 < (l0.length : Int)
      ·rw [if_pos c11] at H
       have c11b0 : decide (x7_1 < (l0.length : Int)) = true := decide_eq_true c11
       clear c11
       by_cases c12 : (rd l0 x7_1) = a1
       ·rw [if_pos c12] at H
        have c12b0 : ((rd l0 x7_1) == a1) = true := beq_iff_eq.mpr c12
        have c12b1 : ((rd l0 x7_1) != a1) = false := bne_eq_false_iff_eq.mpr c12
        clear c12
        simp only [Option.some.injEq, Prod.mk.injEq] at H
        obtain ⟨rfl, rfl⟩ := H
        have p170 : 0 ≤ (x7_1 : Int) := of_decide_eq_true (by first | (with_reducible assumption) | assumption)
        have q170 : x7_1 < (l0.length : Int) := of_decide_eq_true (by first | (with_reducible assumption) | assumption)
        obtain ⟨ad170, e170, hx170_0⟩ := Kd.at_int HR0.out x7_1 p170 q170
        cases e170
        replace p170 := eq_true p170
        replace q170 := eq_true q170
        go_wp2
        go_ret2
        exact ⟨by first | rfl | (simp; done) | (simp [*]; done) | (simp; exact (show ∀ a_ b_ : Bool, (a_ == b_) = (!(a_ != b_)) from by decide) _ _), by repeat (first | exact Drawn0.refl _ | apply Drawn0.step)⟩
       ·rw [if_neg c12] at H
        have c12b0 : ((rd l0 x7_1) == a1) = false := beq_eq_false_iff_ne.mpr c12
        have c12b1 : ((rd l0 x7_1) != a1) = true := bne_iff_ne.mpr c12
        replace H := Option.bind_eq_some_iff.mp H
        obtain ⟨t172, A130, H⟩ := H
        replace H : (if t172 = true then ((slices_isNaN_int.f a1).bind fun t173 => (some (x7_1, t173))) else (some (x7_1, false))) = some (r1, r2) := H
        have A13 := Aside0.mk A130
        clear A130
        by_cases c14 : t172 = true
        ·subst c14
         have H1 : ((slices_isNaN_int.f a1).bind fun t173 => (some (x7_1, t173))) = some (r1, r2) := by rw [if_pos rfl] at H; exact H
         clear H
         have H := H1
         clear H1
         replace H := Option.bind_eq_some_iff.mp H
         obtain ⟨t173, A150, H⟩ := H
         replace H : (some (x7_1, t173)) = some (r1, r2) := H
         have A15 := Aside0.mk A150
         clear A150
         simp only [Option.some.injEq, Prod.mk.injEq] at H
         obtain ⟨rfl, rfl⟩ := H
         have p170 : 0 ≤ (x7_1 : Int) := of_decide_eq_true (by first | (with_reducible assumption) | assumption)
         have q170 : x7_1 < (l0.length : Int) := of_decide_eq_true (by first | (with_reducible assumption) | assumption)
         obtain ⟨ad170, e170, hx170_0⟩ := Kd.at_int HR0.out x7_1 p170 q170
         cases e170
         replace p170 := eq_true p170
         replace q170 := eq_true q170
         have p171 : 0 ≤ (x7_1 : Int) := of_decide_eq_true (by first | (with_reducible assumption) | assumption)
         have q171 : x7_1 < (l0.length : Int) := of_decide_eq_true (by first | (with_reducible assumption) | assumption)
         obtain ⟨ad171, e171, hx171_0⟩ := Kd.at_int HR0.out x7_1 p171 q171
         obtain rfl : ad170 = ad171 := (by injection e171)
         replace p171 := eq_true p171
         replace q171 := eq_true q171
         go_wp2_with (first | (go_at_call 71; (with_reducible refine (slices_isNaN_int.calls (rd l0 x7_1) true _ A13.out).mono ?_); rintro e w' ⟨rfl, ⟨nd, rfl⟩⟩) | (go_at_call 71; (with_reducible refine (slices_isNaN_int.calls a1 t173 _ A15.out).mono ?_); rintro e w' ⟨rfl, ⟨nd, rfl⟩⟩))
         go_ret2
         exact ⟨by first | rfl | (simp; done) | (simp [*]; done) | (simp; exact (show ∀ a_ b_ : Bool, (a_ == b_) = (!(a_ != b_)) from by decide) _ _), by repeat (first | exact Drawn0.refl _ | apply Drawn0.step)⟩
        ·replace c14 := Bool.eq_false_iff.mpr c14
         subst c14
         have H1 : (some (x7_1, false)) = some (r1, r2) := by rw [if_neg (show ¬ (false = true) by decide)] at H; exact H
         clear H
         have H := H1
         clear H1
         simp only [Option.some.injEq, Prod.mk.injEq] at H
         obtain ⟨rfl, rfl⟩ := H
         have p170 : 0 ≤ (x7_1 : Int) := of_decide_eq_true (by first | (with_reducible assumption) | assumption)
         have q170 : x7_1 < (l0.length : Int) := of_decide_eq_true (by first | (with_reducible assumption) | assumption)
         obtain ⟨ad170, e170, hx170_0⟩ := Kd.at_int HR0.out x7_1 p170 q170
         cases e170
         replace p170 := eq_true p170
         replace q170 := eq_true q170
         have p171 : 0 ≤ (x7_1 : Int) := of_decide_eq_true (by first | (with_reducible assumption) | assumption)
         have q171 : x7_1 < (l0.length : Int) := of_decide_eq_true (by first | (with_reducible assumption) | assumption)
         obtain ⟨ad171, e171, hx171_0⟩ := Kd.at_int HR0.out x7_1 p171 q171
         obtain rfl : ad170 = ad171 := (by injection e171)
         replace p171 := eq_true p171
         replace q171 := eq_true q171
         go_wp2_with (first | (go_at_call 71; (with_reducible refine (slices_isNaN_int.calls (rd l0 x7_1) false _ A13.out).mono ?_); rintro e w' ⟨rfl, ⟨nd, rfl⟩⟩))
         go_ret2
         exact ⟨by first | rfl | (simp; done) | (simp [*]; done) | (simp; exact (show ∀ a_ b_ : Bool, (a_ == b_) = (!(a_ != b_)) from by decide) _ _), by repeat (first | exact Drawn0.refl _ | apply Drawn0.step)⟩
      ·rw [if_neg c11] at H
       exact absurd H (by simp)
     ·rw [if_neg c10] at H
      exact absurd H (by simp)
    ·rw [if_neg c9] at H
     have c9b0 : decide (x7_1 < (l0.length : Int)) = false := decide_eq_false c9
     clear c9
     simp only [Option.some.injEq, Prod.mk.injEq] at H
     obtain ⟨rfl, rfl⟩ := H
     go_wp2
     go_ret2
     exact ⟨by first | rfl | (simp; done) | (simp [*]; done) | (simp; exact (show ∀ a_ b_ : Bool, (a_ == b_) = (!(a_ != b_)) from by decide) _ _), by repeat (first | exact Drawn0.refl _ | apply Drawn0.step)⟩
end Go.Proofs.YtehnhedifhpalaaDoor.Cq
set_option linter.unusedVariables false
set_option linter.unusedSimpArgs false
namespace Go.Proofs.YtehnhedifhpalaaDoor.Cq
open Go.Proofs.YtehnhedifhpalaaDoor.Cp
open Go.RowKit Go.Proofs.YtehnhedifhpalaaDoorW.PrintWords Go.Proofs.YtehnhedifhpalaaDoorW.PrintLast Go.Proofs.YtehnhedifhpalaaDoorW.PrintMore
theorem less_split {F : List Int} {x : Int} {n : Nat} (hn : n ≤ F.length) (h1 : ∀ i (h : i < F.length), i < n → F[i] < x) (h2 : ∀ i (h : i < F.length), n ≤ i → x ≤ F[i]) : Cv.less F x = n := by
  unfold Cv.less
  have e1 : (F.take n).filter (fun h => decide (h < x)) = F.take n := by
    rw [List.filter_eq_self]
    intro a ha
    obtain ⟨i, hi, rfl⟩ := List.getElem_of_mem ha
    rw [List.length_take] at hi
    rw [List.getElem_take]
    exact decide_eq_true (h1 i (by omega) (by omega))
  have e2 : (F.drop n).filter (fun h => decide (h < x)) = [] := by
    rw [List.filter_eq_nil_iff]
    intro a ha
    obtain ⟨i, hi, rfl⟩ := List.getElem_of_mem ha
    rw [List.length_drop] at hi
    rw [List.getElem_drop]
    have := h2 (n + i) (by omega) (by omega)
    simp; omega
  have e3 : F.filter (fun h => decide (h < x)) = F.take n := by
    conv => lhs; rw [← List.take_append_drop n F]
    rw [List.filter_append, e1, e2, List.append_nil]
  rw [e3, List.length_take]
  omega
theorem less_f (a b : Int) : cmp_Less_int.f a b = some (decide (a < b)) := by
  unfold cmp_Less_int.f cmp_isNaN_int.f
  simp
theorem bs_l0 {F : List Int} (hF : F.Pairwise (· < ·)) (hl : F.length ≤ 100000) (x : Int) (d : Nat) : ∀ lo hi : Nat, lo ≤ hi → hi ≤ F.length → hi - lo ≤ d → (∀ i (h : i < F.length), i < lo → F[i] < x) → (∀ i (h : i < F.length), hi ≤ i → x ≤ F[i]) →
    Ev (fun k => slices_BinarySearch_int_int.l0 k F x (F.length : Int) (lo : Int) (hi : Int)) ((Cv.less F x : Int), F.contains x) := by
  induction d with
  | zero =>
    intro lo hi h1 h2 h3 h4 h5
    obtain rfl : lo = hi := by omega
    have hless := less_split h2 h4 h5
    have hq := List.pairwise_iff_getElem.1 hF
    refine Ev.step (fun k => slices_BinarySearch_int_int.l0.eq_2 _ _ _ _ _ k) ?_
    refine ev_neg (by omega) ?_
    by_cases c : (lo : Int) < (F.length : Int)
    · have cn : lo < F.length := by omega
      refine ev_pos c (ev_pos (by omega) (ev_pos c ?_))
      rw [rd_get cn]
      by_cases e : F[lo] = x
      · refine ev_pos e (ev_eq ?_ (Ev.now _))
        rw [hless]
        have : F.contains x = true := by simpa using (e ▸ List.getElem_mem cn : x ∈ F)
        rw [this]
      · refine ev_neg e (Ev.bind (ev_val (r := false) (by unfold slices_isNaN_int.f; simp)) (ev_neg Bool.false_ne_true (ev_eq ?_ (Ev.now _))))
        rw [hless]
        have : F.contains x = false := by
          rw [Bool.eq_false_iff]
          intro hc
          obtain ⟨i, hi, hx⟩ := List.getElem_of_mem (show x ∈ F by simpa using hc)
          rcases Nat.lt_trichotomy i lo with h | h | h
          · have := h4 i hi h; omega
          · subst h; exact e hx
          · have := hq lo i cn hi h
            have := h5 lo cn (Nat.le_refl _)
            omega
        rw [this]
    · refine ev_neg c (ev_eq ?_ (Ev.now _))
      rw [hless]
      have : F.contains x = false := by
        rw [Bool.eq_false_iff]
        intro hc
        obtain ⟨i, hi, hx⟩ := List.getElem_of_mem (show x ∈ F by simpa using hc)
        have := h4 i hi (by omega)
        omega
      rw [this]
  | succ d ih =>
    intro lo hi h1 h2 h3 h4 h5
    by_cases e : lo = hi
    · exact ih lo hi h1 h2 (by omega) h4 h5
    · have hq := List.pairwise_iff_getElem.1 hF
      have cm : (lo + hi) / 2 < F.length := by omega
      have b1 : -9223372036854775808 ≤ (lo : Int) + (hi : Int) ∧ (lo : Int) + (hi : Int) ≤ 9223372036854775807 ∧ 0 ≤ (lo : Int) + (hi : Int) := by omega
      have e1 : ((lo : Int) + (hi : Int)) / 2 = (((lo + hi) / 2 : Nat) : Int) := by omega
      have b2 : -9223372036854775808 ≤ (((lo + hi) / 2 : Nat) : Int) ∧ (((lo + hi) / 2 : Nat) : Int) ≤ 9223372036854775807 := by omega
      have c1 : (0 : Int) ≤ (((lo + hi) / 2 : Nat) : Int) := by omega
      have c2 : (((lo + hi) / 2 : Nat) : Int) < (F.length : Int) := by omega
      refine Ev.step (fun k => slices_BinarySearch_int_int.l0.eq_2 _ _ _ _ _ k) ?_
      refine ev_pos (by omega) ?_
      rw [w64 b1.1 b1.2.1, wu64 b1.2.2 b1.2.1, e1, w64 b2.1 b2.2, rd_get cm, wsucc cm (by omega)]
      refine ev_pos c1 (ev_pos c2 (Ev.bind (ev_val (less_f _ _)) ?_))
      by_cases c : F[(lo + hi) / 2] < x
      · refine ev_pos (decide_eq_true c) (ih _ _ (by omega) h2 (by omega) (fun i hi' hl' => ?_) h5)
        by_cases e2 : i = (lo + hi) / 2
        · subst e2; exact c
        · have := hq i ((lo + hi) / 2) hi' cm (by omega)
          omega
      · refine ev_neg (by simpa using c) (ih _ _ (by omega) (by omega) (by omega) h4 (fun i hi' hl' => ?_))
        by_cases e2 : i = (lo + hi) / 2
        · subst e2; omega
        · have := hq ((lo + hi) / 2) i cm hi' (by omega)
          omega
theorem bs_f {F : List Int} (hF : F.Pairwise (· < ·)) (hl : F.length ≤ 100000) (x : Int) : Ev (fun k => slices_BinarySearch_int_int.f k F x) ((Cv.less F x : Int), F.contains x) := by
  unfold slices_BinarySearch_int_int.f
  exact bs_l0 hF hl x F.length 0 F.length (by omega) (by omega) (by omega) (fun i h h' => absurd h' (by omega)) (fun i h h' => absurd h' (by omega))
end Go.Proofs.YtehnhedifhpalaaDoor.Cq
namespace Go.Proofs.YtehnhedifhpalaaDoor.Cq
open Go.Proofs.YtehnhedifhpalaaDoor.Cp
open Go.RowKit Go.Proofs.YtehnhedifhpalaaDoorW.PrintWords Go.Proofs.YtehnhedifhpalaaDoorW.PrintLast Go.Proofs.YtehnhedifhpalaaDoorW.PrintMore
attribute [local go_sem] max2_int min2_int max_two min_two max_three min_three max_four min_four
set_option maxHeartbeats 2000000 in
theorem weekdays_any (d : Int) (w : World) (hd : 0 ≤ d ∧ d ≤ 730485) : Calls Tryd.prog 73 #[.int .i64 d] w fun e w' => e = .returned (.int .i64 (Cv.wdays d)) ∧ Drawn0 w w' := by
  have e1 : Int.tdiv d 7 = d / 7 := Int.tdiv_eq_ediv_of_nonneg hd.1
  have e2 : Int.tmod d 7 = d % 7 := Int.tmod_eq_emod_of_nonneg hd.1
  have b1 : (-9223372036854775808 ≤ d / 7 ∧ d / 7 ≤ 9223372036854775807) ∧ (-9223372036854775808 ≤ d / 7 * 5 ∧ d / 7 * 5 ≤ 9223372036854775807) ∧ (-9223372036854775808 ≤ d / 7 * 5 + d % 7 ∧ d / 7 * 5 + d % 7 ≤ 9223372036854775807) ∧ -9223372036854775808 ≤ d / 7 * 5 + 5 ∧ d / 7 * 5 + 5 ≤ 9223372036854775807 := by omega
  have w1 := w64 b1.1.1 b1.1.2
  have w2 := w64 b1.2.1.1 b1.2.1.2
  have w3 := w64 b1.2.2.1.1 b1.2.2.1.2
  have w4 := w64 b1.2.2.2.1 b1.2.2.2.2
  clear b1
  clear hd
  by_cases c : d % 7 ≤ 5
  · have e : Cv.wdays d = d / 7 * 5 + d % 7 := by clear w1 w2 w3 w4 e1 e2; unfold Cv.wdays; omega
    rw [e]
    clear e
    have c1 : (5 < d % 7) = False := eq_false (by clear w1 w2 w3 w4 e1 e2; omega)
    have c2 : (d % 7 ≤ 5) = True := eq_true c
    clear c
    go_enter Tryd.func73, Tryd.ntmps73
    go_wp2
    go_ret
    exact ⟨by first | rfl | simp [w3], Drawn0.refl _⟩
  · have e : Cv.wdays d = d / 7 * 5 + 5 := by clear w1 w2 w3 w4 e1 e2; unfold Cv.wdays; omega
    rw [e]
    clear e
    have c1 : (5 < d % 7) = True := eq_true (by clear w1 w2 w3 w4 e1 e2; omega)
    have c2 : (d % 7 ≤ 5) = False := eq_false c
    clear c
    go_enter Tryd.func73, Tryd.ntmps73
    go_wp2
    go_ret
    exact ⟨by first | rfl | simp [w4], Drawn0.refl _⟩
set_option maxHeartbeats 4000000 in
set_option maxRecDepth 100000 in
theorem clos_any (g : Nat) (A : Option Addr) (c : Nat) (F : List Int) (d : Int) (w : World) (hcell : w.cell? ⟨g, 0, none⟩ = some (.slice A F.length c)) (hF : Kd.C (Kd.int .i64) w A F.length F) (hc : F.length ≤ c)
    (hs : F.Pairwise (· < ·)) (hl : F.length ≤ 1000) (hd : 0 ≤ d ∧ d ≤ 730485) :
    Calls Tryd.prog 72 #[.int .i64 d, .pointer (some ⟨g, 0, none⟩)] w fun e w' => e = .returned (.int .i64 (Cv.wdays d - Cv.less F d)) ∧ Drawn0 w w' := by
  obtain ⟨k, hk⟩ := (bs_f hs (by omega) d).rounds
  have hwd : ∀ w, Calls Tryd.prog 73 #[.int .i64 d] w fun e w' => e = .returned (.int .i64 (Cv.wdays d)) ∧ Drawn0 w w' := fun w => weekdays_any d w hd
  have hb : 0 ≤ Cv.wdays d ∧ Cv.wdays d ≤ 1000000 := by unfold Cv.wdays; omega
  have hless : Cv.less F d ≤ 1000 := by unfold Cv.less; exact Nat.le_trans (List.length_filter_le _ _) hl
  have b1 : -9223372036854775808 ≤ Cv.wdays d - (Cv.less F d : Int) ∧ Cv.wdays d - (Cv.less F d : Int) ≤ 9223372036854775807 := by omega
  have w1 := w64 b1.1 b1.2
  clear b1
  generalize Cv.wdays d = x at *
  generalize Cv.less F d = y at *
  generalize F.contains d = z at *
  have HK := Aside0.mk hk
  have HF := Aside0.mk hF
  have HC := Aside0.mk hc
  clear hk hF hc hs hl hd hb hless
  go_enter Tryd.func72, Tryd.ntmps72
  go_wp2_with (first | (go_at_call 57; (with_reducible refine (slices_BinarySearch_int_int.calls k _ _ F d _ _ _ ?side1 ?side2 HK.out).mono ?_); (case side1 => exact HF.out); (case side2 => exact HC.out); rintro e w' ⟨rfl, ⟨nd, rfl⟩⟩) | (go_at_call 73; (with_reducible refine (hwd _).mono ?_); rintro e w' ⟨rfl, ⟨nd, rfl⟩⟩))
  go_ret
  exact ⟨by first | rfl | simp [w1], by first | exact Drawn0.refl _ | exact (Drawn0.refl _).step _ | exact ((Drawn0.refl _).step _).step _⟩
end Go.Proofs.YtehnhedifhpalaaDoor.Cq
namespace Go.Proofs.YtehnhedifhpalaaDoor.Cq
open Go.Proofs.YtehnhedifhpalaaDoor.Cp
open Go.RowKit Go.Proofs.YtehnhedifhpalaaDoorW.PrintWords Go.Proofs.YtehnhedifhpalaaDoorW.PrintLast Go.Proofs.YtehnhedifhpalaaDoorW.PrintMore
attribute [local go_sem] max2_int min2_int max_two min_two max_three min_three max_four min_four
def CountsPost (l : List Int) (w : World) (e : Ending) (w' : World) : Prop :=
  ∃ (g : Nat) (A : Option Addr) (c : Nat), e = .returned (.func (.func 72) #[] #[.pointer (some ⟨g, 0, none⟩)]) ∧ w'.cell? ⟨g, 0, none⟩ = some (.slice A (Cv.freeOf l).length c) ∧
    Kd.C (Kd.int .i64) w' A (Cv.freeOf l).length (Cv.freeOf l) ∧ (Cv.freeOf l).length ≤ c ∧ Below w.heap.size w w'
theorem free_take {l : List Int} {x : Int} (h0 : 0 ≤ x) (h : x < (l.length : Int)) (hd : 0 ≤ rd l x) :
    Cv.freeOf (l.take (x + 1).toNat) = Cv.freeOf (l.take x.toNat) ++ (if Int.tmod (rd l x) 7 < 5 then [rd l x] else []) := by
  have hn : x.toNat < l.length := by omega
  have e : (x + 1).toNat = x.toNat + 1 := by omega
  have er : rd l x = l[x.toNat] := by simp [rd, hn]
  rw [e, List.take_succ_eq_append_getElem hn, er]
  rw [er] at hd
  unfold Cv.freeOf
  rw [List.filter_append, Int.tmod_eq_emod_of_nonneg hd]
  congr 1
  by_cases c : l[x.toNat] % 7 < 5
  · rw [if_pos c, List.filter_cons_of_pos (by simpa using c)]; rfl
  · rw [if_neg c, List.filter_cons_of_neg (by simpa using c)]; rfl
theorem free_len (l : List Int) : (Cv.freeOf l).length ≤ l.length := List.length_filter_le _ _
set_option maxHeartbeats 8000000 in
set_option maxRecDepth 100000 in
theorem counts_any (A0 : Option Addr) (c0 : Nat) (l0 : List Int) (w : World) (hr0 : Kd.C (Kd.int .i64) w A0 l0.length l0) (hl : l0.length ≤ 1000) (hpos : ∀ d ∈ l0, 0 ≤ d) :
    Calls Tryd.prog 58 #[.slice A0 l0.length c0] w (CountsPost l0 w) := by
  have hmf : ∀ (fn : Fn) (first cap : Array Value) (w : World), (Instr.makeFunc fn first cap).run Tryd.prog w = .ok (.func fn first cap) w := fun _ _ _ _ => rfl
  have HR0 := Aside0.mk hr0
  have HL := Aside0.mk hl
  have HP := Aside0.mk hpos
  clear hr0 hl hpos
  have HB := Aside0.mk (Below.refl w.heap.size w)
  go_enter Tryd.func58, Tryd.ntmps58
  go_wp2_with (first | ((with_reducible refine gate_dst (N := 3) rfl ?_); refine box_event ?hg (N := 3) ?hd (cs := #[.slice none 0 0]) (t := 22) ?hr ?_; (case hd => rfl); (case hg => rfl); (case hr => first | (go_simp; done) | (go_simp; rfl)); intro g hg w1 hbox hb; have n0_ := Aside0.mk hbox; have n1_ := Aside0.mk ((by rw [hg]; exact (below_size HB.out)) : w.heap.size ≤ g); have n2_ := Aside0.mk (below_step (by repeat (first | (with_reducible first | exact HB.out | apply below_alloc | apply pw_below_drewN | apply below_drew1) | exact HB.out)) hb); clear HB; have BK := n0_; have GE := n1_; have HB := n2_; clear n0_ n1_ n2_ hbox hg hb))
  go_loopg [8] l0.length (fun kq v8 wr => ∃ (x : Int) (v : Value), v8 = .int .i64 x ∧ Aside0 ((kq : Int) + x = l0.length ∧ 0 ≤ x) ∧ Aside0 (wr.heap[g]? = some (.cells #[v] 22 (0, 0))) ∧ Aside0 (Kd.R (Kd.int .i64) 3 wr w.heap.size (fun k_ => k_ ≠ g) v (Cv.freeOf (l0.take x.toNat))) ∧ Aside0 (Below w.heap.size w wr))
  case atStart => exact ⟨0, .slice none 0 0, rfl, ⟨by simp⟩, BK, ⟨Kd.R_nil _ _ _ _ _⟩, HB⟩
  case round =>
    obtain ⟨x, v, rfl, HK, BK, HO, HB⟩ := hrel
    obtain ⟨Ao, co, eo⟩ := Kd.R_slice HO.out
    subst eo
    by_cases hlt : x < (l0.length : Int)
    · have c0b : decide (x < (l0.length : Int)) = true := decide_eq_true hlt
      have h0 : 0 ≤ x := HK.out.2
      have HLT := Aside0.mk hlt
      have H0 := Aside0.mk h0
      have hdn : 0 ≤ rd l0 x := HP.out _ (by have hn : x.toNat < l0.length := by omega
                                             have : rd l0 x = l0[x.toNat] := by simp [rd, hn]
                                             rw [this]; exact List.getElem_mem hn)
      have HFT := Aside0.mk (free_take h0 hlt hdn)
      obtain ⟨ad, ea, hx0⟩ := Kd.at_int HR0.out x h0 hlt
      have q0 := eq_true hlt
      have p0 := eq_true h0
      subst ea
      replace hx0 := (HB.out.cell (World.block_lt_of_cell? w _ hx0)).trans hx0
      have EW : Aside0 (wrap64 (x + 1) = x + 1) := ⟨by have := HL.out; unfold wrap64; omega⟩
      have hcz := (blk_cell BK.out 0)
      have hfz := blk_frozen BK.out 0
      replace hcz : _ = some (Value.slice Ao (Cv.freeOf (l0.take x.toNat)).length co) := hcz.trans rfl
      clear hlt h0 hdn
      generalize rd l0 x = y at *
      by_cases c : Int.tmod y 7 < 5
      · have d1 : decide (Int.tmod y 7 < 5) = true := decide_eq_true c
        rw [if_pos c] at HFT
        clear c
        have LEN : Aside0 ((Cv.freeOf (l0.take x.toNat)).length ≤ 1000) := ⟨Nat.le_trans (free_len _) (Nat.le_trans (by rw [List.length_take]; exact Nat.min_le_right _ _) HL.out)⟩
        generalize Cv.freeOf (l0.take x.toNat) = F at *
        go_wp2_with (first | ((with_reducible refine gate_builtin (b := .append) (xs := #[.tmp 15, .tmp 17]) rfl ?_); at_builtin; refine Kd.R_append (Kd.int .i64) (w0 := w) w.heap.size rfl (.tmp 15) (.tmp 17) 22 3 (.int .i64 0) 8 rfl Tryd.underlying22 info3 rfl (by decide) (by omega) (.slice Ao F.length co) F y [.int .i64 y] (fun k_ => k_ ≠ g) (fun _ => False) rfl rfl ?aP (fun _ hk => hk.elim) ?aF ?aO ?aB ?aS ?aL ?_; (case aP => exact rfl); (case aB => exact (by repeat (first | (with_reducible first | exact HB.out | apply below_alloc | apply pw_below_drewN | apply below_drew1) | exact HB.out))); (case aF => exact (fun k_ hk_ e_ => Nat.not_lt.2 hk_ (e_ ▸ blk_lt BK.out))); (case aO => exact (by (with_reducible repeat (first | apply Kd.R_alloc | apply Kd.R_drewN | apply Kd.R_drew)); exact HO.out)); (case aS => exact (below_size (by repeat (first | (with_reducible first | exact HB.out | apply below_alloc | apply pw_below_drewN | apply below_drew1) | exact HB.out)))); (case aL => have := LEN.out; omega); intro v1 w9 ho hb hg hat; obtain ⟨A1, c1, e1⟩ := Kd.R_slice ho; subst e1; have BK1 := Aside0.mk (blk_grown BK.out hg (Kd.R_ne HO.out BK.out (by decide))); have HO1 := Aside0.mk (show Kd.R (Kd.int .i64) 3 w9 w.heap.size (fun k_ => k_ ≠ g) (.slice A1 (F.length + 1) c1) (F ++ [y]) from by simpa only [List.length_append, List.length_singleton] using ho); have HB1 := Aside0.mk hb; have hcz1 := (blk_cell BK1.out 0); have hfz1 := blk_frozen BK1.out 0; replace hcz1 : _ = some (Value.slice Ao F.length co) := hcz1.trans rfl; clear ho hb hg hat))
        go_roundg (l0.length - (x + 1).toNat)
        case measure => have := HK.out; have := HLT.out; omega
        case rel => exact ⟨wrap64 (x + 1), _, rfl, by rw [EW.out]; exact ⟨by have := HK.out; have := HLT.out; omega⟩, ⟨blk_put BK1.out 0 _ rfl⟩, by rw [EW.out, HFT.out]; exact ⟨Kd.R_far HO1.out (fun _ hk => hk) _⟩, ⟨below_set HB1.out GE.out⟩⟩
      · have d1 : decide (Int.tmod y 7 < 5) = false := decide_eq_false c
        rw [if_neg c, List.append_nil] at HFT
        clear c
        go_wp2
        go_roundg (l0.length - (x + 1).toNat)
        case measure => have := HK.out; have := HLT.out; omega
        case rel => exact ⟨wrap64 (x + 1), _, rfl, by rw [EW.out]; exact ⟨by have := HK.out; have := HLT.out; omega⟩, BK, by rw [EW.out, HFT.out]; exact HO, HB⟩
    · have c0b : decide (x < (l0.length : Int)) = false := decide_eq_false hlt
      have ex : x.toNat = l0.length := by have := HK.out; omega
      have HE := Aside0.mk ex
      clear hlt ex
      go_wp2
      go_ret
      have e : Cv.freeOf (l0.take x.toNat) = Cv.freeOf l0 := by rw [HE.out, List.take_length]
      have BK2 := BK.out
      have HO2 := HO.out
      rw [e] at BK2 HO2
      exact ⟨g, Ao, co, by first | rfl | simp, (blk_cell BK2 0).trans rfl, (Kd.R_reads' HO2).2.2, (Kd.R_reads' HO2).2.1, HB.out⟩
end Go.Proofs.YtehnhedifhpalaaDoor.Cq
namespace Go.Proofs.YtehnhedifhpalaaDoor.Cp
open Go.RowKit Go.Proofs.YtehnhedifhpalaaDoorW.PrintWords Go.Proofs.YtehnhedifhpalaaDoorW.PrintLast Go.Proofs.YtehnhedifhpalaaDoorW.PrintMore
attribute [local go_sem] max2_int min2_int max_two min_two max_three min_three max_four min_four
set_option linter.unusedVariables false
set_option linter.unusedSimpArgs false
theorem below_bd {l : List Int} (h : l.length ≤ 1000) {d : Int} (hd : 0 ≤ d ∧ d ≤ 730485) : -1000 ≤ Cv.wdays d - (Cv.less (Cv.freeOf l) d : Int) ∧ Cv.wdays d - (Cv.less (Cv.freeOf l) d : Int) ≤ 1000000 := by
  have h1 : Cv.less (Cv.freeOf l) d ≤ 1000 := by
    unfold Cv.less
    exact Nat.le_trans (List.length_filter_le _ _) (Nat.le_trans (List.length_filter_le _ _) h)
  have h2 : 0 ≤ Cv.wdays d ∧ Cv.wdays d ≤ 1000000 := by unfold Cv.wdays; omega
  omega
theorem first_below (w : World) (n : Nat) : Below w.heap.size w (w.drewN n) := ((Drawn0.refl w).step n).below
set_option maxHeartbeats 8000000 in
set_option maxRecDepth 100000 in
theorem civil_Between.calls (a0 : Int) (a1 : Int) (A2 : Option Addr) (c2 : Nat) (l2 : List Int) (r1 : Int) (r2 : Int) (w : World) (hr2 : Kd.C (Kd.int .i64) w A2 l2.length l2) (hc2 : l2.length ≤ c2) (h : civil_Between.f a0 a1 l2 = some (r1, r2)) :
    Calls Tryd.prog 28 #[.int .i64 a0, .int .i64 a1, .slice A2 l2.length c2] w fun e w' => e = .returned (.tuple #[.int .i64 r1, .int .i64 r2]) ∧ Below w.heap.size w w' := by
  obtain ⟨kr, hkr⟩ := (right_f l2 hr2.2.1).rounds
  have HR := Aside0.mk hr2
  have HC := Aside0.mk hc2
  clear hr2 hc2
  unfold civil_Between.f at h
  cases R : rightB l2 with
  | false =>
    rw [R] at h hkr
    have HKR := Aside0.mk hkr
    clear hkr
    simp at h
    obtain ⟨rfl, rfl⟩ := h
    go_enter Tryd.func28, Tryd.ntmps28
    go_wp2_with (first | (go_at_call 29; (with_reducible refine (civil_Right.calls kr _ _ l2 false _ ?side1 ?side2 HKR.out).mono ?_); (case side1 => exact HR.out); (case side2 => exact HC.out); rintro e w' ⟨rfl, ⟨nd, rfl⟩⟩))
    go_ret2
    exact ⟨rfl, by first | exact Below.refl _ _ | exact ((Drawn0.refl _).step _).below⟩
  | true =>
    rw [R] at h hkr
    have HKR := Aside0.mk hkr
    clear hkr
    obtain ⟨hright, hlen⟩ := rightB_of R
    by_cases c0 : a0 < 0
    · have d0 : decide (a0 < 0) = true := decide_eq_true c0
      rw [if_neg (by omega)] at h
      obtain ⟨rfl, rfl⟩ : 0 = r1 ∧ 2 = r2 := by simpa using h
      clear h c0
      go_enter Tryd.func28, Tryd.ntmps28
      go_wp2_with (first | (go_at_call 29; (with_reducible refine (civil_Right.calls kr _ _ l2 true _ ?side1 ?side2 HKR.out).mono ?_); (case side1 => exact HR.out); (case side2 => exact HC.out); rintro e w' ⟨rfl, ⟨nd, rfl⟩⟩))
      go_ret2
      exact ⟨rfl, by first | exact Below.refl _ _ | exact ((Drawn0.refl _).step _).below⟩
    · have d0 : decide (a0 < 0) = false := decide_eq_false c0
      by_cases c1 : a1 < a0
      · have d1 : decide (a1 < a0) = true := decide_eq_true c1
        rw [if_neg (by omega)] at h
        obtain ⟨rfl, rfl⟩ : 0 = r1 ∧ 2 = r2 := by simpa using h
        clear h c0 c1
        go_enter Tryd.func28, Tryd.ntmps28
        go_wp2_with (first | (go_at_call 29; (with_reducible refine (civil_Right.calls kr _ _ l2 true _ ?side1 ?side2 HKR.out).mono ?_); (case side1 => exact HR.out); (case side2 => exact HC.out); rintro e w' ⟨rfl, ⟨nd, rfl⟩⟩))
        go_ret2
        exact ⟨rfl, by first | exact Below.refl _ _ | exact ((Drawn0.refl _).step _).below⟩
      · have d1 : decide (a1 < a0) = false := decide_eq_false c1
        rw [if_pos ⟨rfl, by omega, by omega⟩] at h
        by_cases cc : a1 ≤ 730484
        · have d2 : decide (730484 < a1) = false := decide_eq_false (by omega)
          rw [if_pos cc] at h
          have b0 := below_bd hlen (d := a0) (by omega)
          have b1 := below_bd hlen (d := a1) (by omega)
          obtain ⟨e1, rfl⟩ : Cv.below l2 a1 - Cv.below l2 a0 = r1 ∧ 0 = r2 := by simpa using h
          unfold Cv.below at e1
          have hcl1 := fun (g : Nat) (A : Option Addr) (c : Nat) (w : World) (h1 : w.cell? ⟨g, 0, none⟩ = some (.slice A (Cv.freeOf l2).length c)) (h2 : Kd.C (Kd.int .i64) w A (Cv.freeOf l2).length (Cv.freeOf l2)) (h3 : (Cv.freeOf l2).length ≤ c) =>
            Cq.clos_any g A c (Cv.freeOf l2) a1 w h1 h2 h3 (List.Pairwise.filter _ hright.ord) (Nat.le_trans (Cq.free_len _) hlen) ⟨by omega, by omega⟩
          have hcl0 := fun (g : Nat) (A : Option Addr) (c : Nat) (w : World) (h1 : w.cell? ⟨g, 0, none⟩ = some (.slice A (Cv.freeOf l2).length c)) (h2 : Kd.C (Kd.int .i64) w A (Cv.freeOf l2).length (Cv.freeOf l2)) (h3 : (Cv.freeOf l2).length ≤ c) =>
            Cq.clos_any g A c (Cv.freeOf l2) a0 w h1 h2 h3 (List.Pairwise.filter _ hright.ord) (Nat.le_trans (Cq.free_len _) hlen) ⟨by omega, by omega⟩
          have hcounts := fun (w : World) (h1 : Kd.C (Kd.int .i64) w A2 l2.length l2) => Cq.counts_any A2 c2 l2 w h1 hlen (fun d hd => (hright.bd d hd).1)
          generalize Cv.wdays a1 - (Cv.less (Cv.freeOf l2) a1 : Int) = x1 at *
          generalize Cv.wdays a0 - (Cv.less (Cv.freeOf l2) a0 : Int) = x0 at *
          have EW : wrap64 (x1 - x0) = x1 - x0 := w64 (by omega) (by omega)
          subst e1
          clear h c0 c1 cc b0 b1 hright hlen
          go_enter Tryd.func28, Tryd.ntmps28
          go_wp2_with (first | (go_at_call 29; (with_reducible refine (civil_Right.calls kr _ _ l2 true _ ?side1 ?side2 HKR.out).mono ?_); (case side1 => exact HR.out); (case side2 => exact HC.out); rintro e w' ⟨rfl, ⟨nd, rfl⟩⟩) | (go_at_call 58; refine (hcounts _ ?side1).mono ?_; (case side1 => first | exact HR.out | exact Kd.C_drewN HR.out _); rintro e w2 ⟨g, A, c, rfl, hcell, hC, hlc, hb⟩; have HCE := Aside0.mk hcell; have HCC := Aside0.mk hC; have HLC := Aside0.mk hlc; have HB := Aside0.mk (below_step (first_below w nd) hb); clear hC hlc hb) | (go_at_call 72; (with_reducible refine (hcl1 g A c _ ?side1 ?side2 HLC.out).mono ?_); (case side1 => exact HCE.out); (case side2 => first | exact HCC.out | exact Kd.C_drewN HCC.out _); rintro e w' ⟨rfl, ⟨nd1, rfl⟩⟩) | (go_at_call 72; (with_reducible refine (hcl0 g A c _ ?side1 ?side2 HLC.out).mono ?_); (case side1 => exact HCE.out); (case side2 => first | exact HCC.out | exact Kd.C_drewN HCC.out _); rintro e w' ⟨rfl, ⟨nd0, rfl⟩⟩))
          go_ret2
          exact ⟨by first | rfl | simp [EW], below_step HB.out (first_below w2 _)⟩
        · have d2 : decide (730484 < a1) = true := decide_eq_true (by omega)
          rw [if_neg cc] at h
          obtain ⟨rfl, rfl⟩ : 0 = r1 ∧ 3 = r2 := by simpa using h
          clear h c0 c1 cc
          go_enter Tryd.func28, Tryd.ntmps28
          go_wp2_with (first | (go_at_call 29; (with_reducible refine (civil_Right.calls kr _ _ l2 true _ ?side1 ?side2 HKR.out).mono ?_); (case side1 => exact HR.out); (case side2 => exact HC.out); rintro e w' ⟨rfl, ⟨nd, rfl⟩⟩))
          go_ret2
          exact ⟨rfl, by first | exact Below.refl _ _ | exact ((Drawn0.refl _).step _).below⟩
set_option maxHeartbeats 8000000 in
set_option maxRecDepth 100000 in
theorem civil_Ahead.calls (k : Nat) (a0 : Int) (a1 : Int) (A2 : Option Addr) (c2 : Nat) (l2 : List Int) (r1 : Int) (r2 : Int) (w : World) (hr2 : Kd.C (Kd.int .i64) w A2 l2.length l2) (hc2 : l2.length ≤ c2) (h : civil_Ahead.f k a0 a1 l2 = some (r1, r2)) :
    Calls Tryd.prog 26 #[.int .i64 a0, .int .i64 a1, .slice A2 l2.length c2] w fun e w' => e = .returned (.tuple #[.int .i64 r1, .int .i64 r2]) ∧ Below w.heap.size w w' := by
  obtain ⟨kr, hkr⟩ := (right_f l2 hr2.2.1).rounds
  have HR := Aside0.mk hr2
  have HC := Aside0.mk hc2
  clear hr2 hc2
  unfold civil_Ahead.f at h
  cases R : rightB l2 with
  | false =>
    rw [R] at h hkr
    have HKR := Aside0.mk hkr
    clear hkr
    simp at h
    obtain ⟨rfl, rfl⟩ := h
    go_enter Tryd.func26, Tryd.ntmps26
    go_wp2_with (first | (go_at_call 29; (with_reducible refine (civil_Right.calls kr _ _ l2 false _ ?side1 ?side2 HKR.out).mono ?_); (case side1 => exact HR.out); (case side2 => exact HC.out); rintro e w' ⟨rfl, ⟨nd, rfl⟩⟩))
    go_ret2
    exact ⟨rfl, by first | exact Below.refl _ _ | exact ((Drawn0.refl _).step _).below⟩
  | true =>
    rw [R] at h hkr
    have HKR := Aside0.mk hkr
    clear hkr
    obtain ⟨hright, hlen⟩ := rightB_of R
    by_cases c0 : a0 < 0
    · have d0 : decide (a0 < 0) = true := decide_eq_true c0
      rw [if_neg (by omega)] at h
      obtain ⟨rfl, rfl⟩ : 0 = r1 ∧ 2 = r2 := by simpa using h
      clear h c0
      go_enter Tryd.func26, Tryd.ntmps26
      go_wp2_with (first | (go_at_call 29; (with_reducible refine (civil_Right.calls kr _ _ l2 true _ ?side1 ?side2 HKR.out).mono ?_); (case side1 => exact HR.out); (case side2 => exact HC.out); rintro e w' ⟨rfl, ⟨nd, rfl⟩⟩))
      go_ret2
      exact ⟨rfl, by first | exact Below.refl _ _ | exact ((Drawn0.refl _).step _).below⟩
    · have d0 : decide (a0 < 0) = false := decide_eq_false c0
      by_cases c1 : a1 < 0
      · have d1 : decide (a1 < 0) = true := decide_eq_true c1
        rw [if_neg (by omega)] at h
        obtain ⟨rfl, rfl⟩ : 0 = r1 ∧ 2 = r2 := by simpa using h
        clear h c0 c1
        go_enter Tryd.func26, Tryd.ntmps26
        go_wp2_with (first | (go_at_call 29; (with_reducible refine (civil_Right.calls kr _ _ l2 true _ ?side1 ?side2 HKR.out).mono ?_); (case side1 => exact HR.out); (case side2 => exact HC.out); rintro e w' ⟨rfl, ⟨nd, rfl⟩⟩))
        go_ret2
        exact ⟨rfl, by first | exact Below.refl _ _ | exact ((Drawn0.refl _).step _).below⟩
      · have d1 : decide (a1 < 0) = false := decide_eq_false c1
        rw [if_pos ⟨rfl, by omega, by omega⟩] at h
        have hcl := fun (d : Int) (h0 : 0 ≤ d) (h1 : d ≤ 730485) (g : Nat) (A : Option Addr) (c : Nat) (w : World) (h2 : w.cell? ⟨g, 0, none⟩ = some (.slice A (Cv.freeOf l2).length c)) (h3 : Kd.C (Kd.int .i64) w A (Cv.freeOf l2).length (Cv.freeOf l2)) (h4 : (Cv.freeOf l2).length ≤ c) =>
          show Calls Tryd.prog 72 #[.int .i64 d, .pointer (some ⟨g, 0, none⟩)] w fun e w' => e = .returned (.int .i64 (Cv.below l2 d)) ∧ Drawn0 w w' from Cq.clos_any g A c (Cv.freeOf l2) d w h2 h3 h4 (List.Pairwise.filter _ hright.ord) (Nat.le_trans (Cq.free_len _) hlen) ⟨h0, h1⟩
        have hcounts := fun (w : World) (h1 : Kd.C (Kd.int .i64) w A2 l2.length l2) => Cq.counts_any A2 c2 l2 w h1 hlen (fun d hd => (hright.bd d hd).1)
        have hbd : ∀ d, 0 ≤ d → d ≤ 730485 → -1000 ≤ Cv.below l2 d ∧ Cv.below l2 d ≤ 1000000 := fun d h0 h1 => below_bd hlen ⟨h0, h1⟩
        clear hright hlen
        generalize hB : Cv.below l2 = B at *
        by_cases cc : a0 ≤ 730484
        · have d2 : decide (730484 < a0) = false := decide_eq_false (by omega)
          have b0 := hbd a0 (by omega) (by omega)
          have b1 := hbd 730485 (by omega) (by omega)
          have hcl0 := hcl a0 (by omega) (by omega)
          have hcl1 := hcl 730485 (by omega) (by omega)
          have EW : wrap64 (B 730485 - B a0) = B 730485 - B a0 := w64 (by omega) (by omega)
          by_cases cn : a1 < B 730485 - B a0
          · have d3 : decide (B 730485 - B a0 ≤ a1) = false := decide_eq_false (by omega)
            rw [if_pos ⟨cc, cn⟩] at h
            obtain ⟨dd, hd, e⟩ := Option.bind_eq_some_iff.mp h
            obtain ⟨rfl, rfl⟩ : dd = r1 ∧ 0 = r2 := by simpa using e
            have HA := Aside0.mk hd
            have HBD := Aside0.mk hbd
            have HCL := Aside0.mk hcl
            have HBE := Aside0.mk hB
            have HZ : Aside0 (0 ≤ a0 ∧ a0 ≤ 730484) := ⟨by omega, cc⟩
            clear h hd e c0 c1 cc cn b0 b1 hcl hbd hB
            go_enter Tryd.func26, Tryd.ntmps26
            go_wp2_with (first | (go_at_call 29; (with_reducible refine (civil_Right.calls kr _ _ l2 true _ ?side1 ?side2 HKR.out).mono ?_); (case side1 => exact HR.out); (case side2 => exact HC.out); rintro e w' ⟨rfl, ⟨nd, rfl⟩⟩) | (go_at_call 58; refine (hcounts _ ?side1).mono ?_; (case side1 => first | exact HR.out | exact Kd.C_drewN HR.out _); rintro e w2 ⟨g, A, c, rfl, hcell, hC, hlc, hb⟩; have HCE := Aside0.mk hcell; have HCC := Aside0.mk hC; have HLC := Aside0.mk hlc; have HB := Aside0.mk (below_step (first_below w nd) hb); clear hcell hC hlc hb) | (go_at_call 72; (with_reducible refine (hcl1 g A c _ ?side1 ?side2 HLC.out).mono ?_); (case side1 => exact HCE.out); (case side2 => first | exact HCC.out | exact Kd.C_drewN HCC.out _); rintro e w' ⟨rfl, ⟨nd1, rfl⟩⟩) | (go_at_call 72; (with_reducible refine (hcl0 g A c _ ?side1 ?side2 HLC.out).mono ?_); (case side1 => exact HCE.out); (case side2 => first | exact HCC.out | exact Kd.C_drewN HCC.out _); rintro e w' ⟨rfl, ⟨nd1, rfl⟩⟩))
            clear EW d3 hcl1
            go_loopg [9, 10] k (fun kq v9 v10 wr => ∃ lo hi : Int, v9 = .int .i64 lo ∧ v10 = .int .i64 hi ∧ Aside0 (civil_Ahead.l0 l2 (B a0) a1 kq lo hi = some dd) ∧ Aside0 (a0 ≤ lo ∧ lo ≤ hi ∧ hi ≤ 730484) ∧ ∃ q, wr = w2.drewN q)
            case atStart => exact ⟨a0, 730484, rfl, rfl, HA, ⟨Int.le_refl _, HZ.out.2, Int.le_refl _⟩, _, rfl⟩
            case round =>
              clear HA
              obtain ⟨lo, hi, rfl, rfl, HA, HI, q, rfl⟩ := hrel
              cases gk with
              | zero => exact absurd HA.out (by simp [civil_Ahead.l0])
              | succ k1 =>
                have H := HA.out
                clear HA
                simp only [civil_Ahead.l0, HBE.out] at H
                by_cases c : lo < hi
                · rw [if_pos c] at H
                  have cb0 : decide (lo < hi) = true := decide_eq_true c
                  have hz := HZ.out
                  have hi2 := HI.out
                  have e2 : Int.tdiv (lo + hi) 2 = (lo + hi) / 2 := Int.tdiv_eq_ediv_of_nonneg (by omega)
                  have hm : lo ≤ (lo + hi) / 2 ∧ (lo + hi) / 2 < hi := by omega
                  have b0 := HBD.out a0 (by omega) (by omega)
                  generalize (lo + hi) / 2 = m at H e2 hm
                  have bm := HBD.out (m + 1) (by omega) (by omega)
                  have hclm := HCL.out (m + 1) (by omega) (by omega)
                  have q1 : -9223372036854775808 ≤ lo + hi ∧ lo + hi ≤ 9223372036854775807 := by omega
                  have q3 : -9223372036854775808 ≤ m ∧ m ≤ 9223372036854775807 := by omega
                  have q4 : -9223372036854775808 ≤ m + 1 ∧ m + 1 ≤ 9223372036854775807 := by omega
                  have q5 : -9223372036854775808 ≤ B (m + 1) - B a0 ∧ B (m + 1) - B a0 ≤ 9223372036854775807 := by omega
                  have HM := Aside0.mk hm
                  have w1 := w64 q1.1 q1.2
                  have w3 := w64 q3.1 q3.2
                  have w4 := w64 q4.1 q4.2
                  have w5 := w64 q5.1 q5.2
                  clear q1 q3 q4 q5 b0 bm hz hi2 hm c
                  by_cases cn : a1 < B (m + 1) - B a0
                  · rw [if_pos cn] at H
                    have dn : decide (a1 < B (m + 1) - B a0) = true := decide_eq_true cn
                    have H' := Aside0.mk H
                    clear H cn
                    go_wp2_with (first | (go_at_call 72; (with_reducible refine (hclm g A c _ ?side1 ?side2 HLC.out).mono ?_); (case side1 => exact HCE.out); (case side2 => first | exact HCC.out | exact Kd.C_drewN HCC.out _); rintro e w' ⟨rfl, ⟨nd1, rfl⟩⟩) | (go_at_call 72; (with_reducible refine (hcl0 g A c _ ?side1 ?side2 HLC.out).mono ?_); (case side1 => exact HCE.out); (case side2 => first | exact HCC.out | exact Kd.C_drewN HCC.out _); rintro e w' ⟨rfl, ⟨nd0, rfl⟩⟩))
                    go_roundg k1
                    case measure => omega
                    case rel => exact ⟨lo, m, rfl, by first | rfl | simp [w3], H', ⟨by have := HI.out; have := HM.out; omega⟩, _, rfl⟩
                  · rw [if_neg cn] at H
                    have dn : decide (a1 < B (m + 1) - B a0) = false := decide_eq_false cn
                    have H' := Aside0.mk H
                    clear H cn
                    go_wp2_with (first | (go_at_call 72; (with_reducible refine (hclm g A c _ ?side1 ?side2 HLC.out).mono ?_); (case side1 => exact HCE.out); (case side2 => first | exact HCC.out | exact Kd.C_drewN HCC.out _); rintro e w' ⟨rfl, ⟨nd1, rfl⟩⟩) | (go_at_call 72; (with_reducible refine (hcl0 g A c _ ?side1 ?side2 HLC.out).mono ?_); (case side1 => exact HCE.out); (case side2 => first | exact HCC.out | exact Kd.C_drewN HCC.out _); rintro e w' ⟨rfl, ⟨nd0, rfl⟩⟩))
                    go_roundg k1
                    case measure => omega
                    case rel => exact ⟨m + 1, hi, by first | rfl | simp [w4], rfl, H', ⟨by have := HI.out; have := HM.out; omega⟩, _, rfl⟩
                · rw [if_neg c] at H
                  have cb0 : decide (lo < hi) = false := decide_eq_false c
                  obtain rfl := Option.some.inj H
                  clear H c
                  go_wp2
                  go_ret2
                  exact ⟨rfl, below_step HB.out (first_below w2 _)⟩
          · have d3 : decide (B 730485 - B a0 ≤ a1) = true := decide_eq_true (by omega)
            rw [if_neg (fun hh => cn hh.2)] at h
            obtain ⟨rfl, rfl⟩ : 0 = r1 ∧ 3 = r2 := by simpa using h
            clear h c0 c1 cc cn b0 b1 hcl hbd
            go_enter Tryd.func26, Tryd.ntmps26
            go_wp2_with (first | (go_at_call 29; (with_reducible refine (civil_Right.calls kr _ _ l2 true _ ?side1 ?side2 HKR.out).mono ?_); (case side1 => exact HR.out); (case side2 => exact HC.out); rintro e w' ⟨rfl, ⟨nd, rfl⟩⟩) | (go_at_call 58; refine (hcounts _ ?side1).mono ?_; (case side1 => first | exact HR.out | exact Kd.C_drewN HR.out _); rintro e w2 ⟨g, A, c, rfl, hcell, hC, hlc, hb⟩; have HCE := Aside0.mk hcell; have HCC := Aside0.mk hC; have HLC := Aside0.mk hlc; have HB := Aside0.mk (below_step (first_below w nd) hb); clear hcell hC hlc hb) | (go_at_call 72; (with_reducible refine (hcl1 g A c _ ?side1 ?side2 HLC.out).mono ?_); (case side1 => exact HCE.out); (case side2 => first | exact HCC.out | exact Kd.C_drewN HCC.out _); rintro e w' ⟨rfl, ⟨nd1, rfl⟩⟩) | (go_at_call 72; (with_reducible refine (hcl0 g A c _ ?side1 ?side2 HLC.out).mono ?_); (case side1 => exact HCE.out); (case side2 => first | exact HCC.out | exact Kd.C_drewN HCC.out _); rintro e w' ⟨rfl, ⟨nd1, rfl⟩⟩))
            go_ret2
            exact ⟨rfl, below_step HB.out (first_below w2 _)⟩
        · have d2 : decide (730484 < a0) = true := decide_eq_true (by omega)
          rw [if_neg (fun hh => cc hh.1)] at h
          obtain ⟨rfl, rfl⟩ : 0 = r1 ∧ 3 = r2 := by simpa using h
          clear h c0 c1 cc hcl hbd
          go_enter Tryd.func26, Tryd.ntmps26
          go_wp2_with (first | (go_at_call 29; (with_reducible refine (civil_Right.calls kr _ _ l2 true _ ?side1 ?side2 HKR.out).mono ?_); (case side1 => exact HR.out); (case side2 => exact HC.out); rintro e w' ⟨rfl, ⟨nd, rfl⟩⟩) | (go_at_call 58; refine (hcounts _ ?side1).mono ?_; (case side1 => first | exact HR.out | exact Kd.C_drewN HR.out _); rintro e w2 ⟨g, A, c, rfl, hcell, hC, hlc, hb⟩; have HCE := Aside0.mk hcell; have HCC := Aside0.mk hC; have HLC := Aside0.mk hlc; have HB := Aside0.mk (below_step (first_below w nd) hb); clear hcell hC hlc hb))
          go_ret2
          exact ⟨rfl, by first | exact HB.out | exact below_step HB.out (first_below w2 _)⟩
end Go.Proofs.YtehnhedifhpalaaDoor.Cp
