/- Joined by a program of this session (pack2.py): parts of the kit's printed words, printed walks and this session's own texts that several laws share. -/
import Derived.Test.YtbnjdlafnejanaaBa
import Derived.Test.YtbnjdlafnejanaaBb
import Derived.Test.YtbnjdlafnejanaaBc
import Derived.Test.YtbnjdlafnejanaaBd
import Derived.Test.YtbnjdlafnejanaaBe
import Derived.Test.YtbnjdlafnejanaaBf
namespace Go.Proofs.Ytbnjdlafnejanaa.Pr
open Go.RowKit Go.Proofs.YtbnjdlafnejanaaW.PrintWords Go.Proofs.YtbnjdlafnejanaaW.PrintLast Go.Proofs.YtbnjdlafnejanaaW.PrintMore
theorem toL_drop {l : List (S51)} {i : Int} (h0 : 0 ≤ i) (h : i < (l.length : Int)) : (l.map toL).drop i.toNat = toL (rd_T51 l i) :: (l.map toL).drop (i + 1).toNat := by
  have hn : i.toNat < (l.map toL).length := by simp; omega
  have e : toL (rd_T51 l i) = (l.map toL)[i.toNat] := by
    have hn' : i.toNat < l.length := by omega
    simp [rd_T51, hn']
  rw [show (i + 1).toNat = i.toNat + 1 by omega, e, ← List.drop_eq_getElem_cons hn]
/-- The end of the last slice, 0 if there is none. -/
def lastEnd (p : List Sh.Slice) : Int := match p.getLast? with | none => 0 | some v => v.to
/-- The shift at which the search stands: those ahead of it end at t or earlier. -/
structure AtS (l1 : List (S47)) (at_ t : Int) : Prop where
  ge : 0 ≤ at_
  le : at_ ≤ (l1.length : Int)
  done : ∀ (k : Nat) (h : k < l1.length), (k : Int) < at_ → l1[k].f1 ≤ t
/-- What holds ahead of a slice. -/
structure CAt (l0 : List (S45)) (l1 : List (S47)) (p : List Sh.Slice) (last at_ : Int) : Prop where
  sched : Sh.Sched (l0.map toJ) (l1.map toS) p
  fin : last = lastEnd p
  stand : AtS l1 at_ (lastEnd p)
/-- A shift that holds a slice is the one at which the search stands. -/
theorem ins_iff {l1 : List (S47)} (hS : Sh.VS (l1.map toS)) {at_ : Int} {u : Sh.Slice} (h : AtS l1 at_ u.frm) (hlt : u.frm < u.to) (hst : ∀ hk : at_.toNat < l1.length, u.frm < l1[at_.toNat].f1) :
    (∃ s ∈ l1.map toS, s.frm ≤ u.frm ∧ u.to ≤ s.to) ↔ ∃ hk : at_.toNat < l1.length, l1[at_.toNat].f0 ≤ u.frm ∧ u.to ≤ l1[at_.toNat].f1 := by
  constructor
  · rintro ⟨s, hs, h1, h2⟩
    obtain ⟨k, hk, rfl⟩ := List.getElem_of_mem hs
    have hk' : k < l1.length := by simpa using hk
    simp only [List.getElem_map, toS] at h1 h2
    have hge := h.ge
    have hle := h.le
    by_cases c : (k : Int) < at_
    · have := h.done k hk' c; omega
    · have hka : at_.toNat < l1.length := by omega
      refine ⟨hka, ?_⟩
      by_cases e : k = at_.toNat
      · subst e; exact ⟨h1, h2⟩
      · have hp := List.pairwise_iff_getElem.1 hS.ord at_.toNat k (by simpa using hka) hk (by omega)
        simp only [List.getElem_map, toS] at hp
        have := hst hka
        omega
  · rintro ⟨hk, h1, h2⟩
    exact ⟨toS l1[at_.toNat], List.mem_map.2 ⟨_, List.getElem_mem hk, rfl⟩, h1, h2⟩
/-- The slice u is valid behind p: as the program asks it. -/
theorem ok_iff {l0 : List (S45)} {l1 : List (S47)} (hJ : Sh.BJ (l0.map toJ)) {p : List Sh.Slice} {u : Sh.Slice} {m : Nat} (hm : m < l0.length) (hid : l0[m].f0 = u.job) :
    Sh.okAt (l0.map toJ) (l1.map toS) p u ↔ u.frm < u.to ∧ lastEnd p ≤ u.frm ∧ l0[m].f1 ≤ u.frm ∧ (∃ s ∈ l1.map toS, s.frm ≤ u.frm ∧ u.to ≤ s.to) ∧ Sh.ran u.job (p ++ [u]) ≤ l0[m].f3 := by
  have hx : toJ l0[m] ∈ l0.map toJ := List.mem_map.2 ⟨_, List.getElem_mem hm, rfl⟩
  have hr := (hJ.vj.pos _ hx).2.1
  simp only [toJ] at hr
  constructor
  · rintro ⟨x, hxm, h1, h2, h3, h4, h5, h6⟩
    have := hJ.vj.inj x hxm _ hx (by rw [h1, ← hid]; rfl)
    subst this
    refine ⟨h2, ?_, h3, h4, by rw [← h1]; exact h6⟩
    unfold lastEnd
    cases hp : p.getLast? with
    | none => simp only [toJ] at h3; show (0 : Int) ≤ u.frm; omega
    | some v => exact h5 v (by rw [hp]; exact Option.mem_some.2 rfl)
  · rintro ⟨h1, h2, h3, h4, h5⟩
    refine ⟨toJ l0[m], hx, hid, h1, h3, h4, ?_, by rw [show (toJ l0[m]).id = u.job from hid]; exact h5⟩
    intro v hv
    unfold lastEnd at h2
    rw [Option.mem_def.1 hv] at h2
    exact h2
theorem ok_none {l0 : List (S45)} {S : List Sh.Shift} {p : List Sh.Slice} {u : Sh.Slice} (h : ∀ x ∈ l0, x.f0 ≠ u.job) : ¬ Sh.okAt (l0.map toJ) S p u := by
  rintro ⟨x, hx, h1, _⟩
  obtain ⟨z, hz, rfl⟩ := List.mem_map.1 hx
  exact h z hz h1
/-- What is told of the rest, from a slice on that is not valid. -/
theorem chk_bad {J : List Sh.Job} {S : List Sh.Shift} {p l : List Sh.Slice} {u : Sh.Slice} {i : Int} (h : ¬ Sh.okAt J S p u) : Sh.chkFrom J S p (u :: l) i = (i, 302) := by
  unfold Sh.chkFrom
  rw [if_neg (by rw [Sh.okB_iff]; exact h)]
theorem chk_good {J : List Sh.Job} {S : List Sh.Shift} {p l : List Sh.Slice} {u : Sh.Slice} {i : Int} (h : Sh.okAt J S p u) : Sh.chkFrom J S p (u :: l) i = Sh.chkFrom J S (p ++ [u]) l (i + 1) := by
  conv => lhs; unfold Sh.chkFrom
  rw [if_pos (Sh.okB_iff.2 h)]
theorem rd47 {l : List (S47)} {i : Int} (h : i.toNat < l.length) : rd_T47 l i = l[i.toNat] := by simp [rd_T47, h]
/-- The search for the shift. -/
theorem chk_l1 (l0 : List (S45)) (l1 : List (S47)) (x12 : List Int) (x15 x17 : Int) (l2 : List (S51)) (n i id frm to_ : Int) (hl : l1.length ≤ 200) (d : Nat) : ∀ (k : Nat) (at_ : Int), AtS l1 at_ frm → (l1.length : Int) - at_ = d → d < k →
    ∃ (k' : Nat) (at' : Int), k ≤ k' + d + 1 ∧ AtS l1 at' frm ∧ (∀ hk : at'.toNat < l1.length, frm < l1[at'.toNat].f1) ∧ shift_CheckP.l1 k l0 l1 x12 at_ x15 x17 l2 n i id frm to_ = shift_CheckP.j3 k' l0 l1 x12 at' x15 x17 l2 n i id frm to_ := by
  induction d with
  | zero =>
    intro k at_ h hd hk
    obtain ⟨k, rfl⟩ : ∃ m, k = m + 1 := ⟨k - 1, by omega⟩
    have h0 := h.ge
    refine ⟨k, at_, by omega, h, fun hk => by omega, ?_⟩
    simp only [shift_CheckP.l1]
    rw [if_neg (by omega)]
  | succ d ih =>
    intro k at_ h hd hk
    obtain ⟨k, rfl⟩ : ∃ m, k = m + 1 := ⟨k - 1, by omega⟩
    have h0 := h.ge
    have hlt : at_ < (l1.length : Int) := by omega
    have hn : at_.toNat < l1.length := by omega
    have ew : wrap64 (at_ + 1) = at_ + 1 := by unfold wrap64; omega
    by_cases c : l1[at_.toNat].f1 ≤ frm
    · obtain ⟨k', at', h1, h2, h3, h4⟩ := ih k (at_ + 1) ⟨by omega, by omega, fun j hj hlt2 => by
        by_cases e : (j : Int) < at_
        · exact h.done j hj e
        · have : j = at_.toNat := by omega
          subst this; exact c⟩ (by omega) (by omega)
      refine ⟨k', at', by omega, h2, h3, ?_⟩
      simp only [shift_CheckP.l1]
      rw [if_pos hlt, if_pos h0, rd47 hn, if_pos c, ew, h4]
    · refine ⟨k, at_, by omega, h, fun _ => by omega, ?_⟩
      simp only [shift_CheckP.l1]
      rw [if_pos hlt, if_pos h0, rd47 hn, if_neg c]
/-- The test of the shift: b tells that the slice does not lie in it. -/
theorem chk_j3 (l0 : List (S45)) (l1 : List (S47)) (x12 : List Int) (x15 x17 : Int) (l2 : List (S51)) (n i id frm to_ : Int) (k : Nat) (at_ : Int) (h0 : 0 ≤ at_) (h1 : at_ ≤ (l1.length : Int)) :
    ∃ b : Bool, (b = true ↔ ¬ ∃ hk : at_.toNat < l1.length, l1[at_.toNat].f0 ≤ frm ∧ to_ ≤ l1[at_.toNat].f1) ∧ shift_CheckP.j3 (k + 1) l0 l1 x12 at_ x15 x17 l2 n i id frm to_ = shift_CheckP.j4 k l0 l1 x12 at_ x15 x17 l2 n i b id frm to_ := by
  by_cases c : at_ = (l1.length : Int)
  · refine ⟨true, ⟨fun _ => fun ⟨hk, _⟩ => by omega, fun _ => rfl⟩, ?_⟩
    simp only [shift_CheckP.j3]
    rw [if_pos c]
  · have hlt : at_ < (l1.length : Int) := by omega
    have hn : at_.toNat < l1.length := by omega
    by_cases c2 : frm < l1[at_.toNat].f0
    · refine ⟨true, ⟨fun _ => fun ⟨hk, h3, h4⟩ => by omega, fun _ => rfl⟩, ?_⟩
      simp only [shift_CheckP.j3]
      rw [if_neg c, if_pos h0, if_pos hlt, rd47 hn, if_pos c2]
    · refine ⟨decide (to_ > l1[at_.toNat].f1), ⟨fun h => ?_, fun h => ?_⟩, ?_⟩
      · rintro ⟨hk, h3, h4⟩
        have := of_decide_eq_true h
        omega
      · refine decide_eq_true ?_
        refine Classical.byContradiction fun hc => h ⟨hn, by omega, by omega⟩
      · simp only [shift_CheckP.j3]
        rw [if_neg c, if_pos h0, if_pos hlt, rd47 hn, if_neg c2]
theorem j1_true (k : Nat) (l0 : List (S45)) (l1 : List (S47)) (x12 : List Int) (x14 x15 x17 : Int) (l2 : List (S51)) (n i id frm to_ : Int) :
    shift_CheckP.j1 (k + 1) l0 l1 x12 x14 x15 x17 l2 n i true id frm to_ = some (x15, 302) := by
  simp only [shift_CheckP.j1]
  rw [if_pos trivial]
theorem j1_false (k : Nat) (l0 : List (S45)) (l1 : List (S47)) (x12 : List Int) (x14 x15 x17 : Int) (l2 : List (S51)) (n i id frm to_ : Int) :
    shift_CheckP.j1 (k + 1) l0 l1 x12 x14 x15 x17 l2 n i false id frm to_ = shift_CheckP.l1 k l0 l1 x12 x14 x15 x17 l2 n i id frm to_ := by
  simp only [shift_CheckP.j1]
  rw [if_neg Bool.false_ne_true]
theorem lastEnd_snoc (p : List Sh.Slice) (u : Sh.Slice) : lastEnd (p ++ [u]) = u.to := by simp [lastEnd]
theorem fuel1 {z k k3 a b : Nat} (h1 : z + 300 < k + 1 + 1) (h2 : k ≤ k3 + 1 + 1 + (a - b) + 1) (h3 : a ≤ 200) : z < k3 := by omega
theorem fuel {d k k3 a b : Nat} (h1 : (d + 1 + 1) * 300 < k + 1 + 1) (h2 : k ≤ k3 + 1 + 1 + (a - b) + 1) (h3 : a ≤ 200) : (d + 1) * 300 < k3 :=
  fuel1 (Nat.lt_of_le_of_lt (Nat.le_of_eq (Nat.succ_mul (d + 1) 300).symm) h1) h2 h3
/-- The loop over the slices. -/
theorem chk_l0 (l0 : List (S45)) (l1 : List (S47)) (l2 : List (S51)) (hJ : Sh.BJ (l0.map toJ)) (hS : Sh.BS (l1.map toS)) (hl1 : l1.length ≤ 200) (hl2 : l2.length ≤ 1000) (hw : wf51 l2 = true) (d : Nat) : ∀ (k : Nat) (i last at_ : Int), 0 ≤ i → (l2.length : Int) - i = d → (d + 1) * 300 < k → CAt l0 l1 ((l2.map toL).take i.toNat) last at_ →
    shift_CheckP.l0 k l0 l1 (rowOf l0 fun x => Sh.ran x.id ((l2.map toL).take i.toNat)) last at_ l2 (l2.length : Int) i = some (Sh.chkFrom (l0.map toJ) (l1.map toS) ((l2.map toL).take i.toNat) ((l2.map toL).drop i.toNat) i) := by
  induction d with
  | zero =>
    intro k i last at_ h0 hd hk hC
    obtain ⟨k, rfl⟩ : ∃ m, k = m + 1 := ⟨k - 1, by omega⟩
    simp only [shift_CheckP.l0]
    rw [if_neg (by omega), List.drop_of_length_le (by simp; omega)]
    rfl
  | succ d ih =>
    intro k i last at_ h0 hd hk hC
    obtain ⟨k, rfl⟩ : ∃ m, k = m + 1 := ⟨k - 1, by omega⟩
    obtain ⟨k, rfl⟩ : ∃ m, k = m + 1 := ⟨k - 1, by omega⟩
    have hlt : i < (l2.length : Int) := by omega
    have ew : wrap64 (i + 1) = i + 1 := by unfold wrap64; omega
    have hmem := rd51_mem h0 hlt
    have hwf := List.all_eq_true.1 hw _ hmem
    have hnx := toL_next h0 hlt
    rw [toL_drop h0 hlt]
    have hfin := hC.fin
    subst hfin
    simp only [shift_CheckP.l0]
    rw [if_pos hlt, if_pos h0, if_pos hlt]
    have e1 : (rd_T51 l2 i).f0 = (toL (rd_T51 l2 i)).job := rfl
    have e2 : (rd_T51 l2 i).f1 = (toL (rd_T51 l2 i)).frm := rfl
    have e3 : (rd_T51 l2 i).f2 = (toL (rd_T51 l2 i)).to := rfl
    rw [e1, e2, e3]
    rw [e1] at hwf
    generalize hu : toL (rd_T51 l2 i) = u at *
    generalize hp : (l2.map toL).take i.toNat = p at *
    rcases look_some (l0 := l0) hwf with ⟨m, hm, h1, h2⟩ | ⟨h1, h2⟩
    · rw [h1]
      simp only [Option.bind_some, if_true]
      have hm' : (m : Int) < (l0.length : Int) := by omega
      have er : rd_T45 l0 (m : Int) = l0[m] := by simp [rd_T45, hm]
      have hok := ok_iff (l1 := l1) hJ (p := p) (u := u) hm h2
      by_cases c1 : u.frm ≥ u.to
      · rw [if_pos c1, j1_true, chk_bad (fun h => by have := (hok.1 h).1; omega)]
      rw [if_neg c1]
      by_cases c2 : u.frm < lastEnd p
      · rw [if_pos c2, j1_true, chk_bad (fun h => by have := (hok.1 h).2.1; omega)]
      rw [if_neg c2, if_pos (by omega), if_pos hm', er]
      by_cases c3 : u.frm < l0[m].f1
      · rw [decide_eq_true c3, j1_true, chk_bad (fun h => by have := (hok.1 h).2.2.1; omega)]
      rw [decide_eq_false c3, j1_false]
      have hst := hC.stand
      have hat : AtS l1 at_ u.frm := ⟨hst.ge, hst.le, fun j hj hlt2 => by have := hst.done j hj hlt2; omega⟩
      have hge := hst.ge
      have hle := hst.le
      obtain ⟨k', at', hk', hat', hst', hl⟩ := chk_l1 l0 l1 (rowOf l0 fun x => Sh.ran x.id p) i m l2 (l2.length : Int) i u.job u.frm u.to hl1 (l1.length - at_.toNat) k at_ hat (by omega) (by omega)
      rw [hl]
      obtain ⟨k2, rfl⟩ : ∃ m, k' = m + 1 := ⟨k' - 1, by omega⟩
      obtain ⟨k3, rfl⟩ : ∃ m, k2 = m + 1 := ⟨k2 - 1, by omega⟩
      have hge' := hat'.ge
      have hle' := hat'.le
      obtain ⟨b, hb, hj3⟩ := chk_j3 l0 l1 (rowOf l0 fun x => Sh.ran x.id p) i m l2 (l2.length : Int) i u.job u.frm u.to (k3 + 1) at' hge' hle'
      rw [hj3]
      have hin := ins_iff hS.vs hat' (by omega) hst'
      cases b with
      | true =>
        have hno := hb.1 rfl
        rw [chk_bad (fun h => hno (hin.1 (hok.1 h).2.2.2.1))]
        simp only [shift_CheckP.j4]
        rw [if_pos trivial]
      | false =>
        have hyes : ∃ hk : at'.toNat < l1.length, l1[at'.toNat].f0 ≤ u.frm ∧ u.to ≤ l1[at'.toNat].f1 := by
          refine Classical.byContradiction fun hc => absurd (hb.2 hc) Bool.false_ne_true
        have hins := hin.2 hyes
        obtain ⟨s, hs, hs1, hs2⟩ := hins
        have hsb := hS.bd s hs
        have hs0 := (hS.vs.pos s hs).1
        have hx : toJ l0[m] ∈ l0.map toJ := List.mem_map.2 ⟨_, List.getElem_mem hm, rfl⟩
        have hbx := hJ.bd _ hx
        have hrl := Sh.Sched.ran_le hJ.vj hx p hC.sched
        have hid : (toJ l0[m]).id = u.job := h2
        have hmin : (toJ l0[m]).min = l0[m].f3 := rfl
        have hpl : p.length ≤ 1000 := by rw [← hp, List.length_take, List.length_map]; omega
        have hbd := ran_bd (id := (toJ l0[m]).id) (a := p) (fun v hv => by
          obtain ⟨x, hx, _, h5, h6, s, hs, h7, h8⟩ := hC.sched.mem hv
          have := hS.bd s hs
          have := (hS.vs.pos s hs).1
          omega)
        have ew1 : wrap64 (u.to - u.frm) = u.to - u.frm := by unfold wrap64; omega
        have ew2 : wrap64 (Sh.ran (toJ l0[m]).id p + (u.to - u.frm)) = Sh.ran (toJ l0[m]).id p + (u.to - u.frm) := by unfold wrap64; omega
        simp only [shift_CheckP.j4]
        rw [if_neg Bool.false_ne_true, if_pos (by omega), if_pos (by rw [rowOf_len]; exact hm')]
        simp only [Option.bind_some, Int.toNat_natCast]
        rw [if_pos hm', rowOf_rd (by omega) hm', er, ew1, ew2]
        have hrs : Sh.ran (toJ l0[m]).id (p ++ [u]) = Sh.ran (toJ l0[m]).id p + (u.to - u.frm) := by rw [ran_snoc, if_pos hid.symm]
        rw [rowOf_set (g := fun x => Sh.ran x.id (p ++ [u])) hm hJ.vj hrs (fun x hxn => by rw [ran_snoc, if_neg (by rw [← hid]; exact fun e => hxn e.symm)]; omega)]
        rw [rowOf_rd (by omega) hm', er, hrs, ew]
        have hnext : Sh.ran u.job (p ++ [u]) = Sh.ran (toJ l0[m]).id p + (u.to - u.frm) := by rw [← hid]; exact hrs
        by_cases c4 : Sh.ran (toJ l0[m]).id p + (u.to - u.frm) > l0[m].f3
        · rw [if_pos c4, chk_bad (fun h => by have := (hok.1 h).2.2.2.2; omega)]
        · rw [if_neg c4]
          have hgood := hok.2 ⟨by omega, by omega, by omega, ⟨s, hs, hs1, hs2⟩, by omega⟩
          rw [chk_good hgood, ← hnx]
          have hk3 : (d + 1) * 300 < k3 := fuel hk hk' hl1
          refine ih k3 (i + 1) u.to at' (by omega) (by omega) hk3 ?_
          rw [hnx]
          refine ⟨hC.sched.snoc hgood, (lastEnd_snoc p u).symm, ?_⟩
          rw [lastEnd_snoc]
          exact ⟨hge', hle', fun j hj hlt2 => by have := hat'.done j hj hlt2; omega⟩
    · rw [h1]
      simp only [Option.bind_some, Bool.false_eq_true, if_false]
      rw [j1_true, chk_bad (ok_none h2)]
theorem check_f {l0 : List (S45)} {l1 : List (S47)} {l2 : List (S51)} {r : Int × Int} (h : shift_Check.f l0 l1 l2 = some r) : ∃ k, shift_CheckP.f k l0 l1 l2 = some r := by
  unfold shift_Check.f at h
  split at h
  · rename_i hw
    split at h
    · rename_i hw2
      refine ⟨(l2.length + 1) * 300 + 1, ?_⟩
      rw [← h]
      unfold shift_CheckP.f Sh.checkX
      rw [List.length_map]
      by_cases c : 1000 < l2.length
      · rw [if_pos (by omega), if_pos c]
      rw [if_neg (by omega), if_neg c]
      unfold shift_valid.f
      rw [if_pos hw]
      simp only [Option.bind_some]
      by_cases cv : (Sh.validX (l0.map toJ) (l1.map toS)).2 = 0
      · rw [if_pos cv, if_pos cv]
        obtain ⟨hJ, hS, hl0, hl1⟩ := Sh.validX_ok cv
        rw [List.length_map] at hl0 hl1
        unfold shift_index.f
        rw [if_pos hw, if_pos (Sh.firstJob_valid (p := []) (by simpa using hJ))]
        simp only [Option.bind_some]
        rw [if_pos (by omega), if_pos (by simp; omega)]
        rw [rowOf_zero l0 (f := fun x => Sh.ran x.id ((l2.map toL).take (0 : Int).toNat)) (fun x => by simp [Sh.ran])]
        rw [chk_l0 l0 l1 l2 hJ hS hl1 (by omega) hw2 l2.length ((l2.length + 1) * 300 + 1) 0 0 0 (Int.le_refl 0) (by omega) (by omega)]
        · rfl
        · refine ⟨fun i hi => absurd hi (by simp), rfl, ?_⟩
          exact ⟨Int.le_refl 0, by omega, fun j hj hlt => by omega⟩
      · rw [if_neg cv, if_neg cv]
    · cases h
  · cases h
end Go.Proofs.Ytbnjdlafnejanaa.Pr
namespace Go.Proofs.Ytbnjdlafnejanaa.Pr
open Go.RowKit Go.Proofs.YtbnjdlafnejanaaW.PrintWords Go.Proofs.YtbnjdlafnejanaaW.PrintLast Go.Proofs.YtbnjdlafnejanaaW.PrintMore
theorem shift_Check.calls (A0 : Option Addr) (c0 : Nat) (l0 : List (S45)) (A1 : Option Addr) (c1 : Nat) (l1 : List (S47)) (A2 : Option Addr) (c2 : Nat) (l2 : List (S51)) (r1 : Int) (r2 : Int) (w : World) (hr0 : Kd.C k45 w A0 l0.length l0) (hc0 : l0.length ≤ c0) (hr1 : Kd.C k47 w A1 l1.length l1) (hc1 : l1.length ≤ c1) (hr2 : Kd.C k51 w A2 l2.length l2) (hc2 : l2.length ≤ c2) (h : shift_Check.f l0 l1 l2 = some (r1, r2)) :
    Calls Try.prog 14 #[.slice A0 l0.length c0, .slice A1 l1.length c1, .slice A2 l2.length c2] w fun e w' => e = .returned (.tuple #[.int .i64 r1, .int .i64 r2]) ∧ Below w.heap.size w w' := by
  obtain ⟨k, hk⟩ := check_f h
  exact shift_CheckP.calls k A0 c0 l0 A1 c1 l1 A2 c2 l2 r1 r2 w hr0 hc0 hr1 hc1 hr2 hc2 hk
end Go.Proofs.Ytbnjdlafnejanaa.Pr
namespace Go.Proofs.Ytbnjdlafnejanaa.Pr
open Go.RowKit Go.Proofs.YtbnjdlafnejanaaW.PrintWords Go.Proofs.YtbnjdlafnejanaaW.PrintLast Go.Proofs.YtbnjdlafnejanaaW.PrintMore
attribute [local go_sem] max2_int min2_int max_two min_two max_three min_three max_four min_four   -- for this text's walks alone
set_option linter.unusedVariables false
set_option linter.unusedSimpArgs false
attribute [local go_sem high] eqA51
mutual
def shift_Excess.l0 : Nat → List (S45) → List (S47) → Int → Int → Bool → List (S45) → Int → Int → Option (Int × Int × Bool × Int)
 | 0, _, _, _, _, _, _, _, _ => none
 | k + 1, x0, x1, x10, x11, x12, x27, x28, x29 => if x29 < x28 then (if 0 ≤ x29 then (if x29 < (x27.length : Int) then (shift_Excess.l1 k x0 x1 x10 x11 x12 x27 x28 x29 x0 (x0.length : Int) 0 ((rd_T45 x27 x29).f0) ((rd_T45 x27 x29).f1) ((rd_T45 x27 x29).f2) ((rd_T45 x27 x29).f3)) else (none)) else (none)) else (some (x10, x11, x12, 0))
def shift_Excess.l1 : Nat → List (S45) → List (S47) → Int → Int → Bool → List (S45) → Int → Int → List (S45) → Int → Int → Int → Int → Int → Int → Option (Int × Int × Bool × Int)
 | 0, _, _, _, _, _, _, _, _, _, _, _, _, _, _, _ => none
 | k + 1, x0, x1, x10, x11, x12, x27, x28, x29, x33, x34, x35, x171000, x171001, x171002, x171003 => if x35 < x34 then (if 0 ≤ x35 then (if x35 < (x33.length : Int) then (if x12 = true then (if x171002 < x11 then ((shift_overfull.f k x0 x1 ((rd_T45 x33 x35).f1) x171002).bind fun t173 => (if t173 = true then (shift_Excess.l1 k x0 x1 ((rd_T45 x33 x35).f1) x171002 true x27 x28 x29 x33 x34 (wrap64 (x35 + 1)) x171000 x171001 x171002 x171003) else (shift_Excess.l1 k x0 x1 x10 x11 x12 x27 x28 x29 x33 x34 (wrap64 (x35 + 1)) x171000 x171001 x171002 x171003))) else (if x171002 = x11 then (if ((rd_T45 x33 x35).f1) > x10 then ((shift_overfull.f k x0 x1 ((rd_T45 x33 x35).f1) x171002).bind fun t174 => (if t174 = true then (shift_Excess.l1 k x0 x1 ((rd_T45 x33 x35).f1) x171002 true x27 x28 x29 x33 x34 (wrap64 (x35 + 1)) x171000 x171001 x171002 x171003) else (shift_Excess.l1 k x0 x1 x10 x11 x12 x27 x28 x29 x33 x34 (wrap64 (x35 + 1)) x171000 x171001 x171002 x171003))) else (shift_Excess.l1 k x0 x1 x10 x11 x12 x27 x28 x29 x33 x34 (wrap64 (x35 + 1)) x171000 x171001 x171002 x171003)) else (shift_Excess.l1 k x0 x1 x10 x11 x12 x27 x28 x29 x33 x34 (wrap64 (x35 + 1)) x171000 x171001 x171002 x171003))) else ((shift_overfull.f k x0 x1 ((rd_T45 x33 x35).f1) x171002).bind fun t175 => (if t175 = true then (shift_Excess.l1 k x0 x1 ((rd_T45 x33 x35).f1) x171002 true x27 x28 x29 x33 x34 (wrap64 (x35 + 1)) x171000 x171001 x171002 x171003) else (shift_Excess.l1 k x0 x1 x10 x11 x12 x27 x28 x29 x33 x34 (wrap64 (x35 + 1)) x171000 x171001 x171002 x171003)))) else (none)) else (none)) else (shift_Excess.l0 k x0 x1 x10 x11 x12 x27 x28 (wrap64 (x29 + 1)))
end
def shift_Excess.f (k : Nat) (l0 : List (S45)) (l1 : List (S47)) : Option (Int × Int × Bool × Int) := (shift_valid.f l0 l1).bind fun bt167 => (if bt167.2 = 0 then (shift_Excess.l0 k l0 l1 0 0 false l0 (l0.length : Int) 0) else (some (0, 0, false, bt167.2)))
theorem shift_Excess.mono_l : ∀ k, (∀ y0 y1 y2 y3 y4 y5 y6 y7, LeO (shift_Excess.l0 k y0 y1 y2 y3 y4 y5 y6 y7) (shift_Excess.l0 (k + 1) y0 y1 y2 y3 y4 y5 y6 y7)) ∧ (∀ y0 y1 y2 y3 y4 y5 y6 y7 y8 y9 y10 y11 y12 y13 y14, LeO (shift_Excess.l1 k y0 y1 y2 y3 y4 y5 y6 y7 y8 y9 y10 y11 y12 y13 y14) (shift_Excess.l1 (k + 1) y0 y1 y2 y3 y4 y5 y6 y7 y8 y9 y10 y11 y12 y13 y14))
 | 0 => ⟨fun _ _ _ _ _ _ _ _ r h => by simp [shift_Excess.l0] at h, fun _ _ _ _ _ _ _ _ _ _ _ _ _ _ _ r h => by simp [shift_Excess.l1] at h⟩
 | k + 1 => by
  obtain ⟨ih0, ih1⟩ := shift_Excess.mono_l k
  refine ⟨?_, ?_⟩
  ·intro y0 y1 y2 y3 y4 y5 y6 y7
   unfold shift_Excess.l0
   repeat' first
   | (with_reducible exact ih0 _ _ _ _ _ _ _ _)
   | (with_reducible exact ih1 _ _ _ _ _ _ _ _ _ _ _ _ _ _ _)
   | (with_reducible exact shift_overfull.mono _ _ _ _ _)
   | (with_reducible exact LeO.refl _)
   | (with_reducible exact LeO.none _)
   | (with_reducible refine LeO.ite ?_ ?_)
   | (with_reducible refine LeO.bind ?_ (fun _ => ?_))
   | exact ih0 _ _ _ _ _ _ _ _
   | exact ih1 _ _ _ _ _ _ _ _ _ _ _ _ _ _ _
   | exact shift_overfull.mono _ _ _ _ _
   | exact LeO.none _
   | refine LeO.ite ?_ ?_
   | refine LeO.bind ?_ (fun _ => ?_)
  ·intro y0 y1 y2 y3 y4 y5 y6 y7 y8 y9 y10 y11 y12 y13 y14
   unfold shift_Excess.l1
   repeat' first
   | (with_reducible exact ih0 _ _ _ _ _ _ _ _)
   | (with_reducible exact ih1 _ _ _ _ _ _ _ _ _ _ _ _ _ _ _)
   | (with_reducible exact shift_overfull.mono _ _ _ _ _)
   | (with_reducible exact LeO.refl _)
   | (with_reducible exact LeO.none _)
   | (with_reducible refine LeO.ite ?_ ?_)
   | (with_reducible refine LeO.bind ?_ (fun _ => ?_))
   | exact ih0 _ _ _ _ _ _ _ _
   | exact ih1 _ _ _ _ _ _ _ _ _ _ _ _ _ _ _
   | exact shift_overfull.mono _ _ _ _ _
   | exact LeO.none _
   | refine LeO.ite ?_ ?_
   | refine LeO.bind ?_ (fun _ => ?_)
theorem shift_Excess.mono : ∀ a0 a1 k, LeO (shift_Excess.f k a0 a1) (shift_Excess.f (k + 1) a0 a1) := by
 intro a0 a1 k
 obtain ⟨ih0, ih1⟩ := shift_Excess.mono_l k
 unfold shift_Excess.f
 repeat' first
  | (with_reducible exact ih0 _ _ _ _ _ _ _ _)
  | (with_reducible exact ih1 _ _ _ _ _ _ _ _ _ _ _ _ _ _ _)
  | (with_reducible exact shift_overfull.mono _ _ _ _ _)
  | (with_reducible exact LeO.refl _)
  | (with_reducible exact LeO.none _)
  | (with_reducible refine LeO.ite ?_ ?_)
  | (with_reducible refine LeO.bind ?_ (fun _ => ?_))
  | exact ih0 _ _ _ _ _ _ _ _
  | exact ih1 _ _ _ _ _ _ _ _ _ _ _ _ _ _ _
  | exact shift_overfull.mono _ _ _ _ _
  | exact LeO.none _
  | refine LeO.ite ?_ ?_
  | refine LeO.bind ?_ (fun _ => ?_)
set_option maxHeartbeats 8000000 in
set_option maxRecDepth 100000 in
theorem shift_Excess.calls (k : Nat) (A0 : Option Addr) (c0 : Nat) (l0 : List (S45)) (A1 : Option Addr) (c1 : Nat) (l1 : List (S47)) (r1 : Int) (r2 : Int) (r3 : Bool) (r4 : Int) (w : World) (hr0 : Kd.C k45 w A0 l0.length l0) (hc0 : l0.length ≤ c0) (hr1 : Kd.C k47 w A1 l1.length l1) (hc1 : l1.length ≤ c1) (h : shift_Excess.f k l0 l1 = some (r1, r2, r3, r4)) :
  Calls Try.prog 18 #[.slice A0 l0.length c0, .slice A1 l1.length c1] w fun e w' => e = .returned (.tuple #[.int .i64 r1, .int .i64 r2, .bool r3, .int .i64 r4]) ∧ Below w.heap.size w w' := by
 have hu45 := Try.underlying45
 have HR0 := Aside0.mk hr0
 have HC0 := Aside0.mk hc0
 clear hr0 hc0
 have HR1 := Aside0.mk hr1
 have HC1 := Aside0.mk hc1
 clear hr1 hc1
 have HB := Aside0.mk (Below.refl w.heap.size w)
 have H : ((shift_valid.f l0 l1).bind fun bt167 => (if bt167.2 = 0 then (shift_Excess.l0 k l0 l1 0 0 false l0 (l0.length : Int) 0) else (some (0, 0, false, bt167.2)))) = some (r1, r2, r3, r4) := h
 clear h
 replace H := Option.bind_eq_some_iff.mp H
 obtain ⟨⟨t167, t168⟩, A30, H⟩ := H
 replace H : (if t168 = 0 then (shift_Excess.l0 k l0 l1 0 0 false l0 (l0.length : Int) 0) else (some (0, 0, false, t168))) = some (r1, r2, r3, r4) := H
 have A3 := Aside0.mk A30
 clear A30
 by_cases c4 : t168 = 0
 ·rw [if_pos c4] at H
  have c4b0 : (t168 == 0) = true := beq_iff_eq.mpr c4
  have c4b1 : (t168 != 0) = false := bne_eq_false_iff_eq.mpr c4
  clear c4
  have H' := Aside0.mk H
  clear H
  go_enter Try.func18, Try.ntmps18
  go_wp2_with ((go_at_call 23; (with_reducible refine (shift_valid.calls _ _ l0 _ _ l1 t167 t168 _ ?side1 ?side2 ?side3 ?side4 A3.out).mono ?_); (case side1 => repeat (exact HR0.out)); (case side2 => exact HC0.out); (case side3 => repeat (exact HR1.out)); (case side4 => exact HC1.out); rintro e w5 ⟨rfl, hb⟩; have n0_ := Aside0.mk (below_step (by repeat ((with_reducible exact HB.out))) hb); clear HB; have HB := n0_; clear n0_; (try clear hb); (try clear hb2); (try clear hk); (try clear hi)))
  repeat (go_quiet (fail); try go_wp2_with (fail))
  go_loopg [10, 11, 12, 29] k (fun kq v10 v11 v12 v29 w' => ∃ (x10_1 : Int) (x11_1 : Int) (x12_1 : Bool) (x29_1 : Int), v10 = .int .i64 x10_1 ∧ v11 = .int .i64 x11_1 ∧ v12 = .bool x12_1 ∧ v29 = .int .i64 x29_1 ∧ Aside0 (shift_Excess.l0 kq l0 l1 x10_1 x11_1 x12_1 l0 (l0.length : Int) x29_1 = some (r1, r2, r3, r4)) ∧ Aside0 (kq ≤ k) ∧ Aside0 (Below w.heap.size w w'))
  case atStart => exact ⟨(0), (0), (false), (0), (by rfl), (by rfl), (by rfl), (by rfl), H', ⟨Nat.le_refl _⟩, ⟨by repeat ((with_reducible exact HB.out))⟩⟩
  case round =>
   clear H'
   try clear c1
   try clear p2
   try clear c4
   try clear c4b0
   try clear c4b1
   obtain ⟨x10_1, x11_1, x12_1, x29_1, rfl, rfl, rfl, rfl, HA, HK1, HB⟩ := hrel
   cases gk with
   | zero => exact absurd HA.out (by simp [shift_Excess.l0])
   | succ k1 =>
    have H := HA.out
    clear HA
    simp only [shift_Excess.l0] at H
    by_cases c6 : x29_1 < (l0.length : Int)
    ·rw [if_pos c6] at H
     have c6b0 : decide (x29_1 < (l0.length : Int)) = true := decide_eq_true c6
     clear c6
     by_cases c7 : 0 ≤ x29_1
     ·rw [if_pos c7] at H
      have c7b0 : decide (0 ≤ x29_1) = true := decide_eq_true c7
      clear c7
      by_cases c8 : x29_1 < (l0.length : Int)
      ·rw [if_pos c8] at H
       have c8b0 : decide (x29_1 < (l0.length : Int)) = true := decide_eq_true c8
       clear c8
       have H' := Aside0.mk H
       clear H
       have p169 : 0 ≤ (x29_1 : Int) := of_decide_eq_true (by (with_reducible assumption))
       have q169 : x29_1 < (l0.length : Int) := of_decide_eq_true (by (with_reducible assumption))
       obtain ⟨ad169, e169, hx169_0, hx169_1, hx169_2, hx169_3⟩ := at_T45 HR0.out x29_1 p169 q169
       cases e169
       replace hx169_0 := (HB.out.cell (World.block_lt_of_cell? w _ hx169_0)).trans hx169_0
       replace hx169_1 := (HB.out.cell (World.block_lt_of_cell? w _ hx169_1)).trans hx169_1
       replace hx169_2 := (HB.out.cell (World.block_lt_of_cell? w _ hx169_2)).trans hx169_2
       replace hx169_3 := (HB.out.cell (World.block_lt_of_cell? w _ hx169_3)).trans hx169_3
       replace p169 := eq_true p169
       replace q169 := eq_true q169
       go_wp2_with (((with_reducible refine gate_dst (N := 14) rfl ?_); refine box_event ?hg (N := 14) ?hd (cs := #[.int .i64 0, .int .i64 0, .int .i64 0, .int .i64 0]) (t := 45) ?hr ?_; (case hd => rfl); (case hg => rfl); (case hr => (go_simp; done)); intro gb170 hg w9 hbox hb; have n0_ := Aside0.mk (below_step (by repeat ((with_reducible exact HB.out))) hb); have n1_ := Aside0.mk (hbox); have n2_ := Aside0.mk ((by rw [hg]; exact (below_size (by repeat ((with_reducible exact HB.out)))) : w.heap.size ≤ gb170)); have n3_ := Aside0.mk ((by rw [hg]; exact (below_size (by repeat ((with_reducible exact HB.out)))) : w.heap.size ≤ gb170)); clear HB; have HB := n0_; have BK170 := n1_; have GW170 := n2_; have GE170 := n3_; clear n0_ n1_ n2_ n3_; clear hb hbox hg; have hcz10_0 : w9.cell? ⟨gb170, 0, none⟩ = some (.int .i64 0) := (blk_cell BK170.out 0).trans rfl; have hcz10_1 : w9.cell? ⟨gb170, 1, none⟩ = some (.int .i64 0) := (blk_cell BK170.out 1).trans rfl; have hcz10_2 : w9.cell? ⟨gb170, 2, none⟩ = some (.int .i64 0) := (blk_cell BK170.out 2).trans rfl; have hcz10_3 : w9.cell? ⟨gb170, 3, none⟩ = some (.int .i64 0) := (blk_cell BK170.out 3).trans rfl; have hfz10_0 := blk_frozen BK170.out 0; have hfz10_1 := blk_frozen BK170.out 1; have hfz10_2 := blk_frozen BK170.out 2; have hfz10_3 := blk_frozen BK170.out 3))
       repeat (go_quiet (fail); try go_wp2_with (fail))
       go_loopg [10, 11, 12, 35] k1 (fun kq v10 v11 v12 v35 w' => ∃ (x10_2 : Int) (x11_2 : Int) (x12_2 : Bool) (x35_2 : Int), v10 = .int .i64 x10_2 ∧ v11 = .int .i64 x11_2 ∧ v12 = .bool x12_2 ∧ v35 = .int .i64 x35_2 ∧ Aside0 (shift_Excess.l1 kq l0 l1 x10_2 x11_2 x12_2 l0 (l0.length : Int) x29_1 l0 (l0.length : Int) x35_2 ((rd_T45 l0 x29_1).f0) ((rd_T45 l0 x29_1).f1) ((rd_T45 l0 x29_1).f2) ((rd_T45 l0 x29_1).f3) = some (r1, r2, r3, r4)) ∧ Aside0 (kq ≤ k1) ∧ Aside0 (w'.heap[gb170]? = some (.cells #[.int .i64 ((rd_T45 l0 x29_1).f0), .int .i64 ((rd_T45 l0 x29_1).f1), .int .i64 ((rd_T45 l0 x29_1).f2), .int .i64 ((rd_T45 l0 x29_1).f3)] 45 (0, 0))) ∧ Aside0 (Below w.heap.size w w'))
       case atStart => exact ⟨(x10_1), (x11_1), (x12_1), (0), (by rfl), (by rfl), (by rfl), (by rfl), H', ⟨Nat.le_refl _⟩, ⟨by (with_reducible repeat (fail)); refine blk_put (cs := #[.int .i64 ((rd_T45 l0 x29_1).f0), .int .i64 ((rd_T45 l0 x29_1).f1), .int .i64 ((rd_T45 l0 x29_1).f2), .int .i64 0]) ?_ 3 _ rfl; (with_reducible repeat (fail)); refine blk_put (cs := #[.int .i64 ((rd_T45 l0 x29_1).f0), .int .i64 ((rd_T45 l0 x29_1).f1), .int .i64 0, .int .i64 0]) ?_ 2 _ rfl; (with_reducible repeat (fail)); refine blk_put (cs := #[.int .i64 ((rd_T45 l0 x29_1).f0), .int .i64 0, .int .i64 0, .int .i64 0]) ?_ 1 _ rfl; (with_reducible repeat (fail)); refine blk_put (cs := #[.int .i64 0, .int .i64 0, .int .i64 0, .int .i64 0]) ?_ 0 _ rfl; (with_reducible repeat (fail)); exact BK170.out⟩, ⟨by repeat ((with_reducible first | exact HB.out | refine below_set ?_ GE170.out))⟩⟩
       case round =>
        clear H'
        try clear c1
        try clear p1
        try clear q1
        try clear hx1
        try clear p2
        try clear c4
        try clear c4b0
        try clear c4b1
        try clear c6
        try clear c6b0
        try clear c7
        try clear c7b0
        try clear c8
        try clear c8b0
        try clear hcz10_0
        try clear hcz10_1
        try clear hcz10_2
        try clear hcz10_3
        try clear hfz10_0
        try clear hfz10_1
        try clear hfz10_2
        try clear hfz10_3
        try clear hx169_0
        try clear hx169_1
        try clear hx169_2
        try clear hx169_3
        try clear p169
        try clear p2
        try clear q169
        obtain ⟨x10_2, x11_2, x12_2, x35_2, rfl, rfl, rfl, rfl, HA, HK2, BK170, HB⟩ := hrel
        cases gk with
        | zero => exact absurd HA.out (by simp [shift_Excess.l1])
        | succ k2 =>
         have H := HA.out
         clear HA
         simp only [shift_Excess.l1] at H
         by_cases c11 : x35_2 < (l0.length : Int)
         ·rw [if_pos c11] at H
          have c11b0 : decide (x35_2 < (l0.length : Int)) = true := decide_eq_true c11
          clear c11
          by_cases c12 : 0 ≤ x35_2
          ·rw [if_pos c12] at H
           have c12b0 : decide (0 ≤ x35_2) = true := decide_eq_true c12
           clear c12
           by_cases c13 : x35_2 < (l0.length : Int)
           ·rw [if_pos c13] at H
            have c13b0 : decide (x35_2 < (l0.length : Int)) = true := decide_eq_true c13
            clear c13
            by_cases c14 : x12_2 = true
            ·subst c14
             have H1 : (if ((rd_T45 l0 x29_1).f2) < x11_2 then ((shift_overfull.f k2 l0 l1 ((rd_T45 l0 x35_2).f1) ((rd_T45 l0 x29_1).f2)).bind fun t173 => (if t173 = true then (shift_Excess.l1 k2 l0 l1 ((rd_T45 l0 x35_2).f1) ((rd_T45 l0 x29_1).f2) true l0 (l0.length : Int) x29_1 l0 (l0.length : Int) (wrap64 (x35_2 + 1)) ((rd_T45 l0 x29_1).f0) ((rd_T45 l0 x29_1).f1) ((rd_T45 l0 x29_1).f2) ((rd_T45 l0 x29_1).f3)) else (shift_Excess.l1 k2 l0 l1 x10_2 x11_2 true l0 (l0.length : Int) x29_1 l0 (l0.length : Int) (wrap64 (x35_2 + 1)) ((rd_T45 l0 x29_1).f0) ((rd_T45 l0 x29_1).f1) ((rd_T45 l0 x29_1).f2) ((rd_T45 l0 x29_1).f3)))) else (if ((rd_T45 l0 x29_1).f2) = x11_2 then (if ((rd_T45 l0 x35_2).f1) > x10_2 then ((shift_overfull.f k2 l0 l1 ((rd_T45 l0 x35_2).f1) ((rd_T45 l0 x29_1).f2)).bind fun t174 => (if t174 = true then (shift_Excess.l1 k2 l0 l1 ((rd_T45 l0 x35_2).f1) ((rd_T45 l0 x29_1).f2) true l0 (l0.length : Int) x29_1 l0 (l0.length : Int) (wrap64 (x35_2 + 1)) ((rd_T45 l0 x29_1).f0) ((rd_T45 l0 x29_1).f1) ((rd_T45 l0 x29_1).f2) ((rd_T45 l0 x29_1).f3)) else (shift_Excess.l1 k2 l0 l1 x10_2 x11_2 true l0 (l0.length : Int) x29_1 l0 (l0.length : Int) (wrap64 (x35_2 + 1)) ((rd_T45 l0 x29_1).f0) ((rd_T45 l0 x29_1).f1) ((rd_T45 l0 x29_1).f2) ((rd_T45 l0 x29_1).f3)))) else (shift_Excess.l1 k2 l0 l1 x10_2 x11_2 true l0 (l0.length : Int) x29_1 l0 (l0.length : Int) (wrap64 (x35_2 + 1)) ((rd_T45 l0 x29_1).f0) ((rd_T45 l0 x29_1).f1) ((rd_T45 l0 x29_1).f2) ((rd_T45 l0 x29_1).f3))) else (shift_Excess.l1 k2 l0 l1 x10_2 x11_2 true l0 (l0.length : Int) x29_1 l0 (l0.length : Int) (wrap64 (x35_2 + 1)) ((rd_T45 l0 x29_1).f0) ((rd_T45 l0 x29_1).f1) ((rd_T45 l0 x29_1).f2) ((rd_T45 l0 x29_1).f3)))) = some (r1, r2, r3, r4) := by rw [if_pos rfl] at H; exact H
             clear H
             have H := H1
             clear H1
             by_cases c15 : ((rd_T45 l0 x29_1).f2) < x11_2
             ·rw [if_pos c15] at H
              have c15b0 : decide (((rd_T45 l0 x29_1).f2) < x11_2) = true := decide_eq_true c15
              clear c15
              replace H := Option.bind_eq_some_iff.mp H
              obtain ⟨t173, A160, H⟩ := H
              replace H : (if t173 = true then (shift_Excess.l1 k2 l0 l1 ((rd_T45 l0 x35_2).f1) ((rd_T45 l0 x29_1).f2) true l0 (l0.length : Int) x29_1 l0 (l0.length : Int) (wrap64 (x35_2 + 1)) ((rd_T45 l0 x29_1).f0) ((rd_T45 l0 x29_1).f1) ((rd_T45 l0 x29_1).f2) ((rd_T45 l0 x29_1).f3)) else (shift_Excess.l1 k2 l0 l1 x10_2 x11_2 true l0 (l0.length : Int) x29_1 l0 (l0.length : Int) (wrap64 (x35_2 + 1)) ((rd_T45 l0 x29_1).f0) ((rd_T45 l0 x29_1).f1) ((rd_T45 l0 x29_1).f2) ((rd_T45 l0 x29_1).f3))) = some (r1, r2, r3, r4) := H
              have A16 := Aside0.mk A160
              clear A160
              by_cases c17 : t173 = true
              ·subst c17
               have H1 : (shift_Excess.l1 k2 l0 l1 ((rd_T45 l0 x35_2).f1) ((rd_T45 l0 x29_1).f2) true l0 (l0.length : Int) x29_1 l0 (l0.length : Int) (wrap64 (x35_2 + 1)) ((rd_T45 l0 x29_1).f0) ((rd_T45 l0 x29_1).f1) ((rd_T45 l0 x29_1).f2) ((rd_T45 l0 x29_1).f3)) = some (r1, r2, r3, r4) := by rw [if_pos rfl] at H; exact H
               clear H
               have H := H1
               clear H1
               have H' := Aside0.mk H
               clear H
               have p171 : 0 ≤ (x35_2 : Int) := of_decide_eq_true (by (with_reducible assumption))
               have q171 : x35_2 < (l0.length : Int) := of_decide_eq_true (by (with_reducible assumption))
               obtain ⟨ad171, e171, hx171_0, hx171_1, hx171_2, hx171_3⟩ := at_T45 HR0.out x35_2 p171 q171
               obtain rfl : ad169 = ad171 := (by injection e171)
               replace hx171_0 := (HB.out.cell (World.block_lt_of_cell? w _ hx171_0)).trans hx171_0
               replace hx171_1 := (HB.out.cell (World.block_lt_of_cell? w _ hx171_1)).trans hx171_1
               replace hx171_2 := (HB.out.cell (World.block_lt_of_cell? w _ hx171_2)).trans hx171_2
               replace hx171_3 := (HB.out.cell (World.block_lt_of_cell? w _ hx171_3)).trans hx171_3
               replace p171 := eq_true p171
               replace q171 := eq_true q171
               go_wp2_with (first | ((with_reducible refine gate_dst (N := 16) rfl ?_); refine box_event ?hg (N := 16) ?hd (cs := #[.int .i64 0, .int .i64 0, .int .i64 0, .int .i64 0]) (t := 45) ?hr ?_; (case hd => rfl); (case hg => rfl); (case hr => (go_simp; done)); intro gb172 hg w18 hbox hb; have n0_ := Aside0.mk (blk_below (g := gb170) (o := .cells #[.int .i64 ((rd_T45 l0 x29_1).f0), .int .i64 ((rd_T45 l0 x29_1).f1), .int .i64 ((rd_T45 l0 x29_1).f2), .int .i64 ((rd_T45 l0 x29_1).f3)] 45 (0, 0)) (by (with_reducible repeat (fail)); exact BK170.out) hb); have n1_ := Aside0.mk (below_step (by repeat ((with_reducible exact HB.out))) hb); have n2_ := Aside0.mk (hbox); have n3_ := Aside0.mk ((by rw [hg]; exact (below_size (by repeat ((with_reducible exact HB.out)))) : w.heap.size ≤ gb172)); have n4_ := Aside0.mk ((by rw [hg]; exact (below_size (by repeat ((with_reducible exact HB.out)))) : w.heap.size ≤ gb172)); have n5_ := Aside0.mk ((by rw [hg]; exact Nat.ne_of_lt (blk_lt (g := gb170) (o := .cells #[.int .i64 ((rd_T45 l0 x29_1).f0), .int .i64 ((rd_T45 l0 x29_1).f1), .int .i64 ((rd_T45 l0 x29_1).f2), .int .i64 ((rd_T45 l0 x29_1).f3)] 45 (0, 0)) (by (with_reducible repeat (fail)); exact BK170.out)) : gb170 ≠ gb172)); have n6_ := Aside0.mk ((by rw [hg]; exact Nat.ne_of_gt (blk_lt (g := gb170) (o := .cells #[.int .i64 ((rd_T45 l0 x29_1).f0), .int .i64 ((rd_T45 l0 x29_1).f1), .int .i64 ((rd_T45 l0 x29_1).f2), .int .i64 ((rd_T45 l0 x29_1).f3)] 45 (0, 0)) (by (with_reducible repeat (fail)); exact BK170.out)) : gb172 ≠ gb170)); clear BK170; clear HB; have BK170 := n0_; have HB := n1_; have BK172 := n2_; have GW172 := n3_; have GE172 := n4_; have NB170_172 := n5_; have NB172_170 := n6_; clear n0_ n1_ n2_ n3_ n4_ n5_ n6_; clear hb hbox hg; have hnb19 := NB172_170.out; have hnc19 := NB170_172.out; have hcz20_0 : w18.cell? ⟨gb172, 0, none⟩ = some (.int .i64 0) := (blk_cell BK172.out 0).trans rfl; have hcz20_1 : w18.cell? ⟨gb172, 1, none⟩ = some (.int .i64 0) := (blk_cell BK172.out 1).trans rfl; have hcz20_2 : w18.cell? ⟨gb172, 2, none⟩ = some (.int .i64 0) := (blk_cell BK172.out 2).trans rfl; have hcz20_3 : w18.cell? ⟨gb172, 3, none⟩ = some (.int .i64 0) := (blk_cell BK172.out 3).trans rfl; have hfz20_0 := blk_frozen BK172.out 0; have hfz20_1 := blk_frozen BK172.out 1; have hfz20_2 := blk_frozen BK172.out 2; have hfz20_3 := blk_frozen BK172.out 3; have hcz21_0 : w18.cell? ⟨gb170, 0, none⟩ = some (.int .i64 ((rd_T45 l0 x29_1).f0)) := (blk_cell BK170.out 0).trans rfl; have hcz21_1 : w18.cell? ⟨gb170, 1, none⟩ = some (.int .i64 ((rd_T45 l0 x29_1).f1)) := (blk_cell BK170.out 1).trans rfl; have hcz21_2 : w18.cell? ⟨gb170, 2, none⟩ = some (.int .i64 ((rd_T45 l0 x29_1).f2)) := (blk_cell BK170.out 2).trans rfl; have hcz21_3 : w18.cell? ⟨gb170, 3, none⟩ = some (.int .i64 ((rd_T45 l0 x29_1).f3)) := (blk_cell BK170.out 3).trans rfl; have hfz21_0 := blk_frozen BK170.out 0; have hfz21_1 := blk_frozen BK170.out 1; have hfz21_2 := blk_frozen BK170.out 2; have hfz21_3 := blk_frozen BK170.out 3) | (go_at_call 27; (with_reducible refine (shift_overfull.calls k2 _ _ l0 _ _ l1 ((rd_T45 l0 x35_2).f1) ((rd_T45 l0 x29_1).f2) true _ ?side1 ?side2 ?side3 ?side4 A16.out).mono ?_); (case side1 => exact Kd.C_below HR0.out (by repeat ((with_reducible first | exact HB.out | refine below_set ?_ GE172.out)))); (case side2 => exact HC0.out); (case side3 => exact Kd.C_below HR1.out (by repeat ((with_reducible first | exact HB.out | refine below_set ?_ GE172.out)))); (case side4 => exact HC1.out); rintro e w22 ⟨rfl, hb⟩; have n0_ := Aside0.mk (blk_below (g := gb170) (o := .cells #[.int .i64 ((rd_T45 l0 x29_1).f0), .int .i64 ((rd_T45 l0 x29_1).f1), .int .i64 ((rd_T45 l0 x29_1).f2), .int .i64 ((rd_T45 l0 x29_1).f3)] 45 (0, 0)) (by (with_reducible repeat (fail)); refine blk_far ?_ NB170_172.out _; (with_reducible repeat (fail)); refine blk_far ?_ NB170_172.out _; (with_reducible repeat (fail)); refine blk_far ?_ NB170_172.out _; (with_reducible repeat (fail)); refine blk_far ?_ NB170_172.out _; (with_reducible repeat (fail)); exact BK170.out) hb); have n1_ := Aside0.mk (blk_below (g := gb172) (o := .cells #[.int .i64 ((rd_T45 l0 x35_2).f0), .int .i64 ((rd_T45 l0 x35_2).f1), .int .i64 ((rd_T45 l0 x35_2).f2), .int .i64 ((rd_T45 l0 x35_2).f3)] 45 (0, 0)) (by (with_reducible repeat (fail)); refine blk_put (cs := #[.int .i64 ((rd_T45 l0 x35_2).f0), .int .i64 ((rd_T45 l0 x35_2).f1), .int .i64 ((rd_T45 l0 x35_2).f2), .int .i64 0]) ?_ 3 _ rfl; (with_reducible repeat (fail)); refine blk_put (cs := #[.int .i64 ((rd_T45 l0 x35_2).f0), .int .i64 ((rd_T45 l0 x35_2).f1), .int .i64 0, .int .i64 0]) ?_ 2 _ rfl; (with_reducible repeat (fail)); refine blk_put (cs := #[.int .i64 ((rd_T45 l0 x35_2).f0), .int .i64 0, .int .i64 0, .int .i64 0]) ?_ 1 _ rfl; (with_reducible repeat (fail)); refine blk_put (cs := #[.int .i64 0, .int .i64 0, .int .i64 0, .int .i64 0]) ?_ 0 _ rfl; (with_reducible repeat (fail)); exact BK172.out) hb); have n2_ := Aside0.mk (below_step (by repeat ((with_reducible first | exact HB.out | refine below_set ?_ GE172.out))) hb); clear BK170; clear BK172; clear HB; have BK170 := n0_; have BK172 := n1_; have HB := n2_; clear n0_ n1_ n2_; (try clear hb); (try clear hb2); (try clear hk); (try clear hi); have hcz23_0 : w22.cell? ⟨gb172, 0, none⟩ = some (.int .i64 ((rd_T45 l0 x35_2).f0)) := (blk_cell BK172.out 0).trans rfl; have hcz23_1 : w22.cell? ⟨gb172, 1, none⟩ = some (.int .i64 ((rd_T45 l0 x35_2).f1)) := (blk_cell BK172.out 1).trans rfl; have hcz23_2 : w22.cell? ⟨gb172, 2, none⟩ = some (.int .i64 ((rd_T45 l0 x35_2).f2)) := (blk_cell BK172.out 2).trans rfl; have hcz23_3 : w22.cell? ⟨gb172, 3, none⟩ = some (.int .i64 ((rd_T45 l0 x35_2).f3)) := (blk_cell BK172.out 3).trans rfl; have hfz23_0 := blk_frozen BK172.out 0; have hfz23_1 := blk_frozen BK172.out 1; have hfz23_2 := blk_frozen BK172.out 2; have hfz23_3 := blk_frozen BK172.out 3; have hcz24_0 : w22.cell? ⟨gb170, 0, none⟩ = some (.int .i64 ((rd_T45 l0 x29_1).f0)) := (blk_cell BK170.out 0).trans rfl; have hcz24_1 : w22.cell? ⟨gb170, 1, none⟩ = some (.int .i64 ((rd_T45 l0 x29_1).f1)) := (blk_cell BK170.out 1).trans rfl; have hcz24_2 : w22.cell? ⟨gb170, 2, none⟩ = some (.int .i64 ((rd_T45 l0 x29_1).f2)) := (blk_cell BK170.out 2).trans rfl; have hcz24_3 : w22.cell? ⟨gb170, 3, none⟩ = some (.int .i64 ((rd_T45 l0 x29_1).f3)) := (blk_cell BK170.out 3).trans rfl; have hfz24_0 := blk_frozen BK170.out 0; have hfz24_1 := blk_frozen BK170.out 1; have hfz24_2 := blk_frozen BK170.out 2; have hfz24_3 := blk_frozen BK170.out 3))
               repeat (go_quiet (fail); try go_wp2_with (fail))
               go_roundg k2
               case measure => have := HK1.out; have := HK2.out; omega
               case rel => exact ⟨((rd_T45 l0 x35_2).f1), (((rd_T45 l0 x29_1).f2)), (true), (wrap64 (x35_2 + 1)), (by rfl), (by rfl), (by rfl), (by rfl), H', ⟨by have := HK1.out; have := HK2.out; omega⟩, ⟨by (with_reducible repeat (refine blk_drewN ?_ _)); exact BK170.out⟩, ⟨by repeat ((with_reducible first | exact HB.out | apply pw_below_drewN))⟩⟩
              ·replace c17 := Bool.eq_false_iff.mpr c17
               subst c17
               have H1 : (shift_Excess.l1 k2 l0 l1 x10_2 x11_2 true l0 (l0.length : Int) x29_1 l0 (l0.length : Int) (wrap64 (x35_2 + 1)) ((rd_T45 l0 x29_1).f0) ((rd_T45 l0 x29_1).f1) ((rd_T45 l0 x29_1).f2) ((rd_T45 l0 x29_1).f3)) = some (r1, r2, r3, r4) := by rw [if_neg (show ¬ (false = true) by decide)] at H; exact H
               clear H
               have H := H1
               clear H1
               have H' := Aside0.mk H
               clear H
               have p171 : 0 ≤ (x35_2 : Int) := of_decide_eq_true (by (with_reducible assumption))
               have q171 : x35_2 < (l0.length : Int) := of_decide_eq_true (by (with_reducible assumption))
               obtain ⟨ad171, e171, hx171_0, hx171_1, hx171_2, hx171_3⟩ := at_T45 HR0.out x35_2 p171 q171
               obtain rfl : ad169 = ad171 := (by injection e171)
               replace hx171_0 := (HB.out.cell (World.block_lt_of_cell? w _ hx171_0)).trans hx171_0
               replace hx171_1 := (HB.out.cell (World.block_lt_of_cell? w _ hx171_1)).trans hx171_1
               replace hx171_2 := (HB.out.cell (World.block_lt_of_cell? w _ hx171_2)).trans hx171_2
               replace hx171_3 := (HB.out.cell (World.block_lt_of_cell? w _ hx171_3)).trans hx171_3
               replace p171 := eq_true p171
               replace q171 := eq_true q171
               go_wp2_with (first | ((with_reducible refine gate_dst (N := 16) rfl ?_); refine box_event ?hg (N := 16) ?hd (cs := #[.int .i64 0, .int .i64 0, .int .i64 0, .int .i64 0]) (t := 45) ?hr ?_; (case hd => rfl); (case hg => rfl); (case hr => (go_simp; done)); intro gb172 hg w25 hbox hb; have n0_ := Aside0.mk (blk_below (g := gb170) (o := .cells #[.int .i64 ((rd_T45 l0 x29_1).f0), .int .i64 ((rd_T45 l0 x29_1).f1), .int .i64 ((rd_T45 l0 x29_1).f2), .int .i64 ((rd_T45 l0 x29_1).f3)] 45 (0, 0)) (by (with_reducible repeat (fail)); exact BK170.out) hb); have n1_ := Aside0.mk (below_step (by repeat ((with_reducible exact HB.out))) hb); have n2_ := Aside0.mk (hbox); have n3_ := Aside0.mk ((by rw [hg]; exact (below_size (by repeat ((with_reducible exact HB.out)))) : w.heap.size ≤ gb172)); have n4_ := Aside0.mk ((by rw [hg]; exact (below_size (by repeat ((with_reducible exact HB.out)))) : w.heap.size ≤ gb172)); have n5_ := Aside0.mk ((by rw [hg]; exact Nat.ne_of_lt (blk_lt (g := gb170) (o := .cells #[.int .i64 ((rd_T45 l0 x29_1).f0), .int .i64 ((rd_T45 l0 x29_1).f1), .int .i64 ((rd_T45 l0 x29_1).f2), .int .i64 ((rd_T45 l0 x29_1).f3)] 45 (0, 0)) (by (with_reducible repeat (fail)); exact BK170.out)) : gb170 ≠ gb172)); have n6_ := Aside0.mk ((by rw [hg]; exact Nat.ne_of_gt (blk_lt (g := gb170) (o := .cells #[.int .i64 ((rd_T45 l0 x29_1).f0), .int .i64 ((rd_T45 l0 x29_1).f1), .int .i64 ((rd_T45 l0 x29_1).f2), .int .i64 ((rd_T45 l0 x29_1).f3)] 45 (0, 0)) (by (with_reducible repeat (fail)); exact BK170.out)) : gb172 ≠ gb170)); clear BK170; clear HB; have BK170 := n0_; have HB := n1_; have BK172 := n2_; have GW172 := n3_; have GE172 := n4_; have NB170_172 := n5_; have NB172_170 := n6_; clear n0_ n1_ n2_ n3_ n4_ n5_ n6_; clear hb hbox hg; have hnb26 := NB172_170.out; have hnc26 := NB170_172.out; have hcz27_0 : w25.cell? ⟨gb172, 0, none⟩ = some (.int .i64 0) := (blk_cell BK172.out 0).trans rfl; have hcz27_1 : w25.cell? ⟨gb172, 1, none⟩ = some (.int .i64 0) := (blk_cell BK172.out 1).trans rfl; have hcz27_2 : w25.cell? ⟨gb172, 2, none⟩ = some (.int .i64 0) := (blk_cell BK172.out 2).trans rfl; have hcz27_3 : w25.cell? ⟨gb172, 3, none⟩ = some (.int .i64 0) := (blk_cell BK172.out 3).trans rfl; have hfz27_0 := blk_frozen BK172.out 0; have hfz27_1 := blk_frozen BK172.out 1; have hfz27_2 := blk_frozen BK172.out 2; have hfz27_3 := blk_frozen BK172.out 3; have hcz28_0 : w25.cell? ⟨gb170, 0, none⟩ = some (.int .i64 ((rd_T45 l0 x29_1).f0)) := (blk_cell BK170.out 0).trans rfl; have hcz28_1 : w25.cell? ⟨gb170, 1, none⟩ = some (.int .i64 ((rd_T45 l0 x29_1).f1)) := (blk_cell BK170.out 1).trans rfl; have hcz28_2 : w25.cell? ⟨gb170, 2, none⟩ = some (.int .i64 ((rd_T45 l0 x29_1).f2)) := (blk_cell BK170.out 2).trans rfl; have hcz28_3 : w25.cell? ⟨gb170, 3, none⟩ = some (.int .i64 ((rd_T45 l0 x29_1).f3)) := (blk_cell BK170.out 3).trans rfl; have hfz28_0 := blk_frozen BK170.out 0; have hfz28_1 := blk_frozen BK170.out 1; have hfz28_2 := blk_frozen BK170.out 2; have hfz28_3 := blk_frozen BK170.out 3) | (go_at_call 27; (with_reducible refine (shift_overfull.calls k2 _ _ l0 _ _ l1 ((rd_T45 l0 x35_2).f1) ((rd_T45 l0 x29_1).f2) false _ ?side1 ?side2 ?side3 ?side4 A16.out).mono ?_); (case side1 => exact Kd.C_below HR0.out (by repeat ((with_reducible first | exact HB.out | refine below_set ?_ GE172.out)))); (case side2 => exact HC0.out); (case side3 => exact Kd.C_below HR1.out (by repeat ((with_reducible first | exact HB.out | refine below_set ?_ GE172.out)))); (case side4 => exact HC1.out); rintro e w29 ⟨rfl, hb⟩; have n0_ := Aside0.mk (blk_below (g := gb170) (o := .cells #[.int .i64 ((rd_T45 l0 x29_1).f0), .int .i64 ((rd_T45 l0 x29_1).f1), .int .i64 ((rd_T45 l0 x29_1).f2), .int .i64 ((rd_T45 l0 x29_1).f3)] 45 (0, 0)) (by (with_reducible repeat (fail)); refine blk_far ?_ NB170_172.out _; (with_reducible repeat (fail)); refine blk_far ?_ NB170_172.out _; (with_reducible repeat (fail)); refine blk_far ?_ NB170_172.out _; (with_reducible repeat (fail)); refine blk_far ?_ NB170_172.out _; (with_reducible repeat (fail)); exact BK170.out) hb); have n1_ := Aside0.mk (blk_below (g := gb172) (o := .cells #[.int .i64 ((rd_T45 l0 x35_2).f0), .int .i64 ((rd_T45 l0 x35_2).f1), .int .i64 ((rd_T45 l0 x35_2).f2), .int .i64 ((rd_T45 l0 x35_2).f3)] 45 (0, 0)) (by (with_reducible repeat (fail)); refine blk_put (cs := #[.int .i64 ((rd_T45 l0 x35_2).f0), .int .i64 ((rd_T45 l0 x35_2).f1), .int .i64 ((rd_T45 l0 x35_2).f2), .int .i64 0]) ?_ 3 _ rfl; (with_reducible repeat (fail)); refine blk_put (cs := #[.int .i64 ((rd_T45 l0 x35_2).f0), .int .i64 ((rd_T45 l0 x35_2).f1), .int .i64 0, .int .i64 0]) ?_ 2 _ rfl; (with_reducible repeat (fail)); refine blk_put (cs := #[.int .i64 ((rd_T45 l0 x35_2).f0), .int .i64 0, .int .i64 0, .int .i64 0]) ?_ 1 _ rfl; (with_reducible repeat (fail)); refine blk_put (cs := #[.int .i64 0, .int .i64 0, .int .i64 0, .int .i64 0]) ?_ 0 _ rfl; (with_reducible repeat (fail)); exact BK172.out) hb); have n2_ := Aside0.mk (below_step (by repeat ((with_reducible first | exact HB.out | refine below_set ?_ GE172.out))) hb); clear BK170; clear BK172; clear HB; have BK170 := n0_; have BK172 := n1_; have HB := n2_; clear n0_ n1_ n2_; (try clear hb); (try clear hb2); (try clear hk); (try clear hi)))
               repeat (go_quiet (fail); try go_wp2_with (fail))
               go_roundg k2
               case measure => have := HK1.out; have := HK2.out; omega
               case rel => exact ⟨(x10_2), (x11_2), (true), (wrap64 (x35_2 + 1)), (by rfl), (by rfl), (by rfl), (by rfl), H', ⟨by have := HK1.out; have := HK2.out; omega⟩, ⟨by (with_reducible repeat (fail)); exact BK170.out⟩, ⟨by repeat ((with_reducible exact HB.out))⟩⟩
             ·rw [if_neg c15] at H
              have c15b0 : decide (((rd_T45 l0 x29_1).f2) < x11_2) = false := decide_eq_false c15
              clear c15
              by_cases c30 : ((rd_T45 l0 x29_1).f2) = x11_2
              ·rw [if_pos c30] at H
               have c30b0 : (((rd_T45 l0 x29_1).f2) == x11_2) = true := beq_iff_eq.mpr c30
               have c30b1 : (((rd_T45 l0 x29_1).f2) != x11_2) = false := bne_eq_false_iff_eq.mpr c30
               clear c30
               by_cases c31 : ((rd_T45 l0 x35_2).f1) > x10_2
               ·rw [if_pos c31] at H
                have c31b0 : decide (x10_2 < ((rd_T45 l0 x35_2).f1)) = true := decide_eq_true c31
                clear c31
                replace H := Option.bind_eq_some_iff.mp H
                obtain ⟨t174, A320, H⟩ := H
                replace H : (if t174 = true then (shift_Excess.l1 k2 l0 l1 ((rd_T45 l0 x35_2).f1) ((rd_T45 l0 x29_1).f2) true l0 (l0.length : Int) x29_1 l0 (l0.length : Int) (wrap64 (x35_2 + 1)) ((rd_T45 l0 x29_1).f0) ((rd_T45 l0 x29_1).f1) ((rd_T45 l0 x29_1).f2) ((rd_T45 l0 x29_1).f3)) else (shift_Excess.l1 k2 l0 l1 x10_2 x11_2 true l0 (l0.length : Int) x29_1 l0 (l0.length : Int) (wrap64 (x35_2 + 1)) ((rd_T45 l0 x29_1).f0) ((rd_T45 l0 x29_1).f1) ((rd_T45 l0 x29_1).f2) ((rd_T45 l0 x29_1).f3))) = some (r1, r2, r3, r4) := H
                have A32 := Aside0.mk A320
                clear A320
                by_cases c33 : t174 = true
                ·subst c33
                 have H1 : (shift_Excess.l1 k2 l0 l1 ((rd_T45 l0 x35_2).f1) ((rd_T45 l0 x29_1).f2) true l0 (l0.length : Int) x29_1 l0 (l0.length : Int) (wrap64 (x35_2 + 1)) ((rd_T45 l0 x29_1).f0) ((rd_T45 l0 x29_1).f1) ((rd_T45 l0 x29_1).f2) ((rd_T45 l0 x29_1).f3)) = some (r1, r2, r3, r4) := by rw [if_pos rfl] at H; exact H
                 clear H
                 have H := H1
                 clear H1
                 have H' := Aside0.mk H
                 clear H
                 have p171 : 0 ≤ (x35_2 : Int) := of_decide_eq_true (by (with_reducible assumption))
                 have q171 : x35_2 < (l0.length : Int) := of_decide_eq_true (by (with_reducible assumption))
                 obtain ⟨ad171, e171, hx171_0, hx171_1, hx171_2, hx171_3⟩ := at_T45 HR0.out x35_2 p171 q171
                 obtain rfl : ad169 = ad171 := (by injection e171)
                 replace hx171_0 := (HB.out.cell (World.block_lt_of_cell? w _ hx171_0)).trans hx171_0
                 replace hx171_1 := (HB.out.cell (World.block_lt_of_cell? w _ hx171_1)).trans hx171_1
                 replace hx171_2 := (HB.out.cell (World.block_lt_of_cell? w _ hx171_2)).trans hx171_2
                 replace hx171_3 := (HB.out.cell (World.block_lt_of_cell? w _ hx171_3)).trans hx171_3
                 replace p171 := eq_true p171
                 replace q171 := eq_true q171
                 go_wp2_with (first | ((with_reducible refine gate_dst (N := 16) rfl ?_); refine box_event ?hg (N := 16) ?hd (cs := #[.int .i64 0, .int .i64 0, .int .i64 0, .int .i64 0]) (t := 45) ?hr ?_; (case hd => rfl); (case hg => rfl); (case hr => (go_simp; done)); intro gb172 hg w34 hbox hb; have n0_ := Aside0.mk (blk_below (g := gb170) (o := .cells #[.int .i64 ((rd_T45 l0 x29_1).f0), .int .i64 ((rd_T45 l0 x29_1).f1), .int .i64 ((rd_T45 l0 x29_1).f2), .int .i64 ((rd_T45 l0 x29_1).f3)] 45 (0, 0)) (by (with_reducible repeat (fail)); exact BK170.out) hb); have n1_ := Aside0.mk (below_step (by repeat ((with_reducible exact HB.out))) hb); have n2_ := Aside0.mk (hbox); have n3_ := Aside0.mk ((by rw [hg]; exact (below_size (by repeat ((with_reducible exact HB.out)))) : w.heap.size ≤ gb172)); have n4_ := Aside0.mk ((by rw [hg]; exact (below_size (by repeat ((with_reducible exact HB.out)))) : w.heap.size ≤ gb172)); have n5_ := Aside0.mk ((by rw [hg]; exact Nat.ne_of_lt (blk_lt (g := gb170) (o := .cells #[.int .i64 ((rd_T45 l0 x29_1).f0), .int .i64 ((rd_T45 l0 x29_1).f1), .int .i64 ((rd_T45 l0 x29_1).f2), .int .i64 ((rd_T45 l0 x29_1).f3)] 45 (0, 0)) (by (with_reducible repeat (fail)); exact BK170.out)) : gb170 ≠ gb172)); have n6_ := Aside0.mk ((by rw [hg]; exact Nat.ne_of_gt (blk_lt (g := gb170) (o := .cells #[.int .i64 ((rd_T45 l0 x29_1).f0), .int .i64 ((rd_T45 l0 x29_1).f1), .int .i64 ((rd_T45 l0 x29_1).f2), .int .i64 ((rd_T45 l0 x29_1).f3)] 45 (0, 0)) (by (with_reducible repeat (fail)); exact BK170.out)) : gb172 ≠ gb170)); clear BK170; clear HB; have BK170 := n0_; have HB := n1_; have BK172 := n2_; have GW172 := n3_; have GE172 := n4_; have NB170_172 := n5_; have NB172_170 := n6_; clear n0_ n1_ n2_ n3_ n4_ n5_ n6_; clear hb hbox hg; have hnb35 := NB172_170.out; have hnc35 := NB170_172.out; have hcz36_0 : w34.cell? ⟨gb172, 0, none⟩ = some (.int .i64 0) := (blk_cell BK172.out 0).trans rfl; have hcz36_1 : w34.cell? ⟨gb172, 1, none⟩ = some (.int .i64 0) := (blk_cell BK172.out 1).trans rfl; have hcz36_2 : w34.cell? ⟨gb172, 2, none⟩ = some (.int .i64 0) := (blk_cell BK172.out 2).trans rfl; have hcz36_3 : w34.cell? ⟨gb172, 3, none⟩ = some (.int .i64 0) := (blk_cell BK172.out 3).trans rfl; have hfz36_0 := blk_frozen BK172.out 0; have hfz36_1 := blk_frozen BK172.out 1; have hfz36_2 := blk_frozen BK172.out 2; have hfz36_3 := blk_frozen BK172.out 3; have hcz37_0 : w34.cell? ⟨gb170, 0, none⟩ = some (.int .i64 ((rd_T45 l0 x29_1).f0)) := (blk_cell BK170.out 0).trans rfl; have hcz37_1 : w34.cell? ⟨gb170, 1, none⟩ = some (.int .i64 ((rd_T45 l0 x29_1).f1)) := (blk_cell BK170.out 1).trans rfl; have hcz37_2 : w34.cell? ⟨gb170, 2, none⟩ = some (.int .i64 ((rd_T45 l0 x29_1).f2)) := (blk_cell BK170.out 2).trans rfl; have hcz37_3 : w34.cell? ⟨gb170, 3, none⟩ = some (.int .i64 ((rd_T45 l0 x29_1).f3)) := (blk_cell BK170.out 3).trans rfl; have hfz37_0 := blk_frozen BK170.out 0; have hfz37_1 := blk_frozen BK170.out 1; have hfz37_2 := blk_frozen BK170.out 2; have hfz37_3 := blk_frozen BK170.out 3) | (go_at_call 27; (with_reducible refine (shift_overfull.calls k2 _ _ l0 _ _ l1 ((rd_T45 l0 x35_2).f1) ((rd_T45 l0 x29_1).f2) true _ ?side1 ?side2 ?side3 ?side4 A32.out).mono ?_); (case side1 => exact Kd.C_below HR0.out (by repeat ((with_reducible first | exact HB.out | refine below_set ?_ GE172.out)))); (case side2 => exact HC0.out); (case side3 => exact Kd.C_below HR1.out (by repeat ((with_reducible first | exact HB.out | refine below_set ?_ GE172.out)))); (case side4 => exact HC1.out); rintro e w38 ⟨rfl, hb⟩; have n0_ := Aside0.mk (blk_below (g := gb170) (o := .cells #[.int .i64 ((rd_T45 l0 x29_1).f0), .int .i64 ((rd_T45 l0 x29_1).f1), .int .i64 ((rd_T45 l0 x29_1).f2), .int .i64 ((rd_T45 l0 x29_1).f3)] 45 (0, 0)) (by (with_reducible repeat (fail)); refine blk_far ?_ NB170_172.out _; (with_reducible repeat (fail)); refine blk_far ?_ NB170_172.out _; (with_reducible repeat (fail)); refine blk_far ?_ NB170_172.out _; (with_reducible repeat (fail)); refine blk_far ?_ NB170_172.out _; (with_reducible repeat (fail)); exact BK170.out) hb); have n1_ := Aside0.mk (blk_below (g := gb172) (o := .cells #[.int .i64 ((rd_T45 l0 x35_2).f0), .int .i64 ((rd_T45 l0 x35_2).f1), .int .i64 ((rd_T45 l0 x35_2).f2), .int .i64 ((rd_T45 l0 x35_2).f3)] 45 (0, 0)) (by (with_reducible repeat (fail)); refine blk_put (cs := #[.int .i64 ((rd_T45 l0 x35_2).f0), .int .i64 ((rd_T45 l0 x35_2).f1), .int .i64 ((rd_T45 l0 x35_2).f2), .int .i64 0]) ?_ 3 _ rfl; (with_reducible repeat (fail)); refine blk_put (cs := #[.int .i64 ((rd_T45 l0 x35_2).f0), .int .i64 ((rd_T45 l0 x35_2).f1), .int .i64 0, .int .i64 0]) ?_ 2 _ rfl; (with_reducible repeat (fail)); refine blk_put (cs := #[.int .i64 ((rd_T45 l0 x35_2).f0), .int .i64 0, .int .i64 0, .int .i64 0]) ?_ 1 _ rfl; (with_reducible repeat (fail)); refine blk_put (cs := #[.int .i64 0, .int .i64 0, .int .i64 0, .int .i64 0]) ?_ 0 _ rfl; (with_reducible repeat (fail)); exact BK172.out) hb); have n2_ := Aside0.mk (below_step (by repeat ((with_reducible first | exact HB.out | refine below_set ?_ GE172.out))) hb); clear BK170; clear BK172; clear HB; have BK170 := n0_; have BK172 := n1_; have HB := n2_; clear n0_ n1_ n2_; (try clear hb); (try clear hb2); (try clear hk); (try clear hi); have hcz39_0 : w38.cell? ⟨gb172, 0, none⟩ = some (.int .i64 ((rd_T45 l0 x35_2).f0)) := (blk_cell BK172.out 0).trans rfl; have hcz39_1 : w38.cell? ⟨gb172, 1, none⟩ = some (.int .i64 ((rd_T45 l0 x35_2).f1)) := (blk_cell BK172.out 1).trans rfl; have hcz39_2 : w38.cell? ⟨gb172, 2, none⟩ = some (.int .i64 ((rd_T45 l0 x35_2).f2)) := (blk_cell BK172.out 2).trans rfl; have hcz39_3 : w38.cell? ⟨gb172, 3, none⟩ = some (.int .i64 ((rd_T45 l0 x35_2).f3)) := (blk_cell BK172.out 3).trans rfl; have hfz39_0 := blk_frozen BK172.out 0; have hfz39_1 := blk_frozen BK172.out 1; have hfz39_2 := blk_frozen BK172.out 2; have hfz39_3 := blk_frozen BK172.out 3; have hcz40_0 : w38.cell? ⟨gb170, 0, none⟩ = some (.int .i64 ((rd_T45 l0 x29_1).f0)) := (blk_cell BK170.out 0).trans rfl; have hcz40_1 : w38.cell? ⟨gb170, 1, none⟩ = some (.int .i64 ((rd_T45 l0 x29_1).f1)) := (blk_cell BK170.out 1).trans rfl; have hcz40_2 : w38.cell? ⟨gb170, 2, none⟩ = some (.int .i64 ((rd_T45 l0 x29_1).f2)) := (blk_cell BK170.out 2).trans rfl; have hcz40_3 : w38.cell? ⟨gb170, 3, none⟩ = some (.int .i64 ((rd_T45 l0 x29_1).f3)) := (blk_cell BK170.out 3).trans rfl; have hfz40_0 := blk_frozen BK170.out 0; have hfz40_1 := blk_frozen BK170.out 1; have hfz40_2 := blk_frozen BK170.out 2; have hfz40_3 := blk_frozen BK170.out 3))
                 repeat (go_quiet (fail); try go_wp2_with (fail))
                 go_roundg k2
                 case measure => have := HK1.out; have := HK2.out; omega
                 case rel => exact ⟨((rd_T45 l0 x35_2).f1), (((rd_T45 l0 x29_1).f2)), (true), (wrap64 (x35_2 + 1)), (by rfl), (by rfl), (by rfl), (by rfl), H', ⟨by have := HK1.out; have := HK2.out; omega⟩, ⟨by (with_reducible repeat (refine blk_drewN ?_ _)); exact BK170.out⟩, ⟨by repeat ((with_reducible first | exact HB.out | apply pw_below_drewN))⟩⟩
                ·replace c33 := Bool.eq_false_iff.mpr c33
                 subst c33
                 have H1 : (shift_Excess.l1 k2 l0 l1 x10_2 x11_2 true l0 (l0.length : Int) x29_1 l0 (l0.length : Int) (wrap64 (x35_2 + 1)) ((rd_T45 l0 x29_1).f0) ((rd_T45 l0 x29_1).f1) ((rd_T45 l0 x29_1).f2) ((rd_T45 l0 x29_1).f3)) = some (r1, r2, r3, r4) := by rw [if_neg (show ¬ (false = true) by decide)] at H; exact H
                 clear H
                 have H := H1
                 clear H1
                 have H' := Aside0.mk H
                 clear H
                 have p171 : 0 ≤ (x35_2 : Int) := of_decide_eq_true (by (with_reducible assumption))
                 have q171 : x35_2 < (l0.length : Int) := of_decide_eq_true (by (with_reducible assumption))
                 obtain ⟨ad171, e171, hx171_0, hx171_1, hx171_2, hx171_3⟩ := at_T45 HR0.out x35_2 p171 q171
                 obtain rfl : ad169 = ad171 := (by injection e171)
                 replace hx171_0 := (HB.out.cell (World.block_lt_of_cell? w _ hx171_0)).trans hx171_0
                 replace hx171_1 := (HB.out.cell (World.block_lt_of_cell? w _ hx171_1)).trans hx171_1
                 replace hx171_2 := (HB.out.cell (World.block_lt_of_cell? w _ hx171_2)).trans hx171_2
                 replace hx171_3 := (HB.out.cell (World.block_lt_of_cell? w _ hx171_3)).trans hx171_3
                 replace p171 := eq_true p171
                 replace q171 := eq_true q171
                 go_wp2_with (first | ((with_reducible refine gate_dst (N := 16) rfl ?_); refine box_event ?hg (N := 16) ?hd (cs := #[.int .i64 0, .int .i64 0, .int .i64 0, .int .i64 0]) (t := 45) ?hr ?_; (case hd => rfl); (case hg => rfl); (case hr => (go_simp; done)); intro gb172 hg w41 hbox hb; have n0_ := Aside0.mk (blk_below (g := gb170) (o := .cells #[.int .i64 ((rd_T45 l0 x29_1).f0), .int .i64 ((rd_T45 l0 x29_1).f1), .int .i64 ((rd_T45 l0 x29_1).f2), .int .i64 ((rd_T45 l0 x29_1).f3)] 45 (0, 0)) (by (with_reducible repeat (fail)); exact BK170.out) hb); have n1_ := Aside0.mk (below_step (by repeat ((with_reducible exact HB.out))) hb); have n2_ := Aside0.mk (hbox); have n3_ := Aside0.mk ((by rw [hg]; exact (below_size (by repeat ((with_reducible exact HB.out)))) : w.heap.size ≤ gb172)); have n4_ := Aside0.mk ((by rw [hg]; exact (below_size (by repeat ((with_reducible exact HB.out)))) : w.heap.size ≤ gb172)); have n5_ := Aside0.mk ((by rw [hg]; exact Nat.ne_of_lt (blk_lt (g := gb170) (o := .cells #[.int .i64 ((rd_T45 l0 x29_1).f0), .int .i64 ((rd_T45 l0 x29_1).f1), .int .i64 ((rd_T45 l0 x29_1).f2), .int .i64 ((rd_T45 l0 x29_1).f3)] 45 (0, 0)) (by (with_reducible repeat (fail)); exact BK170.out)) : gb170 ≠ gb172)); have n6_ := Aside0.mk ((by rw [hg]; exact Nat.ne_of_gt (blk_lt (g := gb170) (o := .cells #[.int .i64 ((rd_T45 l0 x29_1).f0), .int .i64 ((rd_T45 l0 x29_1).f1), .int .i64 ((rd_T45 l0 x29_1).f2), .int .i64 ((rd_T45 l0 x29_1).f3)] 45 (0, 0)) (by (with_reducible repeat (fail)); exact BK170.out)) : gb172 ≠ gb170)); clear BK170; clear HB; have BK170 := n0_; have HB := n1_; have BK172 := n2_; have GW172 := n3_; have GE172 := n4_; have NB170_172 := n5_; have NB172_170 := n6_; clear n0_ n1_ n2_ n3_ n4_ n5_ n6_; clear hb hbox hg; have hnb42 := NB172_170.out; have hnc42 := NB170_172.out; have hcz43_0 : w41.cell? ⟨gb172, 0, none⟩ = some (.int .i64 0) := (blk_cell BK172.out 0).trans rfl; have hcz43_1 : w41.cell? ⟨gb172, 1, none⟩ = some (.int .i64 0) := (blk_cell BK172.out 1).trans rfl; have hcz43_2 : w41.cell? ⟨gb172, 2, none⟩ = some (.int .i64 0) := (blk_cell BK172.out 2).trans rfl; have hcz43_3 : w41.cell? ⟨gb172, 3, none⟩ = some (.int .i64 0) := (blk_cell BK172.out 3).trans rfl; have hfz43_0 := blk_frozen BK172.out 0; have hfz43_1 := blk_frozen BK172.out 1; have hfz43_2 := blk_frozen BK172.out 2; have hfz43_3 := blk_frozen BK172.out 3; have hcz44_0 : w41.cell? ⟨gb170, 0, none⟩ = some (.int .i64 ((rd_T45 l0 x29_1).f0)) := (blk_cell BK170.out 0).trans rfl; have hcz44_1 : w41.cell? ⟨gb170, 1, none⟩ = some (.int .i64 ((rd_T45 l0 x29_1).f1)) := (blk_cell BK170.out 1).trans rfl; have hcz44_2 : w41.cell? ⟨gb170, 2, none⟩ = some (.int .i64 ((rd_T45 l0 x29_1).f2)) := (blk_cell BK170.out 2).trans rfl; have hcz44_3 : w41.cell? ⟨gb170, 3, none⟩ = some (.int .i64 ((rd_T45 l0 x29_1).f3)) := (blk_cell BK170.out 3).trans rfl; have hfz44_0 := blk_frozen BK170.out 0; have hfz44_1 := blk_frozen BK170.out 1; have hfz44_2 := blk_frozen BK170.out 2; have hfz44_3 := blk_frozen BK170.out 3) | (go_at_call 27; (with_reducible refine (shift_overfull.calls k2 _ _ l0 _ _ l1 ((rd_T45 l0 x35_2).f1) ((rd_T45 l0 x29_1).f2) false _ ?side1 ?side2 ?side3 ?side4 A32.out).mono ?_); (case side1 => exact Kd.C_below HR0.out (by repeat ((with_reducible first | exact HB.out | refine below_set ?_ GE172.out)))); (case side2 => exact HC0.out); (case side3 => exact Kd.C_below HR1.out (by repeat ((with_reducible first | exact HB.out | refine below_set ?_ GE172.out)))); (case side4 => exact HC1.out); rintro e w45 ⟨rfl, hb⟩; have n0_ := Aside0.mk (blk_below (g := gb170) (o := .cells #[.int .i64 ((rd_T45 l0 x29_1).f0), .int .i64 ((rd_T45 l0 x29_1).f1), .int .i64 ((rd_T45 l0 x29_1).f2), .int .i64 ((rd_T45 l0 x29_1).f3)] 45 (0, 0)) (by (with_reducible repeat (fail)); refine blk_far ?_ NB170_172.out _; (with_reducible repeat (fail)); refine blk_far ?_ NB170_172.out _; (with_reducible repeat (fail)); refine blk_far ?_ NB170_172.out _; (with_reducible repeat (fail)); refine blk_far ?_ NB170_172.out _; (with_reducible repeat (fail)); exact BK170.out) hb); have n1_ := Aside0.mk (blk_below (g := gb172) (o := .cells #[.int .i64 ((rd_T45 l0 x35_2).f0), .int .i64 ((rd_T45 l0 x35_2).f1), .int .i64 ((rd_T45 l0 x35_2).f2), .int .i64 ((rd_T45 l0 x35_2).f3)] 45 (0, 0)) (by (with_reducible repeat (fail)); refine blk_put (cs := #[.int .i64 ((rd_T45 l0 x35_2).f0), .int .i64 ((rd_T45 l0 x35_2).f1), .int .i64 ((rd_T45 l0 x35_2).f2), .int .i64 0]) ?_ 3 _ rfl; (with_reducible repeat (fail)); refine blk_put (cs := #[.int .i64 ((rd_T45 l0 x35_2).f0), .int .i64 ((rd_T45 l0 x35_2).f1), .int .i64 0, .int .i64 0]) ?_ 2 _ rfl; (with_reducible repeat (fail)); refine blk_put (cs := #[.int .i64 ((rd_T45 l0 x35_2).f0), .int .i64 0, .int .i64 0, .int .i64 0]) ?_ 1 _ rfl; (with_reducible repeat (fail)); refine blk_put (cs := #[.int .i64 0, .int .i64 0, .int .i64 0, .int .i64 0]) ?_ 0 _ rfl; (with_reducible repeat (fail)); exact BK172.out) hb); have n2_ := Aside0.mk (below_step (by repeat ((with_reducible first | exact HB.out | refine below_set ?_ GE172.out))) hb); clear BK170; clear BK172; clear HB; have BK170 := n0_; have BK172 := n1_; have HB := n2_; clear n0_ n1_ n2_; (try clear hb); (try clear hb2); (try clear hk); (try clear hi)))
                 repeat (go_quiet (fail); try go_wp2_with (fail))
                 go_roundg k2
                 case measure => have := HK1.out; have := HK2.out; omega
                 case rel => exact ⟨(x10_2), (x11_2), (true), (wrap64 (x35_2 + 1)), (by rfl), (by rfl), (by rfl), (by rfl), H', ⟨by have := HK1.out; have := HK2.out; omega⟩, ⟨by (with_reducible repeat (fail)); exact BK170.out⟩, ⟨by repeat ((with_reducible exact HB.out))⟩⟩
               ·rw [if_neg c31] at H
                have c31b0 : decide (x10_2 < ((rd_T45 l0 x35_2).f1)) = false := decide_eq_false c31
                clear c31
                have H' := Aside0.mk H
                clear H
                have p171 : 0 ≤ (x35_2 : Int) := of_decide_eq_true (by (with_reducible assumption))
                have q171 : x35_2 < (l0.length : Int) := of_decide_eq_true (by (with_reducible assumption))
                obtain ⟨ad171, e171, hx171_0, hx171_1, hx171_2, hx171_3⟩ := at_T45 HR0.out x35_2 p171 q171
                obtain rfl : ad169 = ad171 := (by injection e171)
                replace hx171_0 := (HB.out.cell (World.block_lt_of_cell? w _ hx171_0)).trans hx171_0
                replace hx171_1 := (HB.out.cell (World.block_lt_of_cell? w _ hx171_1)).trans hx171_1
                replace hx171_2 := (HB.out.cell (World.block_lt_of_cell? w _ hx171_2)).trans hx171_2
                replace hx171_3 := (HB.out.cell (World.block_lt_of_cell? w _ hx171_3)).trans hx171_3
                replace p171 := eq_true p171
                replace q171 := eq_true q171
                go_wp2_with (((with_reducible refine gate_dst (N := 16) rfl ?_); refine box_event ?hg (N := 16) ?hd (cs := #[.int .i64 0, .int .i64 0, .int .i64 0, .int .i64 0]) (t := 45) ?hr ?_; (case hd => rfl); (case hg => rfl); (case hr => (go_simp; done)); intro gb172 hg w46 hbox hb; have n0_ := Aside0.mk (blk_below (g := gb170) (o := .cells #[.int .i64 ((rd_T45 l0 x29_1).f0), .int .i64 ((rd_T45 l0 x29_1).f1), .int .i64 ((rd_T45 l0 x29_1).f2), .int .i64 ((rd_T45 l0 x29_1).f3)] 45 (0, 0)) (by (with_reducible repeat (fail)); exact BK170.out) hb); have n1_ := Aside0.mk (below_step (by repeat ((with_reducible exact HB.out))) hb); have n2_ := Aside0.mk (hbox); have n3_ := Aside0.mk ((by rw [hg]; exact (below_size (by repeat ((with_reducible exact HB.out)))) : w.heap.size ≤ gb172)); have n4_ := Aside0.mk ((by rw [hg]; exact (below_size (by repeat ((with_reducible exact HB.out)))) : w.heap.size ≤ gb172)); have n5_ := Aside0.mk ((by rw [hg]; exact Nat.ne_of_lt (blk_lt (g := gb170) (o := .cells #[.int .i64 ((rd_T45 l0 x29_1).f0), .int .i64 ((rd_T45 l0 x29_1).f1), .int .i64 ((rd_T45 l0 x29_1).f2), .int .i64 ((rd_T45 l0 x29_1).f3)] 45 (0, 0)) (by (with_reducible repeat (fail)); exact BK170.out)) : gb170 ≠ gb172)); have n6_ := Aside0.mk ((by rw [hg]; exact Nat.ne_of_gt (blk_lt (g := gb170) (o := .cells #[.int .i64 ((rd_T45 l0 x29_1).f0), .int .i64 ((rd_T45 l0 x29_1).f1), .int .i64 ((rd_T45 l0 x29_1).f2), .int .i64 ((rd_T45 l0 x29_1).f3)] 45 (0, 0)) (by (with_reducible repeat (fail)); exact BK170.out)) : gb172 ≠ gb170)); clear BK170; clear HB; have BK170 := n0_; have HB := n1_; have BK172 := n2_; have GW172 := n3_; have GE172 := n4_; have NB170_172 := n5_; have NB172_170 := n6_; clear n0_ n1_ n2_ n3_ n4_ n5_ n6_; clear hb hbox hg; have hnb47 := NB172_170.out; have hnc47 := NB170_172.out; have hcz48_0 : w46.cell? ⟨gb172, 0, none⟩ = some (.int .i64 0) := (blk_cell BK172.out 0).trans rfl; have hcz48_1 : w46.cell? ⟨gb172, 1, none⟩ = some (.int .i64 0) := (blk_cell BK172.out 1).trans rfl; have hcz48_2 : w46.cell? ⟨gb172, 2, none⟩ = some (.int .i64 0) := (blk_cell BK172.out 2).trans rfl; have hcz48_3 : w46.cell? ⟨gb172, 3, none⟩ = some (.int .i64 0) := (blk_cell BK172.out 3).trans rfl; have hfz48_0 := blk_frozen BK172.out 0; have hfz48_1 := blk_frozen BK172.out 1; have hfz48_2 := blk_frozen BK172.out 2; have hfz48_3 := blk_frozen BK172.out 3; have hcz49_0 : w46.cell? ⟨gb170, 0, none⟩ = some (.int .i64 ((rd_T45 l0 x29_1).f0)) := (blk_cell BK170.out 0).trans rfl; have hcz49_1 : w46.cell? ⟨gb170, 1, none⟩ = some (.int .i64 ((rd_T45 l0 x29_1).f1)) := (blk_cell BK170.out 1).trans rfl; have hcz49_2 : w46.cell? ⟨gb170, 2, none⟩ = some (.int .i64 ((rd_T45 l0 x29_1).f2)) := (blk_cell BK170.out 2).trans rfl; have hcz49_3 : w46.cell? ⟨gb170, 3, none⟩ = some (.int .i64 ((rd_T45 l0 x29_1).f3)) := (blk_cell BK170.out 3).trans rfl; have hfz49_0 := blk_frozen BK170.out 0; have hfz49_1 := blk_frozen BK170.out 1; have hfz49_2 := blk_frozen BK170.out 2; have hfz49_3 := blk_frozen BK170.out 3))
                repeat (go_quiet (fail); try go_wp2_with (fail))
                go_roundg k2
                case measure => have := HK1.out; have := HK2.out; omega
                case rel => exact ⟨(x10_2), (x11_2), (true), (wrap64 (x35_2 + 1)), (by rfl), (by rfl), (by rfl), (by rfl), H', ⟨by have := HK1.out; have := HK2.out; omega⟩, ⟨by (with_reducible repeat (fail)); refine blk_far ?_ NB170_172.out _; (with_reducible repeat (fail)); refine blk_far ?_ NB170_172.out _; (with_reducible repeat (fail)); refine blk_far ?_ NB170_172.out _; (with_reducible repeat (fail)); refine blk_far ?_ NB170_172.out _; (with_reducible repeat (fail)); exact BK170.out⟩, ⟨by repeat ((with_reducible first | exact HB.out | refine below_set ?_ GE172.out))⟩⟩
              ·rw [if_neg c30] at H
               have c30b0 : (((rd_T45 l0 x29_1).f2) == x11_2) = false := beq_eq_false_iff_ne.mpr c30
               have c30b1 : (((rd_T45 l0 x29_1).f2) != x11_2) = true := bne_iff_ne.mpr c30
               have H' := Aside0.mk H
               clear H
               have p171 : 0 ≤ (x35_2 : Int) := of_decide_eq_true (by (with_reducible assumption))
               have q171 : x35_2 < (l0.length : Int) := of_decide_eq_true (by (with_reducible assumption))
               obtain ⟨ad171, e171, hx171_0, hx171_1, hx171_2, hx171_3⟩ := at_T45 HR0.out x35_2 p171 q171
               obtain rfl : ad169 = ad171 := (by injection e171)
               replace hx171_0 := (HB.out.cell (World.block_lt_of_cell? w _ hx171_0)).trans hx171_0
               replace hx171_1 := (HB.out.cell (World.block_lt_of_cell? w _ hx171_1)).trans hx171_1
               replace hx171_2 := (HB.out.cell (World.block_lt_of_cell? w _ hx171_2)).trans hx171_2
               replace hx171_3 := (HB.out.cell (World.block_lt_of_cell? w _ hx171_3)).trans hx171_3
               replace p171 := eq_true p171
               replace q171 := eq_true q171
               go_wp2_with (((with_reducible refine gate_dst (N := 16) rfl ?_); refine box_event ?hg (N := 16) ?hd (cs := #[.int .i64 0, .int .i64 0, .int .i64 0, .int .i64 0]) (t := 45) ?hr ?_; (case hd => rfl); (case hg => rfl); (case hr => (go_simp; done)); intro gb172 hg w50 hbox hb; have n0_ := Aside0.mk (blk_below (g := gb170) (o := .cells #[.int .i64 ((rd_T45 l0 x29_1).f0), .int .i64 ((rd_T45 l0 x29_1).f1), .int .i64 ((rd_T45 l0 x29_1).f2), .int .i64 ((rd_T45 l0 x29_1).f3)] 45 (0, 0)) (by (with_reducible repeat (fail)); exact BK170.out) hb); have n1_ := Aside0.mk (below_step (by repeat ((with_reducible exact HB.out))) hb); have n2_ := Aside0.mk (hbox); have n3_ := Aside0.mk ((by rw [hg]; exact (below_size (by repeat ((with_reducible exact HB.out)))) : w.heap.size ≤ gb172)); have n4_ := Aside0.mk ((by rw [hg]; exact (below_size (by repeat ((with_reducible exact HB.out)))) : w.heap.size ≤ gb172)); have n5_ := Aside0.mk ((by rw [hg]; exact Nat.ne_of_lt (blk_lt (g := gb170) (o := .cells #[.int .i64 ((rd_T45 l0 x29_1).f0), .int .i64 ((rd_T45 l0 x29_1).f1), .int .i64 ((rd_T45 l0 x29_1).f2), .int .i64 ((rd_T45 l0 x29_1).f3)] 45 (0, 0)) (by (with_reducible repeat (fail)); exact BK170.out)) : gb170 ≠ gb172)); have n6_ := Aside0.mk ((by rw [hg]; exact Nat.ne_of_gt (blk_lt (g := gb170) (o := .cells #[.int .i64 ((rd_T45 l0 x29_1).f0), .int .i64 ((rd_T45 l0 x29_1).f1), .int .i64 ((rd_T45 l0 x29_1).f2), .int .i64 ((rd_T45 l0 x29_1).f3)] 45 (0, 0)) (by (with_reducible repeat (fail)); exact BK170.out)) : gb172 ≠ gb170)); clear BK170; clear HB; have BK170 := n0_; have HB := n1_; have BK172 := n2_; have GW172 := n3_; have GE172 := n4_; have NB170_172 := n5_; have NB172_170 := n6_; clear n0_ n1_ n2_ n3_ n4_ n5_ n6_; clear hb hbox hg; have hnb51 := NB172_170.out; have hnc51 := NB170_172.out; have hcz52_0 : w50.cell? ⟨gb172, 0, none⟩ = some (.int .i64 0) := (blk_cell BK172.out 0).trans rfl; have hcz52_1 : w50.cell? ⟨gb172, 1, none⟩ = some (.int .i64 0) := (blk_cell BK172.out 1).trans rfl; have hcz52_2 : w50.cell? ⟨gb172, 2, none⟩ = some (.int .i64 0) := (blk_cell BK172.out 2).trans rfl; have hcz52_3 : w50.cell? ⟨gb172, 3, none⟩ = some (.int .i64 0) := (blk_cell BK172.out 3).trans rfl; have hfz52_0 := blk_frozen BK172.out 0; have hfz52_1 := blk_frozen BK172.out 1; have hfz52_2 := blk_frozen BK172.out 2; have hfz52_3 := blk_frozen BK172.out 3; have hcz53_0 : w50.cell? ⟨gb170, 0, none⟩ = some (.int .i64 ((rd_T45 l0 x29_1).f0)) := (blk_cell BK170.out 0).trans rfl; have hcz53_1 : w50.cell? ⟨gb170, 1, none⟩ = some (.int .i64 ((rd_T45 l0 x29_1).f1)) := (blk_cell BK170.out 1).trans rfl; have hcz53_2 : w50.cell? ⟨gb170, 2, none⟩ = some (.int .i64 ((rd_T45 l0 x29_1).f2)) := (blk_cell BK170.out 2).trans rfl; have hcz53_3 : w50.cell? ⟨gb170, 3, none⟩ = some (.int .i64 ((rd_T45 l0 x29_1).f3)) := (blk_cell BK170.out 3).trans rfl; have hfz53_0 := blk_frozen BK170.out 0; have hfz53_1 := blk_frozen BK170.out 1; have hfz53_2 := blk_frozen BK170.out 2; have hfz53_3 := blk_frozen BK170.out 3))
               repeat (go_quiet (fail); try go_wp2_with (fail))
               go_roundg k2
               case measure => have := HK1.out; have := HK2.out; omega
               case rel => exact ⟨(x10_2), (x11_2), (true), (wrap64 (x35_2 + 1)), (by rfl), (by rfl), (by rfl), (by rfl), H', ⟨by have := HK1.out; have := HK2.out; omega⟩, ⟨by (with_reducible repeat (fail)); refine blk_far ?_ NB170_172.out _; (with_reducible repeat (fail)); refine blk_far ?_ NB170_172.out _; (with_reducible repeat (fail)); refine blk_far ?_ NB170_172.out _; (with_reducible repeat (fail)); refine blk_far ?_ NB170_172.out _; (with_reducible repeat (fail)); exact BK170.out⟩, ⟨by repeat ((with_reducible first | exact HB.out | refine below_set ?_ GE172.out))⟩⟩
            ·replace c14 := Bool.eq_false_iff.mpr c14
             subst c14
             have H1 : ((shift_overfull.f k2 l0 l1 ((rd_T45 l0 x35_2).f1) ((rd_T45 l0 x29_1).f2)).bind fun t175 => (if t175 = true then (shift_Excess.l1 k2 l0 l1 ((rd_T45 l0 x35_2).f1) ((rd_T45 l0 x29_1).f2) true l0 (l0.length : Int) x29_1 l0 (l0.length : Int) (wrap64 (x35_2 + 1)) ((rd_T45 l0 x29_1).f0) ((rd_T45 l0 x29_1).f1) ((rd_T45 l0 x29_1).f2) ((rd_T45 l0 x29_1).f3)) else (shift_Excess.l1 k2 l0 l1 x10_2 x11_2 false l0 (l0.length : Int) x29_1 l0 (l0.length : Int) (wrap64 (x35_2 + 1)) ((rd_T45 l0 x29_1).f0) ((rd_T45 l0 x29_1).f1) ((rd_T45 l0 x29_1).f2) ((rd_T45 l0 x29_1).f3)))) = some (r1, r2, r3, r4) := by rw [if_neg (show ¬ (false = true) by decide)] at H; exact H
             clear H
             have H := H1
             clear H1
             replace H := Option.bind_eq_some_iff.mp H
             obtain ⟨t175, A540, H⟩ := H
             replace H : (if t175 = true then (shift_Excess.l1 k2 l0 l1 ((rd_T45 l0 x35_2).f1) ((rd_T45 l0 x29_1).f2) true l0 (l0.length : Int) x29_1 l0 (l0.length : Int) (wrap64 (x35_2 + 1)) ((rd_T45 l0 x29_1).f0) ((rd_T45 l0 x29_1).f1) ((rd_T45 l0 x29_1).f2) ((rd_T45 l0 x29_1).f3)) else (shift_Excess.l1 k2 l0 l1 x10_2 x11_2 false l0 (l0.length : Int) x29_1 l0 (l0.length : Int) (wrap64 (x35_2 + 1)) ((rd_T45 l0 x29_1).f0) ((rd_T45 l0 x29_1).f1) ((rd_T45 l0 x29_1).f2) ((rd_T45 l0 x29_1).f3))) = some (r1, r2, r3, r4) := H
             have A54 := Aside0.mk A540
             clear A540
             by_cases c55 : t175 = true
             ·subst c55
              have H1 : (shift_Excess.l1 k2 l0 l1 ((rd_T45 l0 x35_2).f1) ((rd_T45 l0 x29_1).f2) true l0 (l0.length : Int) x29_1 l0 (l0.length : Int) (wrap64 (x35_2 + 1)) ((rd_T45 l0 x29_1).f0) ((rd_T45 l0 x29_1).f1) ((rd_T45 l0 x29_1).f2) ((rd_T45 l0 x29_1).f3)) = some (r1, r2, r3, r4) := by rw [if_pos rfl] at H; exact H
              clear H
              have H := H1
              clear H1
              have H' := Aside0.mk H
              clear H
              have p171 : 0 ≤ (x35_2 : Int) := of_decide_eq_true (by (with_reducible assumption))
              have q171 : x35_2 < (l0.length : Int) := of_decide_eq_true (by (with_reducible assumption))
              obtain ⟨ad171, e171, hx171_0, hx171_1, hx171_2, hx171_3⟩ := at_T45 HR0.out x35_2 p171 q171
              obtain rfl : ad169 = ad171 := (by injection e171)
              replace hx171_0 := (HB.out.cell (World.block_lt_of_cell? w _ hx171_0)).trans hx171_0
              replace hx171_1 := (HB.out.cell (World.block_lt_of_cell? w _ hx171_1)).trans hx171_1
              replace hx171_2 := (HB.out.cell (World.block_lt_of_cell? w _ hx171_2)).trans hx171_2
              replace hx171_3 := (HB.out.cell (World.block_lt_of_cell? w _ hx171_3)).trans hx171_3
              replace p171 := eq_true p171
              replace q171 := eq_true q171
              go_wp2_with (first | ((with_reducible refine gate_dst (N := 16) rfl ?_); refine box_event ?hg (N := 16) ?hd (cs := #[.int .i64 0, .int .i64 0, .int .i64 0, .int .i64 0]) (t := 45) ?hr ?_; (case hd => rfl); (case hg => rfl); (case hr => (go_simp; done)); intro gb172 hg w56 hbox hb; have n0_ := Aside0.mk (blk_below (g := gb170) (o := .cells #[.int .i64 ((rd_T45 l0 x29_1).f0), .int .i64 ((rd_T45 l0 x29_1).f1), .int .i64 ((rd_T45 l0 x29_1).f2), .int .i64 ((rd_T45 l0 x29_1).f3)] 45 (0, 0)) (by (with_reducible repeat (fail)); exact BK170.out) hb); have n1_ := Aside0.mk (below_step (by repeat ((with_reducible exact HB.out))) hb); have n2_ := Aside0.mk (hbox); have n3_ := Aside0.mk ((by rw [hg]; exact (below_size (by repeat ((with_reducible exact HB.out)))) : w.heap.size ≤ gb172)); have n4_ := Aside0.mk ((by rw [hg]; exact (below_size (by repeat ((with_reducible exact HB.out)))) : w.heap.size ≤ gb172)); have n5_ := Aside0.mk ((by rw [hg]; exact Nat.ne_of_lt (blk_lt (g := gb170) (o := .cells #[.int .i64 ((rd_T45 l0 x29_1).f0), .int .i64 ((rd_T45 l0 x29_1).f1), .int .i64 ((rd_T45 l0 x29_1).f2), .int .i64 ((rd_T45 l0 x29_1).f3)] 45 (0, 0)) (by (with_reducible repeat (fail)); exact BK170.out)) : gb170 ≠ gb172)); have n6_ := Aside0.mk ((by rw [hg]; exact Nat.ne_of_gt (blk_lt (g := gb170) (o := .cells #[.int .i64 ((rd_T45 l0 x29_1).f0), .int .i64 ((rd_T45 l0 x29_1).f1), .int .i64 ((rd_T45 l0 x29_1).f2), .int .i64 ((rd_T45 l0 x29_1).f3)] 45 (0, 0)) (by (with_reducible repeat (fail)); exact BK170.out)) : gb172 ≠ gb170)); clear BK170; clear HB; have BK170 := n0_; have HB := n1_; have BK172 := n2_; have GW172 := n3_; have GE172 := n4_; have NB170_172 := n5_; have NB172_170 := n6_; clear n0_ n1_ n2_ n3_ n4_ n5_ n6_; clear hb hbox hg; have hnb57 := NB172_170.out; have hnc57 := NB170_172.out; have hcz58_0 : w56.cell? ⟨gb172, 0, none⟩ = some (.int .i64 0) := (blk_cell BK172.out 0).trans rfl; have hcz58_1 : w56.cell? ⟨gb172, 1, none⟩ = some (.int .i64 0) := (blk_cell BK172.out 1).trans rfl; have hcz58_2 : w56.cell? ⟨gb172, 2, none⟩ = some (.int .i64 0) := (blk_cell BK172.out 2).trans rfl; have hcz58_3 : w56.cell? ⟨gb172, 3, none⟩ = some (.int .i64 0) := (blk_cell BK172.out 3).trans rfl; have hfz58_0 := blk_frozen BK172.out 0; have hfz58_1 := blk_frozen BK172.out 1; have hfz58_2 := blk_frozen BK172.out 2; have hfz58_3 := blk_frozen BK172.out 3; have hcz59_0 : w56.cell? ⟨gb170, 0, none⟩ = some (.int .i64 ((rd_T45 l0 x29_1).f0)) := (blk_cell BK170.out 0).trans rfl; have hcz59_1 : w56.cell? ⟨gb170, 1, none⟩ = some (.int .i64 ((rd_T45 l0 x29_1).f1)) := (blk_cell BK170.out 1).trans rfl; have hcz59_2 : w56.cell? ⟨gb170, 2, none⟩ = some (.int .i64 ((rd_T45 l0 x29_1).f2)) := (blk_cell BK170.out 2).trans rfl; have hcz59_3 : w56.cell? ⟨gb170, 3, none⟩ = some (.int .i64 ((rd_T45 l0 x29_1).f3)) := (blk_cell BK170.out 3).trans rfl; have hfz59_0 := blk_frozen BK170.out 0; have hfz59_1 := blk_frozen BK170.out 1; have hfz59_2 := blk_frozen BK170.out 2; have hfz59_3 := blk_frozen BK170.out 3) | (go_at_call 27; (with_reducible refine (shift_overfull.calls k2 _ _ l0 _ _ l1 ((rd_T45 l0 x35_2).f1) ((rd_T45 l0 x29_1).f2) true _ ?side1 ?side2 ?side3 ?side4 A54.out).mono ?_); (case side1 => exact Kd.C_below HR0.out (by repeat ((with_reducible first | exact HB.out | refine below_set ?_ GE172.out)))); (case side2 => exact HC0.out); (case side3 => exact Kd.C_below HR1.out (by repeat ((with_reducible first | exact HB.out | refine below_set ?_ GE172.out)))); (case side4 => exact HC1.out); rintro e w60 ⟨rfl, hb⟩; have n0_ := Aside0.mk (blk_below (g := gb170) (o := .cells #[.int .i64 ((rd_T45 l0 x29_1).f0), .int .i64 ((rd_T45 l0 x29_1).f1), .int .i64 ((rd_T45 l0 x29_1).f2), .int .i64 ((rd_T45 l0 x29_1).f3)] 45 (0, 0)) (by (with_reducible repeat (fail)); refine blk_far ?_ NB170_172.out _; (with_reducible repeat (fail)); refine blk_far ?_ NB170_172.out _; (with_reducible repeat (fail)); refine blk_far ?_ NB170_172.out _; (with_reducible repeat (fail)); refine blk_far ?_ NB170_172.out _; (with_reducible repeat (fail)); exact BK170.out) hb); have n1_ := Aside0.mk (blk_below (g := gb172) (o := .cells #[.int .i64 ((rd_T45 l0 x35_2).f0), .int .i64 ((rd_T45 l0 x35_2).f1), .int .i64 ((rd_T45 l0 x35_2).f2), .int .i64 ((rd_T45 l0 x35_2).f3)] 45 (0, 0)) (by (with_reducible repeat (fail)); refine blk_put (cs := #[.int .i64 ((rd_T45 l0 x35_2).f0), .int .i64 ((rd_T45 l0 x35_2).f1), .int .i64 ((rd_T45 l0 x35_2).f2), .int .i64 0]) ?_ 3 _ rfl; (with_reducible repeat (fail)); refine blk_put (cs := #[.int .i64 ((rd_T45 l0 x35_2).f0), .int .i64 ((rd_T45 l0 x35_2).f1), .int .i64 0, .int .i64 0]) ?_ 2 _ rfl; (with_reducible repeat (fail)); refine blk_put (cs := #[.int .i64 ((rd_T45 l0 x35_2).f0), .int .i64 0, .int .i64 0, .int .i64 0]) ?_ 1 _ rfl; (with_reducible repeat (fail)); refine blk_put (cs := #[.int .i64 0, .int .i64 0, .int .i64 0, .int .i64 0]) ?_ 0 _ rfl; (with_reducible repeat (fail)); exact BK172.out) hb); have n2_ := Aside0.mk (below_step (by repeat ((with_reducible first | exact HB.out | refine below_set ?_ GE172.out))) hb); clear BK170; clear BK172; clear HB; have BK170 := n0_; have BK172 := n1_; have HB := n2_; clear n0_ n1_ n2_; (try clear hb); (try clear hb2); (try clear hk); (try clear hi); have hcz61_0 : w60.cell? ⟨gb172, 0, none⟩ = some (.int .i64 ((rd_T45 l0 x35_2).f0)) := (blk_cell BK172.out 0).trans rfl; have hcz61_1 : w60.cell? ⟨gb172, 1, none⟩ = some (.int .i64 ((rd_T45 l0 x35_2).f1)) := (blk_cell BK172.out 1).trans rfl; have hcz61_2 : w60.cell? ⟨gb172, 2, none⟩ = some (.int .i64 ((rd_T45 l0 x35_2).f2)) := (blk_cell BK172.out 2).trans rfl; have hcz61_3 : w60.cell? ⟨gb172, 3, none⟩ = some (.int .i64 ((rd_T45 l0 x35_2).f3)) := (blk_cell BK172.out 3).trans rfl; have hfz61_0 := blk_frozen BK172.out 0; have hfz61_1 := blk_frozen BK172.out 1; have hfz61_2 := blk_frozen BK172.out 2; have hfz61_3 := blk_frozen BK172.out 3; have hcz62_0 : w60.cell? ⟨gb170, 0, none⟩ = some (.int .i64 ((rd_T45 l0 x29_1).f0)) := (blk_cell BK170.out 0).trans rfl; have hcz62_1 : w60.cell? ⟨gb170, 1, none⟩ = some (.int .i64 ((rd_T45 l0 x29_1).f1)) := (blk_cell BK170.out 1).trans rfl; have hcz62_2 : w60.cell? ⟨gb170, 2, none⟩ = some (.int .i64 ((rd_T45 l0 x29_1).f2)) := (blk_cell BK170.out 2).trans rfl; have hcz62_3 : w60.cell? ⟨gb170, 3, none⟩ = some (.int .i64 ((rd_T45 l0 x29_1).f3)) := (blk_cell BK170.out 3).trans rfl; have hfz62_0 := blk_frozen BK170.out 0; have hfz62_1 := blk_frozen BK170.out 1; have hfz62_2 := blk_frozen BK170.out 2; have hfz62_3 := blk_frozen BK170.out 3))
              repeat (go_quiet (fail); try go_wp2_with (fail))
              go_roundg k2
              case measure => have := HK1.out; have := HK2.out; omega
              case rel => exact ⟨((rd_T45 l0 x35_2).f1), (((rd_T45 l0 x29_1).f2)), (true), (wrap64 (x35_2 + 1)), (by rfl), (by rfl), (by rfl), (by rfl), H', ⟨by have := HK1.out; have := HK2.out; omega⟩, ⟨by (with_reducible repeat (refine blk_drewN ?_ _)); exact BK170.out⟩, ⟨by repeat ((with_reducible first | exact HB.out | apply pw_below_drewN))⟩⟩
             ·replace c55 := Bool.eq_false_iff.mpr c55
              subst c55
              have H1 : (shift_Excess.l1 k2 l0 l1 x10_2 x11_2 false l0 (l0.length : Int) x29_1 l0 (l0.length : Int) (wrap64 (x35_2 + 1)) ((rd_T45 l0 x29_1).f0) ((rd_T45 l0 x29_1).f1) ((rd_T45 l0 x29_1).f2) ((rd_T45 l0 x29_1).f3)) = some (r1, r2, r3, r4) := by rw [if_neg (show ¬ (false = true) by decide)] at H; exact H
              clear H
              have H := H1
              clear H1
              have H' := Aside0.mk H
              clear H
              have p171 : 0 ≤ (x35_2 : Int) := of_decide_eq_true (by (with_reducible assumption))
              have q171 : x35_2 < (l0.length : Int) := of_decide_eq_true (by (with_reducible assumption))
              obtain ⟨ad171, e171, hx171_0, hx171_1, hx171_2, hx171_3⟩ := at_T45 HR0.out x35_2 p171 q171
              obtain rfl : ad169 = ad171 := (by injection e171)
              replace hx171_0 := (HB.out.cell (World.block_lt_of_cell? w _ hx171_0)).trans hx171_0
              replace hx171_1 := (HB.out.cell (World.block_lt_of_cell? w _ hx171_1)).trans hx171_1
              replace hx171_2 := (HB.out.cell (World.block_lt_of_cell? w _ hx171_2)).trans hx171_2
              replace hx171_3 := (HB.out.cell (World.block_lt_of_cell? w _ hx171_3)).trans hx171_3
              replace p171 := eq_true p171
              replace q171 := eq_true q171
              go_wp2_with (first | ((with_reducible refine gate_dst (N := 16) rfl ?_); refine box_event ?hg (N := 16) ?hd (cs := #[.int .i64 0, .int .i64 0, .int .i64 0, .int .i64 0]) (t := 45) ?hr ?_; (case hd => rfl); (case hg => rfl); (case hr => (go_simp; done)); intro gb172 hg w63 hbox hb; have n0_ := Aside0.mk (blk_below (g := gb170) (o := .cells #[.int .i64 ((rd_T45 l0 x29_1).f0), .int .i64 ((rd_T45 l0 x29_1).f1), .int .i64 ((rd_T45 l0 x29_1).f2), .int .i64 ((rd_T45 l0 x29_1).f3)] 45 (0, 0)) (by (with_reducible repeat (fail)); exact BK170.out) hb); have n1_ := Aside0.mk (below_step (by repeat ((with_reducible exact HB.out))) hb); have n2_ := Aside0.mk (hbox); have n3_ := Aside0.mk ((by rw [hg]; exact (below_size (by repeat ((with_reducible exact HB.out)))) : w.heap.size ≤ gb172)); have n4_ := Aside0.mk ((by rw [hg]; exact (below_size (by repeat ((with_reducible exact HB.out)))) : w.heap.size ≤ gb172)); have n5_ := Aside0.mk ((by rw [hg]; exact Nat.ne_of_lt (blk_lt (g := gb170) (o := .cells #[.int .i64 ((rd_T45 l0 x29_1).f0), .int .i64 ((rd_T45 l0 x29_1).f1), .int .i64 ((rd_T45 l0 x29_1).f2), .int .i64 ((rd_T45 l0 x29_1).f3)] 45 (0, 0)) (by (with_reducible repeat (fail)); exact BK170.out)) : gb170 ≠ gb172)); have n6_ := Aside0.mk ((by rw [hg]; exact Nat.ne_of_gt (blk_lt (g := gb170) (o := .cells #[.int .i64 ((rd_T45 l0 x29_1).f0), .int .i64 ((rd_T45 l0 x29_1).f1), .int .i64 ((rd_T45 l0 x29_1).f2), .int .i64 ((rd_T45 l0 x29_1).f3)] 45 (0, 0)) (by (with_reducible repeat (fail)); exact BK170.out)) : gb172 ≠ gb170)); clear BK170; clear HB; have BK170 := n0_; have HB := n1_; have BK172 := n2_; have GW172 := n3_; have GE172 := n4_; have NB170_172 := n5_; have NB172_170 := n6_; clear n0_ n1_ n2_ n3_ n4_ n5_ n6_; clear hb hbox hg; have hnb64 := NB172_170.out; have hnc64 := NB170_172.out; have hcz65_0 : w63.cell? ⟨gb172, 0, none⟩ = some (.int .i64 0) := (blk_cell BK172.out 0).trans rfl; have hcz65_1 : w63.cell? ⟨gb172, 1, none⟩ = some (.int .i64 0) := (blk_cell BK172.out 1).trans rfl; have hcz65_2 : w63.cell? ⟨gb172, 2, none⟩ = some (.int .i64 0) := (blk_cell BK172.out 2).trans rfl; have hcz65_3 : w63.cell? ⟨gb172, 3, none⟩ = some (.int .i64 0) := (blk_cell BK172.out 3).trans rfl; have hfz65_0 := blk_frozen BK172.out 0; have hfz65_1 := blk_frozen BK172.out 1; have hfz65_2 := blk_frozen BK172.out 2; have hfz65_3 := blk_frozen BK172.out 3; have hcz66_0 : w63.cell? ⟨gb170, 0, none⟩ = some (.int .i64 ((rd_T45 l0 x29_1).f0)) := (blk_cell BK170.out 0).trans rfl; have hcz66_1 : w63.cell? ⟨gb170, 1, none⟩ = some (.int .i64 ((rd_T45 l0 x29_1).f1)) := (blk_cell BK170.out 1).trans rfl; have hcz66_2 : w63.cell? ⟨gb170, 2, none⟩ = some (.int .i64 ((rd_T45 l0 x29_1).f2)) := (blk_cell BK170.out 2).trans rfl; have hcz66_3 : w63.cell? ⟨gb170, 3, none⟩ = some (.int .i64 ((rd_T45 l0 x29_1).f3)) := (blk_cell BK170.out 3).trans rfl; have hfz66_0 := blk_frozen BK170.out 0; have hfz66_1 := blk_frozen BK170.out 1; have hfz66_2 := blk_frozen BK170.out 2; have hfz66_3 := blk_frozen BK170.out 3) | (go_at_call 27; (with_reducible refine (shift_overfull.calls k2 _ _ l0 _ _ l1 ((rd_T45 l0 x35_2).f1) ((rd_T45 l0 x29_1).f2) false _ ?side1 ?side2 ?side3 ?side4 A54.out).mono ?_); (case side1 => exact Kd.C_below HR0.out (by repeat ((with_reducible first | exact HB.out | refine below_set ?_ GE172.out)))); (case side2 => exact HC0.out); (case side3 => exact Kd.C_below HR1.out (by repeat ((with_reducible first | exact HB.out | refine below_set ?_ GE172.out)))); (case side4 => exact HC1.out); rintro e w67 ⟨rfl, hb⟩; have n0_ := Aside0.mk (blk_below (g := gb170) (o := .cells #[.int .i64 ((rd_T45 l0 x29_1).f0), .int .i64 ((rd_T45 l0 x29_1).f1), .int .i64 ((rd_T45 l0 x29_1).f2), .int .i64 ((rd_T45 l0 x29_1).f3)] 45 (0, 0)) (by (with_reducible repeat (fail)); refine blk_far ?_ NB170_172.out _; (with_reducible repeat (fail)); refine blk_far ?_ NB170_172.out _; (with_reducible repeat (fail)); refine blk_far ?_ NB170_172.out _; (with_reducible repeat (fail)); refine blk_far ?_ NB170_172.out _; (with_reducible repeat (fail)); exact BK170.out) hb); have n1_ := Aside0.mk (blk_below (g := gb172) (o := .cells #[.int .i64 ((rd_T45 l0 x35_2).f0), .int .i64 ((rd_T45 l0 x35_2).f1), .int .i64 ((rd_T45 l0 x35_2).f2), .int .i64 ((rd_T45 l0 x35_2).f3)] 45 (0, 0)) (by (with_reducible repeat (fail)); refine blk_put (cs := #[.int .i64 ((rd_T45 l0 x35_2).f0), .int .i64 ((rd_T45 l0 x35_2).f1), .int .i64 ((rd_T45 l0 x35_2).f2), .int .i64 0]) ?_ 3 _ rfl; (with_reducible repeat (fail)); refine blk_put (cs := #[.int .i64 ((rd_T45 l0 x35_2).f0), .int .i64 ((rd_T45 l0 x35_2).f1), .int .i64 0, .int .i64 0]) ?_ 2 _ rfl; (with_reducible repeat (fail)); refine blk_put (cs := #[.int .i64 ((rd_T45 l0 x35_2).f0), .int .i64 0, .int .i64 0, .int .i64 0]) ?_ 1 _ rfl; (with_reducible repeat (fail)); refine blk_put (cs := #[.int .i64 0, .int .i64 0, .int .i64 0, .int .i64 0]) ?_ 0 _ rfl; (with_reducible repeat (fail)); exact BK172.out) hb); have n2_ := Aside0.mk (below_step (by repeat ((with_reducible first | exact HB.out | refine below_set ?_ GE172.out))) hb); clear BK170; clear BK172; clear HB; have BK170 := n0_; have BK172 := n1_; have HB := n2_; clear n0_ n1_ n2_; (try clear hb); (try clear hb2); (try clear hk); (try clear hi)))
              repeat (go_quiet (fail); try go_wp2_with (fail))
              go_roundg k2
              case measure => have := HK1.out; have := HK2.out; omega
              case rel => exact ⟨(x10_2), (x11_2), (false), (wrap64 (x35_2 + 1)), (by rfl), (by rfl), (by rfl), (by rfl), H', ⟨by have := HK1.out; have := HK2.out; omega⟩, ⟨by (with_reducible repeat (fail)); exact BK170.out⟩, ⟨by repeat ((with_reducible exact HB.out))⟩⟩
           ·rw [if_neg c13] at H
            exact absurd H (by simp)
          ·rw [if_neg c12] at H
           exact absurd H (by simp)
         ·rw [if_neg c11] at H
          have c11b0 : decide (x35_2 < (l0.length : Int)) = false := decide_eq_false c11
          clear c11
          have H' := Aside0.mk H
          clear H
          go_wp2
          repeat (go_quiet (fail); try go_wp2)
          go_roundg k2
          case measure => have := HK1.out; have := HK2.out; omega
          case rel => exact ⟨(x10_2), (x11_2), (x12_2), (wrap64 (x29_1 + 1)), (by rfl), (by rfl), (by rfl), (by rfl), H', ⟨by have := HK1.out; have := HK2.out; omega⟩, ⟨by repeat ((with_reducible exact HB.out))⟩⟩
      ·rw [if_neg c8] at H
       exact absurd H (by simp)
     ·rw [if_neg c7] at H
      exact absurd H (by simp)
    ·rw [if_neg c6] at H
     have c6b0 : decide (x29_1 < (l0.length : Int)) = false := decide_eq_false c6
     clear c6
     simp only [Option.some.injEq, Prod.mk.injEq] at H
     obtain ⟨rfl, rfl, rfl, rfl⟩ := H
     go_wp2
     repeat (go_quiet (fail); try go_wp2)
     refine bodyPost_ret (results_list (rs := [.tmp 4, .tmp 5, .tmp 6, .tmp 7]) rfl (by simp) (.tmp (.tmp (.tmp (.tmp .nil))))) rfl ?_
     exact ⟨by rfl, by repeat ((with_reducible exact HB.out))⟩
 ·rw [if_neg c4] at H
  have c4b0 : (t168 == 0) = false := beq_eq_false_iff_ne.mpr c4
  have c4b1 : (t168 != 0) = true := bne_iff_ne.mpr c4
  simp only [Option.some.injEq, Prod.mk.injEq] at H
  obtain ⟨rfl, rfl, rfl, rfl⟩ := H
  go_enter Try.func18, Try.ntmps18
  go_wp2_with ((go_at_call 23; (with_reducible refine (shift_valid.calls _ _ l0 _ _ l1 t167 t168 _ ?side1 ?side2 ?side3 ?side4 A3.out).mono ?_); (case side1 => repeat (exact HR0.out)); (case side2 => exact HC0.out); (case side3 => repeat (exact HR1.out)); (case side4 => exact HC1.out); rintro e w68 ⟨rfl, hb⟩; have n0_ := Aside0.mk (below_step (by repeat ((with_reducible exact HB.out))) hb); clear HB; have HB := n0_; clear n0_; (try clear hb); (try clear hb2); (try clear hk); (try clear hi)))
  repeat (go_quiet (fail); try go_wp2_with (fail))
  refine bodyPost_ret (results_list (rs := [.tmp 4, .tmp 5, .tmp 6, .tmp 7]) rfl (by simp) (.tmp (.tmp (.tmp (.tmp .nil))))) rfl ?_
  exact ⟨by rfl, by repeat ((with_reducible exact HB.out))⟩
def letterbaglaw30_sliced.l0 : Nat → List (S51) → List (S51) → Int → Int → Option (Bool)
 | 0, _, _, _, _ => none
 | k + 1, x0, x1, x12, x13 => if x13 < x12 then (if 0 ≤ x13 then (if x13 < (x0.length : Int) then (if x13 < (x1.length : Int) then (if (!(((rd_T51 x0 x13).f0) == ((rd_T51 x1 x13).f0)) || (!(((rd_T51 x0 x13).f1) == ((rd_T51 x1 x13).f1)) || (!(((rd_T51 x0 x13).f2) == ((rd_T51 x1 x13).f2))))) = true then (some false) else (letterbaglaw30_sliced.l0 k x0 x1 x12 (wrap64 (x13 + 1)))) else (none)) else (none)) else (none)) else (some true)
def letterbaglaw30_sliced.f (k : Nat) (l0 : List (S51)) (l1 : List (S51)) : Option (Bool) := if (l0.length : Int) = (l1.length : Int) then (letterbaglaw30_sliced.l0 k l0 l1 (l0.length : Int) 0) else (some false)
theorem letterbaglaw30_sliced.mono_l : ∀ k, (∀ y0 y1 y2 y3, LeO (letterbaglaw30_sliced.l0 k y0 y1 y2 y3) (letterbaglaw30_sliced.l0 (k + 1) y0 y1 y2 y3))
 | 0 => fun _ _ _ _ r h => by simp [letterbaglaw30_sliced.l0] at h
 | k + 1 => by
  have ih0 := letterbaglaw30_sliced.mono_l k
  ·intro y0 y1 y2 y3
   unfold letterbaglaw30_sliced.l0
   repeat' first
   | (with_reducible exact ih0 _ _ _ _)
   | (with_reducible exact LeO.refl _)
   | (with_reducible exact LeO.none _)
   | (with_reducible refine LeO.ite ?_ ?_)
   | (with_reducible refine LeO.bind ?_ (fun _ => ?_))
   | exact ih0 _ _ _ _
   | exact LeO.none _
   | refine LeO.ite ?_ ?_
   | refine LeO.bind ?_ (fun _ => ?_)
theorem letterbaglaw30_sliced.mono : ∀ a0 a1 k, LeO (letterbaglaw30_sliced.f k a0 a1) (letterbaglaw30_sliced.f (k + 1) a0 a1) := by
 intro a0 a1 k
 have ih0 := letterbaglaw30_sliced.mono_l k
 unfold letterbaglaw30_sliced.f
 repeat' first
  | (with_reducible exact ih0 _ _ _ _)
  | (with_reducible exact LeO.refl _)
  | (with_reducible exact LeO.none _)
  | (with_reducible refine LeO.ite ?_ ?_)
  | (with_reducible refine LeO.bind ?_ (fun _ => ?_))
  | exact ih0 _ _ _ _
  | exact LeO.none _
  | refine LeO.ite ?_ ?_
  | refine LeO.bind ?_ (fun _ => ?_)
set_option maxHeartbeats 8000000 in
set_option maxRecDepth 100000 in
theorem letterbaglaw30_sliced.calls (k : Nat) (A0 : Option Addr) (c0 : Nat) (l0 : List (S51)) (A1 : Option Addr) (c1 : Nat) (l1 : List (S51)) (r : Bool) (w : World) (hr0 : Kd.C k51 w A0 l0.length l0) (hc0 : l0.length ≤ c0) (hr1 : Kd.C k51 w A1 l1.length l1) (hc1 : l1.length ≤ c1) (h : letterbaglaw30_sliced.f k l0 l1 = some r) :
  Calls Try.prog 20 #[.slice A0 l0.length c0, .slice A1 l1.length c1] w fun e w' => e = .returned (.bool r) ∧ Drawn0 w w' := by
 have hu51 := Try.underlying51
 have HR0 := Aside0.mk hr0
 have HC0 := Aside0.mk hc0
 clear hr0 hc0
 have HR1 := Aside0.mk hr1
 have HC1 := Aside0.mk hc1
 clear hr1 hc1
 have H : (if (l0.length : Int) = (l1.length : Int) then (letterbaglaw30_sliced.l0 k l0 l1 (l0.length : Int) 0) else (some false)) = some r := h
 clear h
 by_cases c3 : (l0.length : Int) = (l1.length : Int)
 ·rw [if_pos c3] at H
  have c3b0 : ((l0.length : Int) == (l1.length : Int)) = true := beq_iff_eq.mpr c3
  have c3b1 : ((l0.length : Int) != (l1.length : Int)) = false := bne_eq_false_iff_eq.mpr c3
  have c3b2 : (l0.length == l1.length) = true := by (simp at c3 ⊢; omega)
  clear c3
  have H' := Aside0.mk H
  clear H
  go_enter Try.func20, Try.ntmps20
  go_wp2
  repeat (go_quiet (fail); try go_wp2)
  go_loopg [13] k (fun kq v13 w' => ∃ (x13_1 : Int), v13 = .int .i64 x13_1 ∧ Aside0 (letterbaglaw30_sliced.l0 kq l0 l1 (l0.length : Int) x13_1 = some r) ∧ Aside0 (kq ≤ k) ∧ Drawn0 w w')
  case atStart => exact ⟨(0), (by rfl), H', ⟨Nat.le_refl _⟩, by repeat (exact Drawn0.refl _)⟩
  case round =>
   clear H'
   try clear c1
   try clear c2
   try clear p2
   try clear c3
   try clear c3b0
   try clear c3b1
   try clear c3b2
   obtain ⟨x13_1, rfl, HA, HK1, ⟨m1, rfl⟩⟩ := hrel
   cases gk with
   | zero => exact absurd HA.out (by simp [letterbaglaw30_sliced.l0])
   | succ k1 =>
    have H := HA.out
    clear HA
    simp only [letterbaglaw30_sliced.l0] at H
    by_cases c4 : x13_1 < (l0.length : Int)
    ·rw [if_pos c4] at H
     have c4b0 : decide (x13_1 < (l0.length : Int)) = true := decide_eq_true c4
     clear c4
     by_cases c5 : 0 ≤ x13_1
     ·rw [if_pos c5] at H
      have c5b0 : decide (0 ≤ x13_1) = true := decide_eq_true c5
      clear c5
      by_cases c6 : x13_1 < (l0.length : Int)
      ·rw [if_pos c6] at H
       have c6b0 : decide (x13_1 < (l0.length : Int)) = true := decide_eq_true c6
       clear c6
       by_cases c7 : x13_1 < (l1.length : Int)
       ·rw [if_pos c7] at H
        have c7b0 : decide (x13_1 < (l1.length : Int)) = true := decide_eq_true c7
        clear c7
        by_cases c8 : (!(((rd_T51 l0 x13_1).f0) == ((rd_T51 l1 x13_1).f0)) || (!(((rd_T51 l0 x13_1).f1) == ((rd_T51 l1 x13_1).f1)) || (!(((rd_T51 l0 x13_1).f2) == ((rd_T51 l1 x13_1).f2))))) = true
        ·rw [if_pos c8] at H
         have c8b0 : (!(((rd_T51 l0 x13_1).f0) == ((rd_T51 l1 x13_1).f0)) || (!(((rd_T51 l0 x13_1).f1) == ((rd_T51 l1 x13_1).f1)) || (!(((rd_T51 l0 x13_1).f2) == ((rd_T51 l1 x13_1).f2))))) = true := c8
         clear c8
         obtain rfl := Option.some.inj H
         have p176 : 0 ≤ (x13_1 : Int) := of_decide_eq_true (by (with_reducible assumption))
         have q176 : x13_1 < (l0.length : Int) := of_decide_eq_true (by (with_reducible assumption))
         obtain ⟨ad176, e176, hx176_0, hx176_1, hx176_2⟩ := at_T51 HR0.out x13_1 p176 q176
         cases e176
         replace p176 := eq_true p176
         replace q176 := eq_true q176
         have p177 : 0 ≤ (x13_1 : Int) := of_decide_eq_true (by (with_reducible assumption))
         have q177 : x13_1 < (l1.length : Int) := of_decide_eq_true (by (with_reducible assumption))
         obtain ⟨ad177, e177, hx177_0, hx177_1, hx177_2⟩ := at_T51 HR1.out x13_1 p177 q177
         cases e177
         replace p177 := eq_true p177
         replace q177 := eq_true q177
         go_wp2
         repeat (go_quiet (fail); try go_wp2)
         go_ret
         exact ⟨by rfl, by repeat (first | exact Drawn0.refl _ | apply Drawn0.step)⟩
        ·rw [if_neg c8] at H
         have c8b0 : (!(((rd_T51 l0 x13_1).f0) == ((rd_T51 l1 x13_1).f0)) || (!(((rd_T51 l0 x13_1).f1) == ((rd_T51 l1 x13_1).f1)) || (!(((rd_T51 l0 x13_1).f2) == ((rd_T51 l1 x13_1).f2))))) = false := by simpa using c8
         clear c8
         have H' := Aside0.mk H
         clear H
         have p176 : 0 ≤ (x13_1 : Int) := of_decide_eq_true (by (with_reducible assumption))
         have q176 : x13_1 < (l0.length : Int) := of_decide_eq_true (by (with_reducible assumption))
         obtain ⟨ad176, e176, hx176_0, hx176_1, hx176_2⟩ := at_T51 HR0.out x13_1 p176 q176
         cases e176
         replace p176 := eq_true p176
         replace q176 := eq_true q176
         have p177 : 0 ≤ (x13_1 : Int) := of_decide_eq_true (by (with_reducible assumption))
         have q177 : x13_1 < (l1.length : Int) := of_decide_eq_true (by (with_reducible assumption))
         obtain ⟨ad177, e177, hx177_0, hx177_1, hx177_2⟩ := at_T51 HR1.out x13_1 p177 q177
         cases e177
         replace p177 := eq_true p177
         replace q177 := eq_true q177
         go_wp2
         repeat (go_quiet (fail); try go_wp2)
         go_roundg k1
         case measure => have := HK1.out; omega
         case rel => exact ⟨(wrap64 (x13_1 + 1)), (by rfl), H', ⟨by have := HK1.out; omega⟩, by repeat (first | exact Drawn0.refl _ | apply Drawn0.step)⟩
       ·rw [if_neg c7] at H
        exact absurd H (by simp)
      ·rw [if_neg c6] at H
       exact absurd H (by simp)
     ·rw [if_neg c5] at H
      exact absurd H (by simp)
    ·rw [if_neg c4] at H
     have c4b0 : decide (x13_1 < (l0.length : Int)) = false := decide_eq_false c4
     clear c4
     obtain rfl := Option.some.inj H
     go_wp2
     repeat (go_quiet (fail); try go_wp2)
     go_ret
     exact ⟨by rfl, by repeat (first | exact Drawn0.refl _ | apply Drawn0.step)⟩
 ·rw [if_neg c3] at H
  have c3b0 : ((l0.length : Int) == (l1.length : Int)) = false := beq_eq_false_iff_ne.mpr c3
  have c3b1 : ((l0.length : Int) != (l1.length : Int)) = true := bne_iff_ne.mpr c3
  have c3b2 : (l0.length == l1.length) = false := by (simp at c3 ⊢; omega)
  obtain rfl := Option.some.inj H
  go_enter Try.func20, Try.ntmps20
  go_wp2
  repeat (go_quiet (fail); try go_wp2)
  go_ret
  exact ⟨by rfl, by repeat (exact Drawn0.refl _)⟩
def letterbagkit_SameInts.l0 : Nat → List Int → List Int → Int → Option (Bool)
 | 0, _, _, _ => none
 | k + 1, x0, x1, x5 => if x5 < (x0.length : Int) then (if 0 ≤ x5 then (if x5 < (x1.length : Int) then (if (rd x0 x5) = (rd x1 x5) then (letterbagkit_SameInts.l0 k x0 x1 (wrap64 (x5 + 1))) else (some false)) else (none)) else (none)) else (some true)
def letterbagkit_SameInts.f (k : Nat) (l0 : List Int) (l1 : List Int) : Option (Bool) := if (l0.length : Int) = (l1.length : Int) then (letterbagkit_SameInts.l0 k l0 l1 0) else (some false)
theorem letterbagkit_SameInts.mono_l : ∀ k, (∀ y0 y1 y2, LeO (letterbagkit_SameInts.l0 k y0 y1 y2) (letterbagkit_SameInts.l0 (k + 1) y0 y1 y2))
 | 0 => fun _ _ _ r h => by simp [letterbagkit_SameInts.l0] at h
 | k + 1 => by
  have ih0 := letterbagkit_SameInts.mono_l k
  ·intro y0 y1 y2
   unfold letterbagkit_SameInts.l0
   repeat' first
   | (with_reducible exact ih0 _ _ _)
   | (with_reducible exact LeO.refl _)
   | (with_reducible exact LeO.none _)
   | (with_reducible refine LeO.ite ?_ ?_)
   | (with_reducible refine LeO.bind ?_ (fun _ => ?_))
   | exact ih0 _ _ _
   | exact LeO.none _
   | refine LeO.ite ?_ ?_
   | refine LeO.bind ?_ (fun _ => ?_)
theorem letterbagkit_SameInts.mono : ∀ a0 a1 k, LeO (letterbagkit_SameInts.f k a0 a1) (letterbagkit_SameInts.f (k + 1) a0 a1) := by
 intro a0 a1 k
 have ih0 := letterbagkit_SameInts.mono_l k
 unfold letterbagkit_SameInts.f
 repeat' first
  | (with_reducible exact ih0 _ _ _)
  | (with_reducible exact LeO.refl _)
  | (with_reducible exact LeO.none _)
  | (with_reducible refine LeO.ite ?_ ?_)
  | (with_reducible refine LeO.bind ?_ (fun _ => ?_))
  | exact ih0 _ _ _
  | exact LeO.none _
  | refine LeO.ite ?_ ?_
  | refine LeO.bind ?_ (fun _ => ?_)
set_option maxHeartbeats 8000000 in
set_option maxRecDepth 100000 in
theorem letterbagkit_SameInts.calls (k : Nat) (A0 : Option Addr) (c0 : Nat) (l0 : List Int) (A1 : Option Addr) (c1 : Nat) (l1 : List Int) (r : Bool) (w : World) (hr0 : Kd.C (Kd.int .i64) w A0 l0.length l0) (hc0 : l0.length ≤ c0) (hr1 : Kd.C (Kd.int .i64) w A1 l1.length l1) (hc1 : l1.length ≤ c1) (h : letterbagkit_SameInts.f k l0 l1 = some r) :
  Calls Try.prog 21 #[.slice A0 l0.length c0, .slice A1 l1.length c1] w fun e w' => e = .returned (.bool r) ∧ Drawn0 w w' := by
 have HR0 := Aside0.mk hr0
 have HC0 := Aside0.mk hc0
 clear hr0 hc0
 have HR1 := Aside0.mk hr1
 have HC1 := Aside0.mk hc1
 clear hr1 hc1
 have H : (if (l0.length : Int) = (l1.length : Int) then (letterbagkit_SameInts.l0 k l0 l1 0) else (some false)) = some r := h
 clear h
 by_cases c3 : (l0.length : Int) = (l1.length : Int)
 ·rw [if_pos c3] at H
  have c3b0 : ((l0.length : Int) == (l1.length : Int)) = true := beq_iff_eq.mpr c3
  have c3b1 : ((l0.length : Int) != (l1.length : Int)) = false := bne_eq_false_iff_eq.mpr c3
  have c3b2 : (l0.length == l1.length) = true := by (simp at c3 ⊢; omega)
  clear c3
  have H' := Aside0.mk H
  clear H
  go_enter Try.func21, Try.ntmps21
  go_wp2
  repeat (go_quiet (fail); try go_wp2)
  go_loopg [5] k (fun kq v5 w' => ∃ (x5_1 : Int), v5 = .int .i64 x5_1 ∧ Aside0 (letterbagkit_SameInts.l0 kq l0 l1 x5_1 = some r) ∧ Aside0 (kq ≤ k) ∧ Drawn0 w w')
  case atStart => exact ⟨(0), (by rfl), H', ⟨Nat.le_refl _⟩, by repeat (exact Drawn0.refl _)⟩
  case round =>
   clear H'
   try clear c1
   try clear c2
   try clear p2
   try clear c3
   try clear c3b0
   try clear c3b1
   try clear c3b2
   obtain ⟨x5_1, rfl, HA, HK1, ⟨m1, rfl⟩⟩ := hrel
   cases gk with
   | zero => exact absurd HA.out (by simp [letterbagkit_SameInts.l0])
   | succ k1 =>
    have H := HA.out
    clear HA
    simp only [letterbagkit_SameInts.l0] at H
    by_cases c4 : x5_1 < (l0.length : Int)
    ·rw [if_pos c4] at H
     have c4b0 : decide (x5_1 < (l0.length : Int)) = true := decide_eq_true c4
     clear c4
     by_cases c5 : 0 ≤ x5_1
     ·rw [if_pos c5] at H
      have c5b0 : decide (0 ≤ x5_1) = true := decide_eq_true c5
      clear c5
      by_cases c6 : x5_1 < (l1.length : Int)
      ·rw [if_pos c6] at H
       have c6b0 : decide (x5_1 < (l1.length : Int)) = true := decide_eq_true c6
       clear c6
       by_cases c7 : (rd l0 x5_1) = (rd l1 x5_1)
       ·rw [if_pos c7] at H
        have c7b0 : ((rd l0 x5_1) == (rd l1 x5_1)) = true := beq_iff_eq.mpr c7
        have c7b1 : ((rd l0 x5_1) != (rd l1 x5_1)) = false := bne_eq_false_iff_eq.mpr c7
        clear c7
        have H' := Aside0.mk H
        clear H
        have p178 : 0 ≤ (x5_1 : Int) := of_decide_eq_true (by (with_reducible assumption))
        have q178 : x5_1 < (l0.length : Int) := of_decide_eq_true (by (with_reducible assumption))
        obtain ⟨ad178, e178, hx178_0⟩ := Kd.at_int HR0.out x5_1 p178 q178
        cases e178
        replace p178 := eq_true p178
        replace q178 := eq_true q178
        have p179 : 0 ≤ (x5_1 : Int) := of_decide_eq_true (by (with_reducible assumption))
        have q179 : x5_1 < (l1.length : Int) := of_decide_eq_true (by (with_reducible assumption))
        obtain ⟨ad179, e179, hx179_0⟩ := Kd.at_int HR1.out x5_1 p179 q179
        cases e179
        replace p179 := eq_true p179
        replace q179 := eq_true q179
        go_wp2
        repeat (go_quiet (fail); try go_wp2)
        go_roundg k1
        case measure => have := HK1.out; omega
        case rel => exact ⟨(wrap64 (x5_1 + 1)), (by rfl), H', ⟨by have := HK1.out; omega⟩, by repeat (first | exact Drawn0.refl _ | apply Drawn0.step)⟩
       ·rw [if_neg c7] at H
        have c7b0 : ((rd l0 x5_1) == (rd l1 x5_1)) = false := beq_eq_false_iff_ne.mpr c7
        have c7b1 : ((rd l0 x5_1) != (rd l1 x5_1)) = true := bne_iff_ne.mpr c7
        obtain rfl := Option.some.inj H
        have p178 : 0 ≤ (x5_1 : Int) := of_decide_eq_true (by (with_reducible assumption))
        have q178 : x5_1 < (l0.length : Int) := of_decide_eq_true (by (with_reducible assumption))
        obtain ⟨ad178, e178, hx178_0⟩ := Kd.at_int HR0.out x5_1 p178 q178
        cases e178
        replace p178 := eq_true p178
        replace q178 := eq_true q178
        have p179 : 0 ≤ (x5_1 : Int) := of_decide_eq_true (by (with_reducible assumption))
        have q179 : x5_1 < (l1.length : Int) := of_decide_eq_true (by (with_reducible assumption))
        obtain ⟨ad179, e179, hx179_0⟩ := Kd.at_int HR1.out x5_1 p179 q179
        cases e179
        replace p179 := eq_true p179
        replace q179 := eq_true q179
        go_wp2
        repeat (go_quiet (fail); try go_wp2)
        go_ret
        exact ⟨by rfl, by repeat (first | exact Drawn0.refl _ | apply Drawn0.step)⟩
      ·rw [if_neg c6] at H
       exact absurd H (by simp)
     ·rw [if_neg c5] at H
      exact absurd H (by simp)
    ·rw [if_neg c4] at H
     have c4b0 : decide (x5_1 < (l0.length : Int)) = false := decide_eq_false c4
     clear c4
     obtain rfl := Option.some.inj H
     go_wp2
     repeat (go_quiet (fail); try go_wp2)
     go_ret
     exact ⟨by rfl, by repeat (first | exact Drawn0.refl _ | apply Drawn0.step)⟩
 ·rw [if_neg c3] at H
  have c3b0 : ((l0.length : Int) == (l1.length : Int)) = false := beq_eq_false_iff_ne.mpr c3
  have c3b1 : ((l0.length : Int) != (l1.length : Int)) = true := bne_iff_ne.mpr c3
  have c3b2 : (l0.length == l1.length) = false := by (simp at c3 ⊢; omega)
  obtain rfl := Option.some.inj H
  go_enter Try.func21, Try.ntmps21
  go_wp2
  repeat (go_quiet (fail); try go_wp2)
  go_ret
  exact ⟨by rfl, by repeat (exact Drawn0.refl _)⟩
end Go.Proofs.Ytbnjdlafnejanaa.Pr
namespace Go.Proofs.Ytbnjdlafnejanaa.Pr
open Go.RowKit Go.Proofs.YtbnjdlafnejanaaW.PrintWords Go.Proofs.YtbnjdlafnejanaaW.PrintLast Go.Proofs.YtbnjdlafnejanaaW.PrintMore
attribute [local go_sem] max2_int min2_int max_two min_two max_three min_three max_four min_four   -- for this text's walks alone
set_option linter.unusedVariables false
set_option linter.unusedSimpArgs false
mutual
def letterbaglaw30_awake.j0 : Nat → List (S45) → Bool → Option (Bool)
 | 0, _, _ => none
 | k + 1, x1, x47 => if x47 = true then (some false) else ((some (([(⟨0, 3⟩ : S47), (⟨8, 20⟩ : S47)] : List (S47)) : List (S47))).bind fun y204 => ((shift_Make.f x1 y204).bind fun bt207 => (if bt207.2 = 0 then ((letterbaglaw30_sliced.f k bt207.1 (([(⟨1, 0, 2⟩ : S51), (⟨2, 2, 3⟩ : S51), (⟨2, 8, 9⟩ : S51), (⟨1, 9, 11⟩ : S51)] : List (S51)))).bind fun t214 => (if t214 = true then ((shift_Late.f k x1 bt207.1).bind fun t215 => ((letterbagkit_SameInts.f k t215 (([1, 2] : List Int))).bind fun t221 => (letterbaglaw30_awake.j1 k x1 y204 bt207.1 (!t221)))) else (letterbaglaw30_awake.j1 k x1 y204 bt207.1 true))) else (letterbaglaw30_awake.j1 k x1 y204 bt207.1 true))))
def letterbaglaw30_awake.j1 : Nat → List (S45) → List (S47) → List (S51) → Bool → Option (Bool)
 | 0, _, _, _, _ => none
 | k + 1, x1, x4, x5, x76 => if x76 = true then (some false) else ((shift_Excess.f k x1 x4).bind fun bt222 => ((shift_Check.f x1 x4 x5).bind fun bt226 => (if bt222.1 = 2 then (if bt222.2.1 = 5 then (if bt222.2.2.1 = true then (if bt226.1 = 0 then (letterbaglaw30_awake.j2 k x1 x4 ((wrap64 (bt222.2.2.2 + bt226.2)) != 0)) else (letterbaglaw30_awake.j2 k x1 x4 true)) else (letterbaglaw30_awake.j2 k x1 x4 true)) else (letterbaglaw30_awake.j2 k x1 x4 true)) else (letterbaglaw30_awake.j2 k x1 x4 true))))
def letterbaglaw30_awake.j2 : Nat → List (S45) → List (S47) → Bool → Option (Bool)
 | 0, _, _, _ => none
 | k + 1, x1, x4, x111 => if x111 = true then (some false) else ((shift_Excess.f k (([(⟨9, 5, 3, 1⟩ : S45)] : List (S45))) x4).bind fun bt231 => ((shift_Make.f x1 ([] : List (S47))).bind fun bt235 => (if bt231.1 = 5 then (if bt231.2.1 = 3 then (if bt231.2.2.1 = true then (if (wrap64 (bt231.2.2.2 + bt235.2)) = 0 then (if (bt235.1.length : Int) = 0 then ((shift_Ends.f x1 bt235.1).bind fun t239 => ((letterbagkit_SameInts.f k t239 (([(-1), (-1)] : List Int))).bind fun t245 => (if t245 = true then ((shift_Late.f k x1 bt235.1).bind fun t246 => (some ((t246.length : Int) == 2))) else (some false)))) else (some false)) else (some false)) else (some false)) else (some false)) else (some false))))
end
def letterbaglaw30_awake.f (k : Nat)  : Option (Bool) := (some (([(⟨1, 0, 10, 4⟩ : S45), (⟨2, 2, 5, 2⟩ : S45)] : List (S45)) : List (S45))).bind fun y180 => ((shift_Make.f y180 (([(⟨0, 20⟩ : S47)] : List (S47)))).bind fun bt186 => (if bt186.2 = 0 then ((letterbaglaw30_sliced.f k bt186.1 (([(⟨1, 0, 2⟩ : S51), (⟨2, 2, 4⟩ : S51), (⟨1, 4, 6⟩ : S51)] : List (S51)))).bind fun t193 => (if t193 = true then ((shift_Ends.f y180 bt186.1).bind fun t194 => ((letterbagkit_SameInts.f k t194 (([6, 4] : List Int))).bind fun t200 => (if t200 = true then ((shift_Late.f k y180 bt186.1).bind fun t201 => (letterbaglaw30_awake.j0 k y180 ((t201.length : Int) != 0))) else (letterbaglaw30_awake.j0 k y180 true)))) else (letterbaglaw30_awake.j0 k y180 true))) else (letterbaglaw30_awake.j0 k y180 true)))
theorem letterbaglaw30_awake.mono_l : ∀ k, (∀ y0 y1, LeO (letterbaglaw30_awake.j0 k y0 y1) (letterbaglaw30_awake.j0 (k + 1) y0 y1)) ∧ (∀ y0 y1 y2 y3, LeO (letterbaglaw30_awake.j1 k y0 y1 y2 y3) (letterbaglaw30_awake.j1 (k + 1) y0 y1 y2 y3)) ∧ (∀ y0 y1 y2, LeO (letterbaglaw30_awake.j2 k y0 y1 y2) (letterbaglaw30_awake.j2 (k + 1) y0 y1 y2))
 | 0 => ⟨fun _ _ r h => by simp [letterbaglaw30_awake.j0] at h, fun _ _ _ _ r h => by simp [letterbaglaw30_awake.j1] at h, fun _ _ _ r h => by simp [letterbaglaw30_awake.j2] at h⟩
 | k + 1 => by
  obtain ⟨ih0, ih1, ih2⟩ := letterbaglaw30_awake.mono_l k
  refine ⟨?_, ?_, ?_⟩
  ·intro y0 y1
   unfold letterbaglaw30_awake.j0
   repeat' first
   | (with_reducible exact ih0 _ _)
   | (with_reducible exact ih1 _ _ _ _)
   | (with_reducible exact ih2 _ _ _)
   | (with_reducible exact letterbagkit_SameInts.mono _ _ _)
   | (with_reducible exact letterbaglaw30_sliced.mono _ _ _)
   | (with_reducible exact shift_Excess.mono _ _ _)
   | (with_reducible exact shift_Late.mono _ _ _)
   | (with_reducible exact LeO.refl _)
   | (with_reducible exact LeO.none _)
   | (with_reducible refine LeO.ite ?_ ?_)
   | (with_reducible refine LeO.bind ?_ (fun _ => ?_))
   | exact ih0 _ _
   | exact ih1 _ _ _ _
   | exact ih2 _ _ _
   | exact letterbagkit_SameInts.mono _ _ _
   | exact letterbaglaw30_sliced.mono _ _ _
   | exact shift_Excess.mono _ _ _
   | exact shift_Late.mono _ _ _
   | exact LeO.none _
   | refine LeO.ite ?_ ?_
   | refine LeO.bind ?_ (fun _ => ?_)
  ·intro y0 y1 y2 y3
   unfold letterbaglaw30_awake.j1
   repeat' first
   | (with_reducible exact ih0 _ _)
   | (with_reducible exact ih1 _ _ _ _)
   | (with_reducible exact ih2 _ _ _)
   | (with_reducible exact letterbagkit_SameInts.mono _ _ _)
   | (with_reducible exact letterbaglaw30_sliced.mono _ _ _)
   | (with_reducible exact shift_Excess.mono _ _ _)
   | (with_reducible exact shift_Late.mono _ _ _)
   | (with_reducible exact LeO.refl _)
   | (with_reducible exact LeO.none _)
   | (with_reducible refine LeO.ite ?_ ?_)
   | (with_reducible refine LeO.bind ?_ (fun _ => ?_))
   | exact ih0 _ _
   | exact ih1 _ _ _ _
   | exact ih2 _ _ _
   | exact letterbagkit_SameInts.mono _ _ _
   | exact letterbaglaw30_sliced.mono _ _ _
   | exact shift_Excess.mono _ _ _
   | exact shift_Late.mono _ _ _
   | exact LeO.none _
   | refine LeO.ite ?_ ?_
   | refine LeO.bind ?_ (fun _ => ?_)
  ·intro y0 y1 y2
   unfold letterbaglaw30_awake.j2
   repeat' first
   | (with_reducible exact ih0 _ _)
   | (with_reducible exact ih1 _ _ _ _)
   | (with_reducible exact ih2 _ _ _)
   | (with_reducible exact letterbagkit_SameInts.mono _ _ _)
   | (with_reducible exact letterbaglaw30_sliced.mono _ _ _)
   | (with_reducible exact shift_Excess.mono _ _ _)
   | (with_reducible exact shift_Late.mono _ _ _)
   | (with_reducible exact LeO.refl _)
   | (with_reducible exact LeO.none _)
   | (with_reducible refine LeO.ite ?_ ?_)
   | (with_reducible refine LeO.bind ?_ (fun _ => ?_))
   | exact ih0 _ _
   | exact ih1 _ _ _ _
   | exact ih2 _ _ _
   | exact letterbagkit_SameInts.mono _ _ _
   | exact letterbaglaw30_sliced.mono _ _ _
   | exact shift_Excess.mono _ _ _
   | exact shift_Late.mono _ _ _
   | exact LeO.none _
   | refine LeO.ite ?_ ?_
   | refine LeO.bind ?_ (fun _ => ?_)
theorem letterbaglaw30_awake.mono : ∀ k, LeO (letterbaglaw30_awake.f k ) (letterbaglaw30_awake.f (k + 1) ) := by
 intro  k
 obtain ⟨ih0, ih1, ih2⟩ := letterbaglaw30_awake.mono_l k
 unfold letterbaglaw30_awake.f
 repeat' first
  | (with_reducible exact ih0 _ _)
  | (with_reducible exact ih1 _ _ _ _)
  | (with_reducible exact ih2 _ _ _)
  | (with_reducible exact letterbagkit_SameInts.mono _ _ _)
  | (with_reducible exact letterbaglaw30_sliced.mono _ _ _)
  | (with_reducible exact shift_Excess.mono _ _ _)
  | (with_reducible exact shift_Late.mono _ _ _)
  | (with_reducible exact LeO.refl _)
  | (with_reducible exact LeO.none _)
  | (with_reducible refine LeO.ite ?_ ?_)
  | (with_reducible refine LeO.bind ?_ (fun _ => ?_))
  | exact ih0 _ _
  | exact ih1 _ _ _ _
  | exact ih2 _ _ _
  | exact letterbagkit_SameInts.mono _ _ _
  | exact letterbaglaw30_sliced.mono _ _ _
  | exact shift_Excess.mono _ _ _
  | exact shift_Late.mono _ _ _
  | exact LeO.none _
  | refine LeO.ite ?_ ?_
  | refine LeO.bind ?_ (fun _ => ?_)
set_option maxHeartbeats 8000000 in
set_option maxRecDepth 100000 in
theorem letterbaglaw30_awake.calls (k : Nat)  (r : Bool) (w : World) (h : letterbaglaw30_awake.f k  = some r) :
  Calls Try.prog 17 #[] w fun e w' => e = .returned (.bool r) ∧ Below w.heap.size w w' := by
 have hu45 := Try.underlying45
 have hu47 := Try.underlying47
 have hu51 := Try.underlying51
 have HB := Aside0.mk (Below.refl w.heap.size w)
 have H : ((some (([(⟨1, 0, 10, 4⟩ : S45), (⟨2, 2, 5, 2⟩ : S45)] : List (S45)) : List (S45))).bind fun y180 => ((shift_Make.f y180 (([(⟨0, 20⟩ : S47)] : List (S47)))).bind fun bt186 => (if bt186.2 = 0 then ((letterbaglaw30_sliced.f k bt186.1 (([(⟨1, 0, 2⟩ : S51), (⟨2, 2, 4⟩ : S51), (⟨1, 4, 6⟩ : S51)] : List (S51)))).bind fun t193 => (if t193 = true then ((shift_Ends.f y180 bt186.1).bind fun t194 => ((letterbagkit_SameInts.f k t194 (([6, 4] : List Int))).bind fun t200 => (if t200 = true then ((shift_Late.f k y180 bt186.1).bind fun t201 => (letterbaglaw30_awake.j0 k y180 ((t201.length : Int) != 0))) else (letterbaglaw30_awake.j0 k y180 true)))) else (letterbaglaw30_awake.j0 k y180 true))) else (letterbaglaw30_awake.j0 k y180 true)))) = some r := h
 clear h
 obtain ⟨y180, hy180⟩ : ∃ y_ : List (S45), y_ = (([(⟨1, 0, 10, 4⟩ : S45), (⟨2, 2, 5, 2⟩ : S45)] : List (S45))) := ⟨_, rfl⟩
 replace H : ((shift_Make.f y180 (([(⟨0, 20⟩ : S47)] : List (S47)))).bind fun bt186 => (if bt186.2 = 0 then ((letterbaglaw30_sliced.f k bt186.1 (([(⟨1, 0, 2⟩ : S51), (⟨2, 2, 4⟩ : S51), (⟨1, 4, 6⟩ : S51)] : List (S51)))).bind fun t193 => (if t193 = true then ((shift_Ends.f y180 bt186.1).bind fun t194 => ((letterbagkit_SameInts.f k t194 (([6, 4] : List Int))).bind fun t200 => (if t200 = true then ((shift_Late.f k y180 bt186.1).bind fun t201 => (letterbaglaw30_awake.j0 k y180 ((t201.length : Int) != 0))) else (letterbaglaw30_awake.j0 k y180 true)))) else (letterbaglaw30_awake.j0 k y180 true))) else (letterbaglaw30_awake.j0 k y180 true))) = some r := by (have H2_ := (Option.bind_some _ _).symm.trans H; rw [hy180]; with_reducible exact H2_)
 have Ny180 := Aside0.mk hy180
 clear hy180
 obtain ⟨y183, hy183⟩ : ∃ y_ : List (S47), y_ = (([(⟨0, 20⟩ : S47)] : List (S47))) := ⟨_, rfl⟩
 replace H : ((shift_Make.f y180 y183).bind fun bt186 => (if bt186.2 = 0 then ((letterbaglaw30_sliced.f k bt186.1 (([(⟨1, 0, 2⟩ : S51), (⟨2, 2, 4⟩ : S51), (⟨1, 4, 6⟩ : S51)] : List (S51)))).bind fun t193 => (if t193 = true then ((shift_Ends.f y180 bt186.1).bind fun t194 => ((letterbagkit_SameInts.f k t194 (([6, 4] : List Int))).bind fun t200 => (if t200 = true then ((shift_Late.f k y180 bt186.1).bind fun t201 => (letterbaglaw30_awake.j0 k y180 ((t201.length : Int) != 0))) else (letterbaglaw30_awake.j0 k y180 true)))) else (letterbaglaw30_awake.j0 k y180 true))) else (letterbaglaw30_awake.j0 k y180 true))) = some r := by (rw [hy183]; with_reducible exact H)
 have Ny183 := Aside0.mk hy183
 clear hy183
 replace H := Option.bind_eq_some_iff.mp H
 obtain ⟨⟨t186, t187⟩, A10, H⟩ := H
 replace H : (if t187 = 0 then ((letterbaglaw30_sliced.f k t186 (([(⟨1, 0, 2⟩ : S51), (⟨2, 2, 4⟩ : S51), (⟨1, 4, 6⟩ : S51)] : List (S51)))).bind fun t193 => (if t193 = true then ((shift_Ends.f y180 t186).bind fun t194 => ((letterbagkit_SameInts.f k t194 (([6, 4] : List Int))).bind fun t200 => (if t200 = true then ((shift_Late.f k y180 t186).bind fun t201 => (letterbaglaw30_awake.j0 k y180 ((t201.length : Int) != 0))) else (letterbaglaw30_awake.j0 k y180 true)))) else (letterbaglaw30_awake.j0 k y180 true))) else (letterbaglaw30_awake.j0 k y180 true)) = some r := H
 have A1 := Aside0.mk A10
 clear A10
 have HC2 := Aside0.mk H
 clear H
 go_enter Try.func17, Try.ntmps17
 go_upto_region 3 with (first | ((with_reducible refine gate_dst (N := 14) rfl ?_); (try (refine gate_guard (by rfl) ?_; dsimp only)); refine Kd.R_lit k45 _ 45 ?hg (N := 14) ?hd (xs := ([(⟨1, 0, 10, 4⟩ : S45), (⟨2, 2, 5, 2⟩ : S45)] : List (S45))) (inner := [.int .i64 1, .int .i64 0, .int .i64 10, .int .i64 4, .int .i64 2, .int .i64 2, .int .i64 5, .int .i64 2]) (ok := fun _ => True) (okp := fun _ => True) ?hr ?hp (fun _ hk => hk) trivial (Below.refl _ _) (Nat.le_refl _) (by simp) ?_; (case hd => rfl); (case hg => rfl); (case hr => (go_simp; done)); (case hp => exact (Reps.c4 (show Kd.M k45 _ _ _ (⟨1, 0, 10, 4⟩ : S45) [.int .i64 1, .int .i64 0, .int .i64 10, .int .i64 4] from (k45_mkM _ _ _ (⟨1, 0, 10, 4⟩ : S45) )) (Reps.c4 (show Kd.M k45 _ _ _ (⟨2, 2, 5, 2⟩ : S45) [.int .i64 2, .int .i64 2, .int .i64 5, .int .i64 2] from (k45_mkM _ _ _ (⟨2, 2, 5, 2⟩ : S45) )) (Reps.none _ _)))); intro v181 w3 ho4 hb hg_ hnew_; clear hg_ hnew_; (rw [← Ny180.out] at ho4); have n0_ := Aside0.mk (Kd.R_lower ho4 (below_size (by repeat ((with_reducible exact HB.out))))); have n1_ := Aside0.mk (below_step (by repeat ((with_reducible exact HB.out))) hb); clear HB; have HO182 := n0_; have HB := n1_; clear n0_ n1_; clear hb ho4) | ((with_reducible refine gate_dst (N := 18) rfl ?_); (try (refine gate_guard (by rfl) ?_; dsimp only)); refine Kd.R_lit k47 _ 47 ?hg (N := 18) ?hd (xs := ([(⟨0, 20⟩ : S47)] : List (S47))) (inner := [.int .i64 0, .int .i64 20]) (ok := fun _ => True) (okp := fun _ => True) ?hr ?hp (fun _ hk => hk) trivial (Below.refl _ _) (Nat.le_refl _) (by simp) ?_; (case hd => rfl); (case hg => rfl); (case hr => (go_simp; done)); (case hp => exact (Reps.c2 (show Kd.M k47 _ _ _ (⟨0, 20⟩ : S47) [.int .i64 0, .int .i64 20] from (k47_mkM _ _ _ (⟨0, 20⟩ : S47) )) (Reps.none _ _))); intro v184 w5 ho6 hb hg_ hnew_; clear hg_ hnew_; (rw [← Ny183.out] at ho6); have n0_ := Aside0.mk (Kd.R_below (by (with_reducible repeat (fail)); exact HO182.out) hb); have n1_ := Aside0.mk (Kd.R_lower ho6 (below_size (by repeat ((with_reducible exact HB.out))))); have n2_ := Aside0.mk (below_step (by repeat ((with_reducible exact HB.out))) hb); clear HO182; clear HB; have HO182 := n0_; have HO185 := n1_; have HB := n2_; clear n0_ n1_ n2_; clear hb ho6; obtain ⟨Ao7, co7, eo7⟩ := Kd.R_slice HO182.out; subst eo7; obtain ⟨Ao8, co8, eo8⟩ := Kd.R_slice HO185.out; subst eo8) | ((with_reducible refine gate_callee (f := 12) rfl ?_); refine goesL_ (some 19) rfl rfl Try.func12 (by kernel_rfl) rfl #[.slice Ao7 y180.length co7, .slice Ao8 y183.length co8] rfl (by (try simp only [List.map_toArray, List.map_cons, List.map_nil]); rfl) ?_; (with_reducible refine (shift_Make.calls _ _ y180 _ _ y183 t186 t187 _ ?side1 ?side2 ?side3 ?side4 A1.out).mono ?_); (case side1 => repeat (exact (Kd.R_reads' HO182.out).2.2)); (case side2 => exact (Kd.R_reads' HO182.out).2.1); (case side3 => repeat (exact (Kd.R_reads' HO185.out).2.2)); (case side4 => exact (Kd.R_reads' HO185.out).2.1); rintro e w9 ⟨v188, rfl, ho0, hb⟩; refine ⟨_, rfl, ?_⟩; have n0_ := Aside0.mk (Kd.R_below (by (with_reducible repeat (fail)); exact HO182.out) hb); have n1_ := Aside0.mk (Kd.R_below (by (with_reducible repeat (fail)); exact HO185.out) hb); have n2_ := Aside0.mk (Kd.R_lower ho0 (below_size (by repeat ((with_reducible exact HB.out))))); have n3_ := Aside0.mk (below_step (by repeat ((with_reducible exact HB.out))) hb); clear HO182; clear HO185; clear HB; have HO182 := n0_; have HO185 := n1_; have HO189 := n2_; have HB := n3_; clear n0_ n1_ n2_ n3_; (try clear hb); (try clear hb2); (try clear hk); (try clear hi); (try clear ho0)))
 (try simp only [Act.put, List.setIfInBounds_toArray, List.set_cons_zero, List.set_cons_succ])
 go_cut [47] (fun v47 wc => ∃ (kq : Nat) (x47_1 : Bool), v47 = .bool x47_1 ∧ Aside0 (letterbaglaw30_awake.j0 kq y180 x47_1 = some r) ∧ Aside0 (kq ≤ k) ∧ Aside0 (Kd.R k45 45 wc w.heap.size (fun _ => True) (.slice Ao7 y180.length co7) y180) ∧ Aside0 (Below w.heap.size w wc))
 case first =>
  have H := HC2.out
  clear HC2
  by_cases c10 : t187 = 0
  ·rw [if_pos c10] at H
   have c10b0 : (t187 == 0) = true := beq_iff_eq.mpr c10
   have c10b1 : (t187 != 0) = false := bne_eq_false_iff_eq.mpr c10
   clear c10
   (skip)
   obtain ⟨y190, hy190⟩ : ∃ y_ : List (S51), y_ = (([(⟨1, 0, 2⟩ : S51), (⟨2, 2, 4⟩ : S51), (⟨1, 4, 6⟩ : S51)] : List (S51))) := ⟨_, rfl⟩
   replace H : ((letterbaglaw30_sliced.f k t186 y190).bind fun t193 => (if t193 = true then ((shift_Ends.f y180 t186).bind fun t194 => ((letterbagkit_SameInts.f k t194 (([6, 4] : List Int))).bind fun t200 => (if t200 = true then ((shift_Late.f k y180 t186).bind fun t201 => (letterbaglaw30_awake.j0 k y180 ((t201.length : Int) != 0))) else (letterbaglaw30_awake.j0 k y180 true)))) else (letterbaglaw30_awake.j0 k y180 true))) = some r := by (rw [hy190]; with_reducible exact H)
   have Ny190 := Aside0.mk hy190
   clear hy190
   replace H := Option.bind_eq_some_iff.mp H
   obtain ⟨t193, A110, H⟩ := H
   replace H : (if t193 = true then ((shift_Ends.f y180 t186).bind fun t194 => ((letterbagkit_SameInts.f k t194 (([6, 4] : List Int))).bind fun t200 => (if t200 = true then ((shift_Late.f k y180 t186).bind fun t201 => (letterbaglaw30_awake.j0 k y180 ((t201.length : Int) != 0))) else (letterbaglaw30_awake.j0 k y180 true)))) else (letterbaglaw30_awake.j0 k y180 true)) = some r := H
   have A11 := Aside0.mk A110
   clear A110
   by_cases c12 : t193 = true
   ·subst c12
    have H1 : ((shift_Ends.f y180 t186).bind fun t194 => ((letterbagkit_SameInts.f k t194 (([6, 4] : List Int))).bind fun t200 => (if t200 = true then ((shift_Late.f k y180 t186).bind fun t201 => (letterbaglaw30_awake.j0 k y180 ((t201.length : Int) != 0))) else (letterbaglaw30_awake.j0 k y180 true)))) = some r := by rw [if_pos rfl] at H; exact H
    clear H
    have H := H1
    clear H1
    replace H := Option.bind_eq_some_iff.mp H
    obtain ⟨t194, A130, H⟩ := H
    replace H : ((letterbagkit_SameInts.f k t194 (([6, 4] : List Int))).bind fun t200 => (if t200 = true then ((shift_Late.f k y180 t186).bind fun t201 => (letterbaglaw30_awake.j0 k y180 ((t201.length : Int) != 0))) else (letterbaglaw30_awake.j0 k y180 true))) = some r := H
    have A13 := Aside0.mk A130
    clear A130
    obtain ⟨y197, hy197⟩ : ∃ y_ : List Int, y_ = (([6, 4] : List Int)) := ⟨_, rfl⟩
    replace H : ((letterbagkit_SameInts.f k t194 y197).bind fun t200 => (if t200 = true then ((shift_Late.f k y180 t186).bind fun t201 => (letterbaglaw30_awake.j0 k y180 ((t201.length : Int) != 0))) else (letterbaglaw30_awake.j0 k y180 true))) = some r := by (rw [hy197]; with_reducible exact H)
    have Ny197 := Aside0.mk hy197
    clear hy197
    replace H := Option.bind_eq_some_iff.mp H
    obtain ⟨t200, A140, H⟩ := H
    replace H : (if t200 = true then ((shift_Late.f k y180 t186).bind fun t201 => (letterbaglaw30_awake.j0 k y180 ((t201.length : Int) != 0))) else (letterbaglaw30_awake.j0 k y180 true)) = some r := H
    have A14 := Aside0.mk A140
    clear A140
    by_cases c15 : t200 = true
    ·subst c15
     have H1 : ((shift_Late.f k y180 t186).bind fun t201 => (letterbaglaw30_awake.j0 k y180 ((t201.length : Int) != 0))) = some r := by rw [if_pos rfl] at H; exact H
     clear H
     have H := H1
     clear H1
     replace H := Option.bind_eq_some_iff.mp H
     obtain ⟨t201, A160, H⟩ := H
     replace H : (letterbaglaw30_awake.j0 k y180 ((t201.length : Int) != 0)) = some r := H
     have A16 := Aside0.mk A160
     clear A160
     have H' := Aside0.mk H
     clear H
     go_wp2_with (first | ((with_reducible refine gate_dst (N := 29) rfl ?_); (try (refine gate_guard (by rfl) ?_; dsimp only)); refine Kd.R_lit k51 _ 51 ?hg (N := 29) ?hd (xs := ([(⟨1, 0, 2⟩ : S51), (⟨2, 2, 4⟩ : S51), (⟨1, 4, 6⟩ : S51)] : List (S51))) (inner := [.int .i64 1, .int .i64 0, .int .i64 2, .int .i64 2, .int .i64 2, .int .i64 4, .int .i64 1, .int .i64 4, .int .i64 6]) (ok := fun _ => True) (okp := fun _ => True) ?hr ?hp (fun _ hk => hk) trivial (Below.refl _ _) (Nat.le_refl _) (by simp) ?_; (case hd => rfl); (case hg => rfl); (case hr => (go_simp; done)); (case hp => exact (Reps.c3 (show Kd.M k51 _ _ _ (⟨1, 0, 2⟩ : S51) [.int .i64 1, .int .i64 0, .int .i64 2] from (k51_mkM _ _ _ (⟨1, 0, 2⟩ : S51) )) (Reps.c3 (show Kd.M k51 _ _ _ (⟨2, 2, 4⟩ : S51) [.int .i64 2, .int .i64 2, .int .i64 4] from (k51_mkM _ _ _ (⟨2, 2, 4⟩ : S51) )) (Reps.c3 (show Kd.M k51 _ _ _ (⟨1, 4, 6⟩ : S51) [.int .i64 1, .int .i64 4, .int .i64 6] from (k51_mkM _ _ _ (⟨1, 4, 6⟩ : S51) )) (Reps.none _ _))))); intro v191 w17 ho18 hb hg_ hnew_; clear hg_ hnew_; (rw [← Ny190.out] at ho18); have n0_ := Aside0.mk (Kd.R_below (by (with_reducible repeat (fail)); exact HO182.out) hb); have n1_ := Aside0.mk (Kd.R_below (by (with_reducible repeat (fail)); exact HO185.out) hb); have n2_ := Aside0.mk (Kd.R_elder' (by (with_reducible repeat (fail)); exact HO189.out) (Kd.R_base ho18) hb); have n3_ := Aside0.mk (Kd.R_lower (Kd.R_new' ho18 (Kd.R_lt (by (with_reducible repeat (fail)); exact HO189.out))) (below_size (by repeat ((with_reducible exact HB.out))))); have n4_ := Aside0.mk (below_step (by repeat ((with_reducible exact HB.out))) hb); clear HO182; clear HO185; clear HO189; clear HB; have HO182 := n0_; have HO185 := n1_; have HO189 := n2_; have HO192 := n3_; have HB := n4_; clear n0_ n1_ n2_ n3_ n4_; clear hb ho18; obtain ⟨Ao19, co19, eo19⟩ := Kd.R_slice HO189.out; subst eo19; obtain ⟨Ao20, co20, eo20⟩ := Kd.R_slice HO192.out; subst eo20) | (go_at_call 20; (with_reducible refine (letterbaglaw30_sliced.calls k _ _ t186 _ _ y190 true _ ?side1 ?side2 ?side3 ?side4 A11.out).mono ?_); (case side1 => repeat (exact (Kd.R_reads' HO189.out).2.2)); (case side2 => exact (Kd.R_reads' HO189.out).2.1); (case side3 => repeat (exact (Kd.R_reads' HO192.out).2.2)); (case side4 => exact (Kd.R_reads' HO192.out).2.1); rintro e w' ⟨rfl, ⟨nd, rfl⟩⟩) | (go_at_call 22; (with_reducible refine (shift_Ends.calls _ _ y180 _ _ t186 t194 _ ?side1 ?side2 ?side3 ?side4 A13.out).mono ?_); (case side1 => repeat (exact (Kd.R_reads' HO182.out).2.2)); (case side2 => exact (Kd.R_reads' HO182.out).2.1); (case side3 => repeat (exact (Kd.R_reads' HO189.out).2.2)); (case side4 => exact (Kd.R_reads' HO189.out).2.1); rintro e w21 ⟨v195, rfl, ho0, hb⟩; have n0_ := Aside0.mk (Kd.R_below (by (with_reducible repeat (apply Kd.R_drewN)); exact HO182.out) hb); have n1_ := Aside0.mk (Kd.R_below (by (with_reducible repeat (apply Kd.R_drewN)); exact HO185.out) hb); have n2_ := Aside0.mk (Kd.R_below (by (with_reducible repeat (apply Kd.R_drewN)); exact HO189.out) hb); have n3_ := Aside0.mk (Kd.R_below (by (with_reducible repeat (apply Kd.R_drewN)); exact HO192.out) hb); have n4_ := Aside0.mk (Kd.R_lower ho0 (below_size (by repeat ((with_reducible first | exact HB.out | apply pw_below_drewN))))); have n5_ := Aside0.mk (below_step (by repeat ((with_reducible first | exact HB.out | apply pw_below_drewN))) hb); clear HO182; clear HO185; clear HO189; clear HO192; clear HB; have HO182 := n0_; have HO185 := n1_; have HO189 := n2_; have HO192 := n3_; have HO196 := n4_; have HB := n5_; clear n0_ n1_ n2_ n3_ n4_ n5_; (try clear hb); (try clear hb2); (try clear hk); (try clear hi); (try clear ho0)) | ((with_reducible refine gate_dst (N := 37) rfl ?_); (try (refine gate_guard (by rfl) ?_; dsimp only)); refine Kd.R_lit (Kd.int .i64) _ 3 ?hg (N := 37) ?hd (xs := ([6, 4] : List Int)) (inner := [.int .i64 6, .int .i64 4]) (ok := fun _ => True) (okp := fun _ => True) ?hr ?hp (fun _ hk => hk) trivial (Below.refl _ _) (Nat.le_refl _) (by simp) ?_; (case hd => rfl); (case hg => rfl); (case hr => (go_simp; done)); (case hp => exact (Reps.one (show Kd.M (Kd.int .i64) _ _ _ 6 [.int .i64 6] from rfl) (Reps.one (show Kd.M (Kd.int .i64) _ _ _ 4 [.int .i64 4] from rfl) (Reps.none _ _)))); intro v198 w22 ho23 hb hg_ hnew_; clear hg_ hnew_; (rw [← Ny197.out] at ho23); have n0_ := Aside0.mk (Kd.R_below (by (with_reducible repeat (fail)); exact HO182.out) hb); have n1_ := Aside0.mk (Kd.R_below (by (with_reducible repeat (fail)); exact HO185.out) hb); have n2_ := Aside0.mk (Kd.R_below (by (with_reducible repeat (fail)); exact HO189.out) hb); have n3_ := Aside0.mk (Kd.R_below (by (with_reducible repeat (fail)); exact HO192.out) hb); have n4_ := Aside0.mk (Kd.R_elder' (by (with_reducible repeat (fail)); exact HO196.out) (Kd.R_base ho23) hb); have n5_ := Aside0.mk (Kd.R_lower (Kd.R_new' ho23 (Kd.R_lt (by (with_reducible repeat (fail)); exact HO196.out))) (below_size (by repeat ((with_reducible exact HB.out))))); have n6_ := Aside0.mk (below_step (by repeat ((with_reducible exact HB.out))) hb); clear HO182; clear HO185; clear HO189; clear HO192; clear HO196; clear HB; have HO182 := n0_; have HO185 := n1_; have HO189 := n2_; have HO192 := n3_; have HO196 := n4_; have HO199 := n5_; have HB := n6_; clear n0_ n1_ n2_ n3_ n4_ n5_ n6_; clear hb ho23; obtain ⟨Ao24, co24, eo24⟩ := Kd.R_slice HO196.out; subst eo24; obtain ⟨Ao25, co25, eo25⟩ := Kd.R_slice HO199.out; subst eo25) | (go_at_call 21; (with_reducible refine (letterbagkit_SameInts.calls k _ _ t194 _ _ y197 true _ ?side1 ?side2 ?side3 ?side4 A14.out).mono ?_); (case side1 => repeat (exact (Kd.R_reads' HO196.out).2.2)); (case side2 => exact (Kd.R_reads' HO196.out).2.1); (case side3 => repeat (exact (Kd.R_reads' HO199.out).2.2)); (case side4 => exact (Kd.R_reads' HO199.out).2.1); rintro e w' ⟨rfl, ⟨nd, rfl⟩⟩) | (go_at_call 15; (with_reducible refine (shift_Late.calls k _ _ y180 _ _ t186 t201 _ ?side1 ?side2 ?side3 ?side4 A16.out).mono ?_); (case side1 => repeat (exact (Kd.R_reads' HO182.out).2.2)); (case side2 => exact (Kd.R_reads' HO182.out).2.1); (case side3 => repeat (exact (Kd.R_reads' HO189.out).2.2)); (case side4 => exact (Kd.R_reads' HO189.out).2.1); rintro e w26 ⟨v202, rfl, ho0, hb⟩; have n0_ := Aside0.mk (Kd.R_below (by (with_reducible repeat (apply Kd.R_drewN)); exact HO182.out) hb); have n1_ := Aside0.mk (Kd.R_below (by (with_reducible repeat (apply Kd.R_drewN)); exact HO185.out) hb); have n2_ := Aside0.mk (Kd.R_below (by (with_reducible repeat (apply Kd.R_drewN)); exact HO189.out) hb); have n3_ := Aside0.mk (Kd.R_below (by (with_reducible repeat (apply Kd.R_drewN)); exact HO192.out) hb); have n4_ := Aside0.mk (Kd.R_elder' (by (with_reducible repeat (apply Kd.R_drewN)); exact HO196.out) (Kd.R_base ho0) hb); have n5_ := Aside0.mk (Kd.R_elder' (by (with_reducible repeat (apply Kd.R_drewN)); exact HO199.out) (Kd.R_base ho0) hb); have n6_ := Aside0.mk (Kd.R_lower (Kd.R_new' (Kd.R_new' ho0 (Kd.R_lt (by (with_reducible repeat (apply Kd.R_drewN)); exact HO196.out))) (Kd.R_lt (by (with_reducible repeat (apply Kd.R_drewN)); exact HO199.out))) (below_size (by repeat ((with_reducible first | exact HB.out | apply pw_below_drewN))))); have n7_ := Aside0.mk (below_step (by repeat ((with_reducible first | exact HB.out | apply pw_below_drewN))) hb); clear HO182; clear HO185; clear HO189; clear HO192; clear HO196; clear HO199; clear HB; have HO182 := n0_; have HO185 := n1_; have HO189 := n2_; have HO192 := n3_; have HO196 := n4_; have HO199 := n5_; have HO203 := n6_; have HB := n7_; clear n0_ n1_ n2_ n3_ n4_ n5_ n6_ n7_; (try clear hb); (try clear hb2); (try clear hk); (try clear hi); (try clear ho0); obtain ⟨Ao27, co27, eo27⟩ := Kd.R_slice HO203.out; subst eo27))
     go_meet
     case rel => exact ⟨_, (((t201.length : Int) != 0)), (by rfl), H', ⟨by omega⟩, ⟨by (with_reducible repeat (fail)); exact HO182.out⟩, ⟨by repeat ((with_reducible exact HB.out))⟩⟩
    ·replace c15 := Bool.eq_false_iff.mpr c15
     subst c15
     have H1 : (letterbaglaw30_awake.j0 k y180 true) = some r := by rw [if_neg (show ¬ (false = true) by decide)] at H; exact H
     clear H
     have H := H1
     clear H1
     have H' := Aside0.mk H
     clear H
     go_wp2_with (first | ((with_reducible refine gate_dst (N := 29) rfl ?_); (try (refine gate_guard (by rfl) ?_; dsimp only)); refine Kd.R_lit k51 _ 51 ?hg (N := 29) ?hd (xs := ([(⟨1, 0, 2⟩ : S51), (⟨2, 2, 4⟩ : S51), (⟨1, 4, 6⟩ : S51)] : List (S51))) (inner := [.int .i64 1, .int .i64 0, .int .i64 2, .int .i64 2, .int .i64 2, .int .i64 4, .int .i64 1, .int .i64 4, .int .i64 6]) (ok := fun _ => True) (okp := fun _ => True) ?hr ?hp (fun _ hk => hk) trivial (Below.refl _ _) (Nat.le_refl _) (by simp) ?_; (case hd => rfl); (case hg => rfl); (case hr => (go_simp; done)); (case hp => exact (Reps.c3 (show Kd.M k51 _ _ _ (⟨1, 0, 2⟩ : S51) [.int .i64 1, .int .i64 0, .int .i64 2] from (k51_mkM _ _ _ (⟨1, 0, 2⟩ : S51) )) (Reps.c3 (show Kd.M k51 _ _ _ (⟨2, 2, 4⟩ : S51) [.int .i64 2, .int .i64 2, .int .i64 4] from (k51_mkM _ _ _ (⟨2, 2, 4⟩ : S51) )) (Reps.c3 (show Kd.M k51 _ _ _ (⟨1, 4, 6⟩ : S51) [.int .i64 1, .int .i64 4, .int .i64 6] from (k51_mkM _ _ _ (⟨1, 4, 6⟩ : S51) )) (Reps.none _ _))))); intro v191 w28 ho29 hb hg_ hnew_; clear hg_ hnew_; (rw [← Ny190.out] at ho29); have n0_ := Aside0.mk (Kd.R_below (by (with_reducible repeat (fail)); exact HO182.out) hb); have n1_ := Aside0.mk (Kd.R_below (by (with_reducible repeat (fail)); exact HO185.out) hb); have n2_ := Aside0.mk (Kd.R_elder' (by (with_reducible repeat (fail)); exact HO189.out) (Kd.R_base ho29) hb); have n3_ := Aside0.mk (Kd.R_lower (Kd.R_new' ho29 (Kd.R_lt (by (with_reducible repeat (fail)); exact HO189.out))) (below_size (by repeat ((with_reducible exact HB.out))))); have n4_ := Aside0.mk (below_step (by repeat ((with_reducible exact HB.out))) hb); clear HO182; clear HO185; clear HO189; clear HB; have HO182 := n0_; have HO185 := n1_; have HO189 := n2_; have HO192 := n3_; have HB := n4_; clear n0_ n1_ n2_ n3_ n4_; clear hb ho29; obtain ⟨Ao30, co30, eo30⟩ := Kd.R_slice HO189.out; subst eo30; obtain ⟨Ao31, co31, eo31⟩ := Kd.R_slice HO192.out; subst eo31) | (go_at_call 20; (with_reducible refine (letterbaglaw30_sliced.calls k _ _ t186 _ _ y190 true _ ?side1 ?side2 ?side3 ?side4 A11.out).mono ?_); (case side1 => repeat (exact (Kd.R_reads' HO189.out).2.2)); (case side2 => exact (Kd.R_reads' HO189.out).2.1); (case side3 => repeat (exact (Kd.R_reads' HO192.out).2.2)); (case side4 => exact (Kd.R_reads' HO192.out).2.1); rintro e w' ⟨rfl, ⟨nd, rfl⟩⟩) | (go_at_call 22; (with_reducible refine (shift_Ends.calls _ _ y180 _ _ t186 t194 _ ?side1 ?side2 ?side3 ?side4 A13.out).mono ?_); (case side1 => repeat (exact (Kd.R_reads' HO182.out).2.2)); (case side2 => exact (Kd.R_reads' HO182.out).2.1); (case side3 => repeat (exact (Kd.R_reads' HO189.out).2.2)); (case side4 => exact (Kd.R_reads' HO189.out).2.1); rintro e w32 ⟨v195, rfl, ho0, hb⟩; have n0_ := Aside0.mk (Kd.R_below (by (with_reducible repeat (apply Kd.R_drewN)); exact HO182.out) hb); have n1_ := Aside0.mk (Kd.R_below (by (with_reducible repeat (apply Kd.R_drewN)); exact HO185.out) hb); have n2_ := Aside0.mk (Kd.R_below (by (with_reducible repeat (apply Kd.R_drewN)); exact HO189.out) hb); have n3_ := Aside0.mk (Kd.R_below (by (with_reducible repeat (apply Kd.R_drewN)); exact HO192.out) hb); have n4_ := Aside0.mk (Kd.R_lower ho0 (below_size (by repeat ((with_reducible first | exact HB.out | apply pw_below_drewN))))); have n5_ := Aside0.mk (below_step (by repeat ((with_reducible first | exact HB.out | apply pw_below_drewN))) hb); clear HO182; clear HO185; clear HO189; clear HO192; clear HB; have HO182 := n0_; have HO185 := n1_; have HO189 := n2_; have HO192 := n3_; have HO196 := n4_; have HB := n5_; clear n0_ n1_ n2_ n3_ n4_ n5_; (try clear hb); (try clear hb2); (try clear hk); (try clear hi); (try clear ho0)) | ((with_reducible refine gate_dst (N := 37) rfl ?_); (try (refine gate_guard (by rfl) ?_; dsimp only)); refine Kd.R_lit (Kd.int .i64) _ 3 ?hg (N := 37) ?hd (xs := ([6, 4] : List Int)) (inner := [.int .i64 6, .int .i64 4]) (ok := fun _ => True) (okp := fun _ => True) ?hr ?hp (fun _ hk => hk) trivial (Below.refl _ _) (Nat.le_refl _) (by simp) ?_; (case hd => rfl); (case hg => rfl); (case hr => (go_simp; done)); (case hp => exact (Reps.one (show Kd.M (Kd.int .i64) _ _ _ 6 [.int .i64 6] from rfl) (Reps.one (show Kd.M (Kd.int .i64) _ _ _ 4 [.int .i64 4] from rfl) (Reps.none _ _)))); intro v198 w33 ho34 hb hg_ hnew_; clear hg_ hnew_; (rw [← Ny197.out] at ho34); have n0_ := Aside0.mk (Kd.R_below (by (with_reducible repeat (fail)); exact HO182.out) hb); have n1_ := Aside0.mk (Kd.R_below (by (with_reducible repeat (fail)); exact HO185.out) hb); have n2_ := Aside0.mk (Kd.R_below (by (with_reducible repeat (fail)); exact HO189.out) hb); have n3_ := Aside0.mk (Kd.R_below (by (with_reducible repeat (fail)); exact HO192.out) hb); have n4_ := Aside0.mk (Kd.R_elder' (by (with_reducible repeat (fail)); exact HO196.out) (Kd.R_base ho34) hb); have n5_ := Aside0.mk (Kd.R_lower (Kd.R_new' ho34 (Kd.R_lt (by (with_reducible repeat (fail)); exact HO196.out))) (below_size (by repeat ((with_reducible exact HB.out))))); have n6_ := Aside0.mk (below_step (by repeat ((with_reducible exact HB.out))) hb); clear HO182; clear HO185; clear HO189; clear HO192; clear HO196; clear HB; have HO182 := n0_; have HO185 := n1_; have HO189 := n2_; have HO192 := n3_; have HO196 := n4_; have HO199 := n5_; have HB := n6_; clear n0_ n1_ n2_ n3_ n4_ n5_ n6_; clear hb ho34; obtain ⟨Ao35, co35, eo35⟩ := Kd.R_slice HO196.out; subst eo35; obtain ⟨Ao36, co36, eo36⟩ := Kd.R_slice HO199.out; subst eo36) | (go_at_call 21; (with_reducible refine (letterbagkit_SameInts.calls k _ _ t194 _ _ y197 false _ ?side1 ?side2 ?side3 ?side4 A14.out).mono ?_); (case side1 => repeat (exact (Kd.R_reads' HO196.out).2.2)); (case side2 => exact (Kd.R_reads' HO196.out).2.1); (case side3 => repeat (exact (Kd.R_reads' HO199.out).2.2)); (case side4 => exact (Kd.R_reads' HO199.out).2.1); rintro e w' ⟨rfl, ⟨nd, rfl⟩⟩))
     go_meet
     case rel => exact ⟨_, (true), (by rfl), H', ⟨by omega⟩, ⟨by (with_reducible repeat (apply Kd.R_drewN)); exact HO182.out⟩, ⟨by repeat ((with_reducible first | exact HB.out | apply pw_below_drewN))⟩⟩
   ·replace c12 := Bool.eq_false_iff.mpr c12
    subst c12
    have H1 : (letterbaglaw30_awake.j0 k y180 true) = some r := by rw [if_neg (show ¬ (false = true) by decide)] at H; exact H
    clear H
    have H := H1
    clear H1
    have H' := Aside0.mk H
    clear H
    go_wp2_with (first | ((with_reducible refine gate_dst (N := 29) rfl ?_); (try (refine gate_guard (by rfl) ?_; dsimp only)); refine Kd.R_lit k51 _ 51 ?hg (N := 29) ?hd (xs := ([(⟨1, 0, 2⟩ : S51), (⟨2, 2, 4⟩ : S51), (⟨1, 4, 6⟩ : S51)] : List (S51))) (inner := [.int .i64 1, .int .i64 0, .int .i64 2, .int .i64 2, .int .i64 2, .int .i64 4, .int .i64 1, .int .i64 4, .int .i64 6]) (ok := fun _ => True) (okp := fun _ => True) ?hr ?hp (fun _ hk => hk) trivial (Below.refl _ _) (Nat.le_refl _) (by simp) ?_; (case hd => rfl); (case hg => rfl); (case hr => (go_simp; done)); (case hp => exact (Reps.c3 (show Kd.M k51 _ _ _ (⟨1, 0, 2⟩ : S51) [.int .i64 1, .int .i64 0, .int .i64 2] from (k51_mkM _ _ _ (⟨1, 0, 2⟩ : S51) )) (Reps.c3 (show Kd.M k51 _ _ _ (⟨2, 2, 4⟩ : S51) [.int .i64 2, .int .i64 2, .int .i64 4] from (k51_mkM _ _ _ (⟨2, 2, 4⟩ : S51) )) (Reps.c3 (show Kd.M k51 _ _ _ (⟨1, 4, 6⟩ : S51) [.int .i64 1, .int .i64 4, .int .i64 6] from (k51_mkM _ _ _ (⟨1, 4, 6⟩ : S51) )) (Reps.none _ _))))); intro v191 w37 ho38 hb hg_ hnew_; clear hg_ hnew_; (rw [← Ny190.out] at ho38); have n0_ := Aside0.mk (Kd.R_below (by (with_reducible repeat (fail)); exact HO182.out) hb); have n1_ := Aside0.mk (Kd.R_below (by (with_reducible repeat (fail)); exact HO185.out) hb); have n2_ := Aside0.mk (Kd.R_elder' (by (with_reducible repeat (fail)); exact HO189.out) (Kd.R_base ho38) hb); have n3_ := Aside0.mk (Kd.R_lower (Kd.R_new' ho38 (Kd.R_lt (by (with_reducible repeat (fail)); exact HO189.out))) (below_size (by repeat ((with_reducible exact HB.out))))); have n4_ := Aside0.mk (below_step (by repeat ((with_reducible exact HB.out))) hb); clear HO182; clear HO185; clear HO189; clear HB; have HO182 := n0_; have HO185 := n1_; have HO189 := n2_; have HO192 := n3_; have HB := n4_; clear n0_ n1_ n2_ n3_ n4_; clear hb ho38; obtain ⟨Ao39, co39, eo39⟩ := Kd.R_slice HO189.out; subst eo39; obtain ⟨Ao40, co40, eo40⟩ := Kd.R_slice HO192.out; subst eo40) | (go_at_call 20; (with_reducible refine (letterbaglaw30_sliced.calls k _ _ t186 _ _ y190 false _ ?side1 ?side2 ?side3 ?side4 A11.out).mono ?_); (case side1 => repeat (exact (Kd.R_reads' HO189.out).2.2)); (case side2 => exact (Kd.R_reads' HO189.out).2.1); (case side3 => repeat (exact (Kd.R_reads' HO192.out).2.2)); (case side4 => exact (Kd.R_reads' HO192.out).2.1); rintro e w' ⟨rfl, ⟨nd, rfl⟩⟩))
    go_meet
    case rel => exact ⟨_, (true), (by rfl), H', ⟨by omega⟩, ⟨by (with_reducible repeat (apply Kd.R_drewN)); exact HO182.out⟩, ⟨by repeat ((with_reducible first | exact HB.out | apply pw_below_drewN))⟩⟩
  ·rw [if_neg c10] at H
   have c10b0 : (t187 == 0) = false := beq_eq_false_iff_ne.mpr c10
   have c10b1 : (t187 != 0) = true := bne_iff_ne.mpr c10
   (skip)
   have H' := Aside0.mk H
   clear H
   go_wp2
   go_meet
   case rel => exact ⟨_, (true), (by rfl), H', ⟨by omega⟩, ⟨by (with_reducible repeat (fail)); exact HO182.out⟩, ⟨by repeat ((with_reducible exact HB.out))⟩⟩
 case rest =>
  clear HC2
  try clear c1
  try clear c2
  try clear p2
  try clear c3
  try clear c4
  try clear c10
  try clear c10b0
  try clear c10b1
  try clear c12
  try clear c15
  try clear c17
  obtain ⟨kq, x47_1, rfl, HA, HJ1, HO_1, HB⟩ := hcut
  cases kq with
  | zero => exact absurd HA.out (by simp [letterbaglaw30_awake.j0])
  | succ kj1 =>
   have H := HA.out
   clear HA
   simp only [letterbaglaw30_awake.j0] at H
   by_cases c41 : x47_1 = true
   ·subst c41
    have H1 : (some false) = some r := by rw [if_pos rfl] at H; exact H
    clear H
    have H := H1
    clear H1
    obtain rfl := Option.some.inj H
    go_wp2
    go_ret
    exact ⟨by rfl, by repeat ((with_reducible exact HB.out))⟩
   ·replace c41 := Bool.eq_false_iff.mpr c41
    subst c41
    have H1 : ((some (([(⟨0, 3⟩ : S47), (⟨8, 20⟩ : S47)] : List (S47)) : List (S47))).bind fun y204 => ((shift_Make.f y180 y204).bind fun bt207 => (if bt207.2 = 0 then ((letterbaglaw30_sliced.f kj1 bt207.1 (([(⟨1, 0, 2⟩ : S51), (⟨2, 2, 3⟩ : S51), (⟨2, 8, 9⟩ : S51), (⟨1, 9, 11⟩ : S51)] : List (S51)))).bind fun t214 => (if t214 = true then ((shift_Late.f kj1 y180 bt207.1).bind fun t215 => ((letterbagkit_SameInts.f kj1 t215 (([1, 2] : List Int))).bind fun t221 => (letterbaglaw30_awake.j1 kj1 y180 y204 bt207.1 (!t221)))) else (letterbaglaw30_awake.j1 kj1 y180 y204 bt207.1 true))) else (letterbaglaw30_awake.j1 kj1 y180 y204 bt207.1 true)))) = some r := by rw [if_neg (show ¬ (false = true) by decide)] at H; exact H
    clear H
    have H := H1
    clear H1
    obtain ⟨y204, hy204⟩ : ∃ y_ : List (S47), y_ = (([(⟨0, 3⟩ : S47), (⟨8, 20⟩ : S47)] : List (S47))) := ⟨_, rfl⟩
    replace H : ((shift_Make.f y180 y204).bind fun bt207 => (if bt207.2 = 0 then ((letterbaglaw30_sliced.f kj1 bt207.1 (([(⟨1, 0, 2⟩ : S51), (⟨2, 2, 3⟩ : S51), (⟨2, 8, 9⟩ : S51), (⟨1, 9, 11⟩ : S51)] : List (S51)))).bind fun t214 => (if t214 = true then ((shift_Late.f kj1 y180 bt207.1).bind fun t215 => ((letterbagkit_SameInts.f kj1 t215 (([1, 2] : List Int))).bind fun t221 => (letterbaglaw30_awake.j1 kj1 y180 y204 bt207.1 (!t221)))) else (letterbaglaw30_awake.j1 kj1 y180 y204 bt207.1 true))) else (letterbaglaw30_awake.j1 kj1 y180 y204 bt207.1 true))) = some r := by (have H2_ := (Option.bind_some _ _).symm.trans H; rw [hy204]; with_reducible exact H2_)
    have Ny204 := Aside0.mk hy204
    clear hy204
    replace H := Option.bind_eq_some_iff.mp H
    obtain ⟨⟨t207, t208⟩, A420, H⟩ := H
    replace H : (if t208 = 0 then ((letterbaglaw30_sliced.f kj1 t207 (([(⟨1, 0, 2⟩ : S51), (⟨2, 2, 3⟩ : S51), (⟨2, 8, 9⟩ : S51), (⟨1, 9, 11⟩ : S51)] : List (S51)))).bind fun t214 => (if t214 = true then ((shift_Late.f kj1 y180 t207).bind fun t215 => ((letterbagkit_SameInts.f kj1 t215 (([1, 2] : List Int))).bind fun t221 => (letterbaglaw30_awake.j1 kj1 y180 y204 t207 (!t221)))) else (letterbaglaw30_awake.j1 kj1 y180 y204 t207 true))) else (letterbaglaw30_awake.j1 kj1 y180 y204 t207 true)) = some r := H
    have A42 := Aside0.mk A420
    clear A420
    have HC43 := Aside0.mk H
    clear H
    go_upto_region 7 with (first | ((with_reducible refine gate_dst (N := 50) rfl ?_); (try (refine gate_guard (by rfl) ?_; dsimp only)); refine Kd.R_lit k47 _ 47 ?hg (N := 50) ?hd (xs := ([(⟨0, 3⟩ : S47), (⟨8, 20⟩ : S47)] : List (S47))) (inner := [.int .i64 0, .int .i64 3, .int .i64 8, .int .i64 20]) (ok := fun _ => True) (okp := fun _ => True) ?hr ?hp (fun _ hk => hk) trivial (Below.refl _ _) (Nat.le_refl _) (by simp) ?_; (case hd => rfl); (case hg => rfl); (case hr => (go_simp; done)); (case hp => exact (Reps.c2 (show Kd.M k47 _ _ _ (⟨0, 3⟩ : S47) [.int .i64 0, .int .i64 3] from (k47_mkM _ _ _ (⟨0, 3⟩ : S47) )) (Reps.c2 (show Kd.M k47 _ _ _ (⟨8, 20⟩ : S47) [.int .i64 8, .int .i64 20] from (k47_mkM _ _ _ (⟨8, 20⟩ : S47) )) (Reps.none _ _)))); intro v205 w44 ho45 hb hg_ hnew_; clear hg_ hnew_; (rw [← Ny204.out] at ho45); have n0_ := Aside0.mk (Kd.R_below (by (with_reducible repeat (fail)); exact HO_1.out) hb); have n1_ := Aside0.mk (Kd.R_lower ho45 (below_size (by repeat ((with_reducible exact HB.out))))); have n2_ := Aside0.mk (below_step (by repeat ((with_reducible exact HB.out))) hb); clear HO_1; clear HB; have HO_1 := n0_; have HO206 := n1_; have HB := n2_; clear n0_ n1_ n2_; clear hb ho45; obtain ⟨Ao46, co46, eo46⟩ := Kd.R_slice HO206.out; subst eo46) | ((with_reducible refine gate_callee (f := 12) rfl ?_); refine goesL_ (some 54) rfl rfl Try.func12 (by kernel_rfl) rfl #[.slice Ao7 y180.length co7, .slice Ao46 y204.length co46] rfl (by (try simp only [List.map_toArray, List.map_cons, List.map_nil]); rfl) ?_; (with_reducible refine (shift_Make.calls _ _ y180 _ _ y204 t207 t208 _ ?side1 ?side2 ?side3 ?side4 A42.out).mono ?_); (case side1 => repeat (exact (Kd.R_reads' HO_1.out).2.2)); (case side2 => exact (Kd.R_reads' HO_1.out).2.1); (case side3 => repeat (exact (Kd.R_reads' HO206.out).2.2)); (case side4 => exact (Kd.R_reads' HO206.out).2.1); rintro e w47 ⟨v209, rfl, ho0, hb⟩; refine ⟨_, rfl, ?_⟩; have n0_ := Aside0.mk (Kd.R_below (by (with_reducible repeat (fail)); exact HO_1.out) hb); have n1_ := Aside0.mk (Kd.R_below (by (with_reducible repeat (fail)); exact HO206.out) hb); have n2_ := Aside0.mk (Kd.R_lower ho0 (below_size (by repeat ((with_reducible exact HB.out))))); have n3_ := Aside0.mk (below_step (by repeat ((with_reducible exact HB.out))) hb); clear HO_1; clear HO206; clear HB; have HO_1 := n0_; have HO206 := n1_; have HO210 := n2_; have HB := n3_; clear n0_ n1_ n2_ n3_; (try clear hb); (try clear hb2); (try clear hk); (try clear hi); (try clear ho0)))
    (try simp only [Act.put, List.setIfInBounds_toArray, List.set_cons_zero, List.set_cons_succ])
    go_cut [76] (fun v76 wc => ∃ (kq : Nat) (x76_42 : Bool), v76 = .bool x76_42 ∧ Aside0 (letterbaglaw30_awake.j1 kq y180 y204 t207 x76_42 = some r) ∧ Aside0 (kq ≤ kj1) ∧ Aside0 (Kd.R k45 45 wc w.heap.size (fun _ => True) (.slice Ao7 y180.length co7) y180) ∧ Aside0 (Kd.R k47 47 wc w.heap.size (fun _ => True) (.slice Ao46 y204.length co46) y204) ∧ Aside0 (Kd.R k51 51 wc w.heap.size (fun _ => True) v209 t207) ∧ Aside0 (Below w.heap.size w wc))
    case first =>
     have H := HC43.out
     clear HC43
     by_cases c48 : t208 = 0
     ·rw [if_pos c48] at H
      have c48b0 : (t208 == 0) = true := beq_iff_eq.mpr c48
      have c48b1 : (t208 != 0) = false := bne_eq_false_iff_eq.mpr c48
      clear c48
      (skip)
      obtain ⟨y211, hy211⟩ : ∃ y_ : List (S51), y_ = (([(⟨1, 0, 2⟩ : S51), (⟨2, 2, 3⟩ : S51), (⟨2, 8, 9⟩ : S51), (⟨1, 9, 11⟩ : S51)] : List (S51))) := ⟨_, rfl⟩
      replace H : ((letterbaglaw30_sliced.f kj1 t207 y211).bind fun t214 => (if t214 = true then ((shift_Late.f kj1 y180 t207).bind fun t215 => ((letterbagkit_SameInts.f kj1 t215 (([1, 2] : List Int))).bind fun t221 => (letterbaglaw30_awake.j1 kj1 y180 y204 t207 (!t221)))) else (letterbaglaw30_awake.j1 kj1 y180 y204 t207 true))) = some r := by (rw [hy211]; with_reducible exact H)
      have Ny211 := Aside0.mk hy211
      clear hy211
      replace H := Option.bind_eq_some_iff.mp H
      obtain ⟨t214, A490, H⟩ := H
      replace H : (if t214 = true then ((shift_Late.f kj1 y180 t207).bind fun t215 => ((letterbagkit_SameInts.f kj1 t215 (([1, 2] : List Int))).bind fun t221 => (letterbaglaw30_awake.j1 kj1 y180 y204 t207 (!t221)))) else (letterbaglaw30_awake.j1 kj1 y180 y204 t207 true)) = some r := H
      have A49 := Aside0.mk A490
      clear A490
      by_cases c50 : t214 = true
      ·subst c50
       have H1 : ((shift_Late.f kj1 y180 t207).bind fun t215 => ((letterbagkit_SameInts.f kj1 t215 (([1, 2] : List Int))).bind fun t221 => (letterbaglaw30_awake.j1 kj1 y180 y204 t207 (!t221)))) = some r := by rw [if_pos rfl] at H; exact H
       clear H
       have H := H1
       clear H1
       replace H := Option.bind_eq_some_iff.mp H
       obtain ⟨t215, A510, H⟩ := H
       replace H : ((letterbagkit_SameInts.f kj1 t215 (([1, 2] : List Int))).bind fun t221 => (letterbaglaw30_awake.j1 kj1 y180 y204 t207 (!t221))) = some r := H
       have A51 := Aside0.mk A510
       clear A510
       obtain ⟨y218, hy218⟩ : ∃ y_ : List Int, y_ = (([1, 2] : List Int)) := ⟨_, rfl⟩
       replace H : ((letterbagkit_SameInts.f kj1 t215 y218).bind fun t221 => (letterbaglaw30_awake.j1 kj1 y180 y204 t207 (!t221))) = some r := by (rw [hy218]; with_reducible exact H)
       have Ny218 := Aside0.mk hy218
       clear hy218
       replace H := Option.bind_eq_some_iff.mp H
       obtain ⟨t221, A520, H⟩ := H
       replace H : (letterbaglaw30_awake.j1 kj1 y180 y204 t207 (!t221)) = some r := H
       have A52 := Aside0.mk A520
       clear A520
       have H' := Aside0.mk H
       clear H
       go_wp2_with (first | ((with_reducible refine gate_dst (N := 65) rfl ?_); (try (refine gate_guard (by rfl) ?_; dsimp only)); refine Kd.R_lit k51 _ 51 ?hg (N := 65) ?hd (xs := ([(⟨1, 0, 2⟩ : S51), (⟨2, 2, 3⟩ : S51), (⟨2, 8, 9⟩ : S51), (⟨1, 9, 11⟩ : S51)] : List (S51))) (inner := [.int .i64 1, .int .i64 0, .int .i64 2, .int .i64 2, .int .i64 2, .int .i64 3, .int .i64 2, .int .i64 8, .int .i64 9, .int .i64 1, .int .i64 9, .int .i64 11]) (ok := fun _ => True) (okp := fun _ => True) ?hr ?hp (fun _ hk => hk) trivial (Below.refl _ _) (Nat.le_refl _) (by simp) ?_; (case hd => rfl); (case hg => rfl); (case hr => (go_simp; done)); (case hp => exact (Reps.c3 (show Kd.M k51 _ _ _ (⟨1, 0, 2⟩ : S51) [.int .i64 1, .int .i64 0, .int .i64 2] from (k51_mkM _ _ _ (⟨1, 0, 2⟩ : S51) )) (Reps.c3 (show Kd.M k51 _ _ _ (⟨2, 2, 3⟩ : S51) [.int .i64 2, .int .i64 2, .int .i64 3] from (k51_mkM _ _ _ (⟨2, 2, 3⟩ : S51) )) (Reps.c3 (show Kd.M k51 _ _ _ (⟨2, 8, 9⟩ : S51) [.int .i64 2, .int .i64 8, .int .i64 9] from (k51_mkM _ _ _ (⟨2, 8, 9⟩ : S51) )) (Reps.c3 (show Kd.M k51 _ _ _ (⟨1, 9, 11⟩ : S51) [.int .i64 1, .int .i64 9, .int .i64 11] from (k51_mkM _ _ _ (⟨1, 9, 11⟩ : S51) )) (Reps.none _ _)))))); intro v212 w53 ho54 hb hg_ hnew_; clear hg_ hnew_; (rw [← Ny211.out] at ho54); have n0_ := Aside0.mk (Kd.R_below (by (with_reducible repeat (fail)); exact HO_1.out) hb); have n1_ := Aside0.mk (Kd.R_below (by (with_reducible repeat (fail)); exact HO206.out) hb); have n2_ := Aside0.mk (Kd.R_elder' (by (with_reducible repeat (fail)); exact HO210.out) (Kd.R_base ho54) hb); have n3_ := Aside0.mk (Kd.R_lower (Kd.R_new' ho54 (Kd.R_lt (by (with_reducible repeat (fail)); exact HO210.out))) (below_size (by repeat ((with_reducible exact HB.out))))); have n4_ := Aside0.mk (below_step (by repeat ((with_reducible exact HB.out))) hb); clear HO_1; clear HO206; clear HO210; clear HB; have HO_1 := n0_; have HO206 := n1_; have HO210 := n2_; have HO213 := n3_; have HB := n4_; clear n0_ n1_ n2_ n3_ n4_; clear hb ho54; obtain ⟨Ao55, co55, eo55⟩ := Kd.R_slice HO210.out; subst eo55; obtain ⟨Ao56, co56, eo56⟩ := Kd.R_slice HO213.out; subst eo56) | (go_at_call 20; (with_reducible refine (letterbaglaw30_sliced.calls kj1 _ _ t207 _ _ y211 true _ ?side1 ?side2 ?side3 ?side4 A49.out).mono ?_); (case side1 => repeat (exact (Kd.R_reads' HO210.out).2.2)); (case side2 => exact (Kd.R_reads' HO210.out).2.1); (case side3 => repeat (exact (Kd.R_reads' HO213.out).2.2)); (case side4 => exact (Kd.R_reads' HO213.out).2.1); rintro e w' ⟨rfl, ⟨nd, rfl⟩⟩) | (go_at_call 15; (with_reducible refine (shift_Late.calls kj1 _ _ y180 _ _ t207 t215 _ ?side1 ?side2 ?side3 ?side4 A51.out).mono ?_); (case side1 => repeat (exact (Kd.R_reads' HO_1.out).2.2)); (case side2 => exact (Kd.R_reads' HO_1.out).2.1); (case side3 => repeat (exact (Kd.R_reads' HO210.out).2.2)); (case side4 => exact (Kd.R_reads' HO210.out).2.1); rintro e w57 ⟨v216, rfl, ho0, hb⟩; have n0_ := Aside0.mk (Kd.R_below (by (with_reducible repeat (apply Kd.R_drewN)); exact HO_1.out) hb); have n1_ := Aside0.mk (Kd.R_below (by (with_reducible repeat (apply Kd.R_drewN)); exact HO206.out) hb); have n2_ := Aside0.mk (Kd.R_below (by (with_reducible repeat (apply Kd.R_drewN)); exact HO210.out) hb); have n3_ := Aside0.mk (Kd.R_below (by (with_reducible repeat (apply Kd.R_drewN)); exact HO213.out) hb); have n4_ := Aside0.mk (Kd.R_lower ho0 (below_size (by repeat ((with_reducible first | exact HB.out | apply pw_below_drewN))))); have n5_ := Aside0.mk (below_step (by repeat ((with_reducible first | exact HB.out | apply pw_below_drewN))) hb); clear HO_1; clear HO206; clear HO210; clear HO213; clear HB; have HO_1 := n0_; have HO206 := n1_; have HO210 := n2_; have HO213 := n3_; have HO217 := n4_; have HB := n5_; clear n0_ n1_ n2_ n3_ n4_ n5_; (try clear hb); (try clear hb2); (try clear hk); (try clear hi); (try clear ho0)) | ((with_reducible refine gate_dst (N := 73) rfl ?_); (try (refine gate_guard (by rfl) ?_; dsimp only)); refine Kd.R_lit (Kd.int .i64) _ 3 ?hg (N := 73) ?hd (xs := ([1, 2] : List Int)) (inner := [.int .i64 1, .int .i64 2]) (ok := fun _ => True) (okp := fun _ => True) ?hr ?hp (fun _ hk => hk) trivial (Below.refl _ _) (Nat.le_refl _) (by simp) ?_; (case hd => rfl); (case hg => rfl); (case hr => (go_simp; done)); (case hp => exact (Reps.one (show Kd.M (Kd.int .i64) _ _ _ 1 [.int .i64 1] from rfl) (Reps.one (show Kd.M (Kd.int .i64) _ _ _ 2 [.int .i64 2] from rfl) (Reps.none _ _)))); intro v219 w58 ho59 hb hg_ hnew_; clear hg_ hnew_; (rw [← Ny218.out] at ho59); have n0_ := Aside0.mk (Kd.R_below (by (with_reducible repeat (fail)); exact HO_1.out) hb); have n1_ := Aside0.mk (Kd.R_below (by (with_reducible repeat (fail)); exact HO206.out) hb); have n2_ := Aside0.mk (Kd.R_below (by (with_reducible repeat (fail)); exact HO210.out) hb); have n3_ := Aside0.mk (Kd.R_below (by (with_reducible repeat (fail)); exact HO213.out) hb); have n4_ := Aside0.mk (Kd.R_elder' (by (with_reducible repeat (fail)); exact HO217.out) (Kd.R_base ho59) hb); have n5_ := Aside0.mk (Kd.R_lower (Kd.R_new' ho59 (Kd.R_lt (by (with_reducible repeat (fail)); exact HO217.out))) (below_size (by repeat ((with_reducible exact HB.out))))); have n6_ := Aside0.mk (below_step (by repeat ((with_reducible exact HB.out))) hb); clear HO_1; clear HO206; clear HO210; clear HO213; clear HO217; clear HB; have HO_1 := n0_; have HO206 := n1_; have HO210 := n2_; have HO213 := n3_; have HO217 := n4_; have HO220 := n5_; have HB := n6_; clear n0_ n1_ n2_ n3_ n4_ n5_ n6_; clear hb ho59; obtain ⟨Ao60, co60, eo60⟩ := Kd.R_slice HO217.out; subst eo60; obtain ⟨Ao61, co61, eo61⟩ := Kd.R_slice HO220.out; subst eo61) | (go_at_call 21; (with_reducible refine (letterbagkit_SameInts.calls kj1 _ _ t215 _ _ y218 t221 _ ?side1 ?side2 ?side3 ?side4 A52.out).mono ?_); (case side1 => repeat (exact (Kd.R_reads' HO217.out).2.2)); (case side2 => exact (Kd.R_reads' HO217.out).2.1); (case side3 => repeat (exact (Kd.R_reads' HO220.out).2.2)); (case side4 => exact (Kd.R_reads' HO220.out).2.1); rintro e w' ⟨rfl, ⟨nd, rfl⟩⟩))
       go_meet
       case rel => exact ⟨_, (!t221), (by rfl), H', ⟨by have := HJ1.out; omega⟩, ⟨by (with_reducible repeat (apply Kd.R_drewN)); exact HO_1.out⟩, ⟨by (with_reducible repeat (apply Kd.R_drewN)); exact HO206.out⟩, ⟨by (with_reducible repeat (apply Kd.R_drewN)); exact Kd.R_mono HO210.out (fun _ hk => trivial)⟩, ⟨by repeat ((with_reducible first | exact HB.out | apply pw_below_drewN))⟩⟩
      ·replace c50 := Bool.eq_false_iff.mpr c50
       subst c50
       have H1 : (letterbaglaw30_awake.j1 kj1 y180 y204 t207 true) = some r := by rw [if_neg (show ¬ (false = true) by decide)] at H; exact H
       clear H
       have H := H1
       clear H1
       have H' := Aside0.mk H
       clear H
       go_wp2_with (first | ((with_reducible refine gate_dst (N := 65) rfl ?_); (try (refine gate_guard (by rfl) ?_; dsimp only)); refine Kd.R_lit k51 _ 51 ?hg (N := 65) ?hd (xs := ([(⟨1, 0, 2⟩ : S51), (⟨2, 2, 3⟩ : S51), (⟨2, 8, 9⟩ : S51), (⟨1, 9, 11⟩ : S51)] : List (S51))) (inner := [.int .i64 1, .int .i64 0, .int .i64 2, .int .i64 2, .int .i64 2, .int .i64 3, .int .i64 2, .int .i64 8, .int .i64 9, .int .i64 1, .int .i64 9, .int .i64 11]) (ok := fun _ => True) (okp := fun _ => True) ?hr ?hp (fun _ hk => hk) trivial (Below.refl _ _) (Nat.le_refl _) (by simp) ?_; (case hd => rfl); (case hg => rfl); (case hr => (go_simp; done)); (case hp => exact (Reps.c3 (show Kd.M k51 _ _ _ (⟨1, 0, 2⟩ : S51) [.int .i64 1, .int .i64 0, .int .i64 2] from (k51_mkM _ _ _ (⟨1, 0, 2⟩ : S51) )) (Reps.c3 (show Kd.M k51 _ _ _ (⟨2, 2, 3⟩ : S51) [.int .i64 2, .int .i64 2, .int .i64 3] from (k51_mkM _ _ _ (⟨2, 2, 3⟩ : S51) )) (Reps.c3 (show Kd.M k51 _ _ _ (⟨2, 8, 9⟩ : S51) [.int .i64 2, .int .i64 8, .int .i64 9] from (k51_mkM _ _ _ (⟨2, 8, 9⟩ : S51) )) (Reps.c3 (show Kd.M k51 _ _ _ (⟨1, 9, 11⟩ : S51) [.int .i64 1, .int .i64 9, .int .i64 11] from (k51_mkM _ _ _ (⟨1, 9, 11⟩ : S51) )) (Reps.none _ _)))))); intro v212 w62 ho63 hb hg_ hnew_; clear hg_ hnew_; (rw [← Ny211.out] at ho63); have n0_ := Aside0.mk (Kd.R_below (by (with_reducible repeat (fail)); exact HO_1.out) hb); have n1_ := Aside0.mk (Kd.R_below (by (with_reducible repeat (fail)); exact HO206.out) hb); have n2_ := Aside0.mk (Kd.R_elder' (by (with_reducible repeat (fail)); exact HO210.out) (Kd.R_base ho63) hb); have n3_ := Aside0.mk (Kd.R_lower (Kd.R_new' ho63 (Kd.R_lt (by (with_reducible repeat (fail)); exact HO210.out))) (below_size (by repeat ((with_reducible exact HB.out))))); have n4_ := Aside0.mk (below_step (by repeat ((with_reducible exact HB.out))) hb); clear HO_1; clear HO206; clear HO210; clear HB; have HO_1 := n0_; have HO206 := n1_; have HO210 := n2_; have HO213 := n3_; have HB := n4_; clear n0_ n1_ n2_ n3_ n4_; clear hb ho63; obtain ⟨Ao64, co64, eo64⟩ := Kd.R_slice HO210.out; subst eo64; obtain ⟨Ao65, co65, eo65⟩ := Kd.R_slice HO213.out; subst eo65) | (go_at_call 20; (with_reducible refine (letterbaglaw30_sliced.calls kj1 _ _ t207 _ _ y211 false _ ?side1 ?side2 ?side3 ?side4 A49.out).mono ?_); (case side1 => repeat (exact (Kd.R_reads' HO210.out).2.2)); (case side2 => exact (Kd.R_reads' HO210.out).2.1); (case side3 => repeat (exact (Kd.R_reads' HO213.out).2.2)); (case side4 => exact (Kd.R_reads' HO213.out).2.1); rintro e w' ⟨rfl, ⟨nd, rfl⟩⟩))
       go_meet
       case rel => exact ⟨_, (true), (by rfl), H', ⟨by have := HJ1.out; omega⟩, ⟨by (with_reducible repeat (apply Kd.R_drewN)); exact HO_1.out⟩, ⟨by (with_reducible repeat (apply Kd.R_drewN)); exact HO206.out⟩, ⟨by (with_reducible repeat (apply Kd.R_drewN)); exact Kd.R_mono HO210.out (fun _ hk => trivial)⟩, ⟨by repeat ((with_reducible first | exact HB.out | apply pw_below_drewN))⟩⟩
     ·rw [if_neg c48] at H
      have c48b0 : (t208 == 0) = false := beq_eq_false_iff_ne.mpr c48
      have c48b1 : (t208 != 0) = true := bne_iff_ne.mpr c48
      (skip)
      have H' := Aside0.mk H
      clear H
      go_wp2
      go_meet
      case rel => exact ⟨_, (true), (by rfl), H', ⟨by have := HJ1.out; omega⟩, ⟨by (with_reducible repeat (fail)); exact HO_1.out⟩, ⟨by (with_reducible repeat (fail)); exact HO206.out⟩, ⟨by (with_reducible repeat (fail)); exact HO210.out⟩, ⟨by repeat ((with_reducible exact HB.out))⟩⟩
    case rest =>
     clear HC43
     try clear c1
     try clear c2
     try clear p2
     try clear c3
     try clear c4
     try clear c5
     try clear c10
     try clear c10b0
     try clear c10b1
     try clear c12
     try clear c15
     try clear c17
     try clear c41
     try clear c48
     try clear c48b0
     try clear c48b1
     try clear c50
     try clear p2
     obtain ⟨kq, x76_42, rfl, HA, HJ42, HO_1, HO_4, HO_5, HB⟩ := hcut
     cases kq with
     | zero => exact absurd HA.out (by simp [letterbaglaw30_awake.j1])
     | succ kj42 =>
      have H := HA.out
      clear HA
      simp only [letterbaglaw30_awake.j1] at H
      by_cases c66 : x76_42 = true
      ·subst c66
       have H1 : (some false) = some r := by rw [if_pos rfl] at H; exact H
       clear H
       have H := H1
       clear H1
       obtain rfl := Option.some.inj H
       go_wp2
       go_ret
       exact ⟨by rfl, by repeat ((with_reducible exact HB.out))⟩
      ·replace c66 := Bool.eq_false_iff.mpr c66
       subst c66
       have H1 : ((shift_Excess.f kj42 y180 y204).bind fun bt222 => ((shift_Check.f y180 y204 t207).bind fun bt226 => (if bt222.1 = 2 then (if bt222.2.1 = 5 then (if bt222.2.2.1 = true then (if bt226.1 = 0 then (letterbaglaw30_awake.j2 kj42 y180 y204 ((wrap64 (bt222.2.2.2 + bt226.2)) != 0)) else (letterbaglaw30_awake.j2 kj42 y180 y204 true)) else (letterbaglaw30_awake.j2 kj42 y180 y204 true)) else (letterbaglaw30_awake.j2 kj42 y180 y204 true)) else (letterbaglaw30_awake.j2 kj42 y180 y204 true)))) = some r := by rw [if_neg (show ¬ (false = true) by decide)] at H; exact H
       clear H
       have H := H1
       clear H1
       replace H := Option.bind_eq_some_iff.mp H
       obtain ⟨⟨t222, t223, t224, t225⟩, A670, H⟩ := H
       replace H : ((shift_Check.f y180 y204 t207).bind fun bt226 => (if t222 = 2 then (if t223 = 5 then (if t224 = true then (if bt226.1 = 0 then (letterbaglaw30_awake.j2 kj42 y180 y204 ((wrap64 (t225 + bt226.2)) != 0)) else (letterbaglaw30_awake.j2 kj42 y180 y204 true)) else (letterbaglaw30_awake.j2 kj42 y180 y204 true)) else (letterbaglaw30_awake.j2 kj42 y180 y204 true)) else (letterbaglaw30_awake.j2 kj42 y180 y204 true))) = some r := H
       have A67 := Aside0.mk A670
       clear A670
       replace H := Option.bind_eq_some_iff.mp H
       obtain ⟨⟨t226, t227⟩, A680, H⟩ := H
       replace H : (if t222 = 2 then (if t223 = 5 then (if t224 = true then (if t226 = 0 then (letterbaglaw30_awake.j2 kj42 y180 y204 ((wrap64 (t225 + t227)) != 0)) else (letterbaglaw30_awake.j2 kj42 y180 y204 true)) else (letterbaglaw30_awake.j2 kj42 y180 y204 true)) else (letterbaglaw30_awake.j2 kj42 y180 y204 true)) else (letterbaglaw30_awake.j2 kj42 y180 y204 true)) = some r := H
       have A68 := Aside0.mk A680
       clear A680
       have HC69 := Aside0.mk H
       clear H
       go_upto_region 11 with (first | ((with_reducible refine gate_callee (f := 18) rfl ?_); refine goesL_ (some 80) rfl rfl Try.func18 (by kernel_rfl) rfl #[.slice Ao7 y180.length co7, .slice Ao46 y204.length co46] rfl (by (try simp only [List.map_toArray, List.map_cons, List.map_nil]); rfl) ?_; (with_reducible refine (shift_Excess.calls kj42 _ _ y180 _ _ y204 t222 t223 t224 t225 _ ?side1 ?side2 ?side3 ?side4 A67.out).mono ?_); (case side1 => repeat (exact (Kd.R_reads' HO_1.out).2.2)); (case side2 => exact (Kd.R_reads' HO_1.out).2.1); (case side3 => repeat (exact (Kd.R_reads' HO_4.out).2.2)); (case side4 => exact (Kd.R_reads' HO_4.out).2.1); rintro e w70 ⟨rfl, hb⟩; refine ⟨_, rfl, ?_⟩; have n0_ := Aside0.mk (Kd.R_below (by (with_reducible repeat (fail)); exact HO_1.out) hb); have n1_ := Aside0.mk (Kd.R_below (by (with_reducible repeat (fail)); exact HO_4.out) hb); have n2_ := Aside0.mk (Kd.R_below (by (with_reducible repeat (fail)); exact HO_5.out) hb); have n3_ := Aside0.mk (below_step (by repeat ((with_reducible exact HB.out))) hb); clear HO_1; clear HO_4; clear HO_5; clear HB; have HO_1 := n0_; have HO_4 := n1_; have HO_5 := n2_; have HB := n3_; clear n0_ n1_ n2_ n3_; (try clear hb); (try clear hb2); (try clear hk); (try clear hi); obtain ⟨Ao71, co71, eo71⟩ := Kd.R_slice HO_5.out; subst eo71) | ((with_reducible refine gate_callee (f := 14) rfl ?_); refine goesL_ (some 89) rfl rfl Try.func14 (by kernel_rfl) rfl #[.slice Ao7 y180.length co7, .slice Ao46 y204.length co46, .slice Ao71 t207.length co71] rfl (by (try simp only [List.map_toArray, List.map_cons, List.map_nil]); rfl) ?_; (with_reducible refine (shift_Check.calls _ _ y180 _ _ y204 _ _ t207 t226 t227 _ ?side1 ?side2 ?side3 ?side4 ?side5 ?side6 A68.out).mono ?_); (case side1 => repeat (exact (Kd.R_reads' HO_1.out).2.2)); (case side2 => exact (Kd.R_reads' HO_1.out).2.1); (case side3 => repeat (exact (Kd.R_reads' HO_4.out).2.2)); (case side4 => exact (Kd.R_reads' HO_4.out).2.1); (case side5 => repeat (exact (Kd.R_reads' HO_5.out).2.2)); (case side6 => exact (Kd.R_reads' HO_5.out).2.1); rintro e w72 ⟨rfl, hb⟩; refine ⟨_, rfl, ?_⟩; have n0_ := Aside0.mk (Kd.R_below (by (with_reducible repeat (fail)); exact HO_1.out) hb); have n1_ := Aside0.mk (Kd.R_below (by (with_reducible repeat (fail)); exact HO_4.out) hb); have n2_ := Aside0.mk (Kd.R_below (by (with_reducible repeat (fail)); exact HO_5.out) hb); have n3_ := Aside0.mk (below_step (by repeat ((with_reducible exact HB.out))) hb); clear HO_1; clear HO_4; clear HO_5; clear HB; have HO_1 := n0_; have HO_4 := n1_; have HO_5 := n2_; have HB := n3_; clear n0_ n1_ n2_ n3_; (try clear hb); (try clear hb2); (try clear hk); (try clear hi)))
       (try simp only [Act.put, List.setIfInBounds_toArray, List.set_cons_zero, List.set_cons_succ])
       go_cut [111] (fun v111 wc => ∃ (kq : Nat) (x111_68 : Bool), v111 = .bool x111_68 ∧ Aside0 (letterbaglaw30_awake.j2 kq y180 y204 x111_68 = some r) ∧ Aside0 (kq ≤ kj42) ∧ Aside0 (Kd.R k45 45 wc w.heap.size (fun _ => True) (.slice Ao7 y180.length co7) y180) ∧ Aside0 (Kd.R k47 47 wc w.heap.size (fun _ => True) (.slice Ao46 y204.length co46) y204) ∧ Aside0 (Below w.heap.size w wc))
       case first =>
        have H := HC69.out
        clear HC69
        by_cases c73 : t222 = 2
        ·rw [if_pos c73] at H
         have c73b0 : (t222 == 2) = true := beq_iff_eq.mpr c73
         have c73b1 : (t222 != 2) = false := bne_eq_false_iff_eq.mpr c73
         clear c73
         (skip)
         by_cases c74 : t223 = 5
         ·rw [if_pos c74] at H
          have c74b0 : (t223 == 5) = true := beq_iff_eq.mpr c74
          have c74b1 : (t223 != 5) = false := bne_eq_false_iff_eq.mpr c74
          clear c74
          by_cases c75 : t224 = true
          ·subst c75
           have H1 : (if t226 = 0 then (letterbaglaw30_awake.j2 kj42 y180 y204 ((wrap64 (t225 + t227)) != 0)) else (letterbaglaw30_awake.j2 kj42 y180 y204 true)) = some r := by rw [if_pos rfl] at H; exact H
           clear H
           have H := H1
           clear H1
           by_cases c76 : t226 = 0
           ·rw [if_pos c76] at H
            have c76b0 : (t226 == 0) = true := beq_iff_eq.mpr c76
            have c76b1 : (t226 != 0) = false := bne_eq_false_iff_eq.mpr c76
            clear c76
            have H' := Aside0.mk H
            clear H
            go_wp2
            go_meet
            case rel => exact ⟨_, (((wrap64 (t225 + t227)) != 0)), (by rfl), H', ⟨by have := HJ1.out; have := HJ42.out; omega⟩, ⟨by (with_reducible repeat (fail)); exact HO_1.out⟩, ⟨by (with_reducible repeat (fail)); exact HO_4.out⟩, ⟨by repeat ((with_reducible exact HB.out))⟩⟩
           ·rw [if_neg c76] at H
            have c76b0 : (t226 == 0) = false := beq_eq_false_iff_ne.mpr c76
            have c76b1 : (t226 != 0) = true := bne_iff_ne.mpr c76
            have H' := Aside0.mk H
            clear H
            go_wp2
            go_meet
            case rel => exact ⟨_, (true), (by rfl), H', ⟨by have := HJ1.out; have := HJ42.out; omega⟩, ⟨by (with_reducible repeat (fail)); exact HO_1.out⟩, ⟨by (with_reducible repeat (fail)); exact HO_4.out⟩, ⟨by repeat ((with_reducible exact HB.out))⟩⟩
          ·replace c75 := Bool.eq_false_iff.mpr c75
           subst c75
           have H1 : (letterbaglaw30_awake.j2 kj42 y180 y204 true) = some r := by rw [if_neg (show ¬ (false = true) by decide)] at H; exact H
           clear H
           have H := H1
           clear H1
           have H' := Aside0.mk H
           clear H
           go_wp2
           go_meet
           case rel => exact ⟨_, (true), (by rfl), H', ⟨by have := HJ1.out; have := HJ42.out; omega⟩, ⟨by (with_reducible repeat (fail)); exact HO_1.out⟩, ⟨by (with_reducible repeat (fail)); exact HO_4.out⟩, ⟨by repeat ((with_reducible exact HB.out))⟩⟩
         ·rw [if_neg c74] at H
          have c74b0 : (t223 == 5) = false := beq_eq_false_iff_ne.mpr c74
          have c74b1 : (t223 != 5) = true := bne_iff_ne.mpr c74
          have H' := Aside0.mk H
          clear H
          go_wp2
          go_meet
          case rel => exact ⟨_, (true), (by rfl), H', ⟨by have := HJ1.out; have := HJ42.out; omega⟩, ⟨by (with_reducible repeat (fail)); exact HO_1.out⟩, ⟨by (with_reducible repeat (fail)); exact HO_4.out⟩, ⟨by repeat ((with_reducible exact HB.out))⟩⟩
        ·rw [if_neg c73] at H
         have c73b0 : (t222 == 2) = false := beq_eq_false_iff_ne.mpr c73
         have c73b1 : (t222 != 2) = true := bne_iff_ne.mpr c73
         (skip)
         have H' := Aside0.mk H
         clear H
         go_wp2
         go_meet
         case rel => exact ⟨_, (true), (by rfl), H', ⟨by have := HJ1.out; have := HJ42.out; omega⟩, ⟨by (with_reducible repeat (fail)); exact HO_1.out⟩, ⟨by (with_reducible repeat (fail)); exact HO_4.out⟩, ⟨by repeat ((with_reducible exact HB.out))⟩⟩
       case rest =>
        clear HC69
        try clear c1
        try clear c2
        try clear p2
        try clear c3
        try clear c4
        try clear c5
        try clear c6
        try clear p6
        try clear c7
        try clear c10
        try clear c10b0
        try clear c10b1
        try clear c12
        try clear c14
        try clear c15
        try clear c17
        try clear c18
        try clear c41
        try clear c48
        try clear c48b0
        try clear c48b1
        try clear c50
        try clear p64
        try clear c66
        try clear c73
        try clear c73b0
        try clear c73b1
        try clear c74
        try clear c74b0
        try clear c74b1
        try clear c75
        try clear c76
        try clear c76b0
        try clear c76b1
        try clear p2
        obtain ⟨kq, x111_68, rfl, HA, HJ68, HO_1, HO_4, HB⟩ := hcut
        cases kq with
        | zero => exact absurd HA.out (by simp [letterbaglaw30_awake.j2])
        | succ kj68 =>
         have H := HA.out
         clear HA
         simp only [letterbaglaw30_awake.j2] at H
         by_cases c77 : x111_68 = true
         ·subst c77
          have H1 : (some false) = some r := by rw [if_pos rfl] at H; exact H
          clear H
          have H := H1
          clear H1
          obtain rfl := Option.some.inj H
          go_wp2
          go_ret
          exact ⟨by rfl, by repeat ((with_reducible exact HB.out))⟩
         ·replace c77 := Bool.eq_false_iff.mpr c77
          subst c77
          have H1 : ((shift_Excess.f kj68 (([(⟨9, 5, 3, 1⟩ : S45)] : List (S45))) y204).bind fun bt231 => ((shift_Make.f y180 ([] : List (S47))).bind fun bt235 => (if bt231.1 = 5 then (if bt231.2.1 = 3 then (if bt231.2.2.1 = true then (if (wrap64 (bt231.2.2.2 + bt235.2)) = 0 then (if (bt235.1.length : Int) = 0 then ((shift_Ends.f y180 bt235.1).bind fun t239 => ((letterbagkit_SameInts.f kj68 t239 (([(-1), (-1)] : List Int))).bind fun t245 => (if t245 = true then ((shift_Late.f kj68 y180 bt235.1).bind fun t246 => (some ((t246.length : Int) == 2))) else (some false)))) else (some false)) else (some false)) else (some false)) else (some false)) else (some false)))) = some r := by rw [if_neg (show ¬ (false = true) by decide)] at H; exact H
          clear H
          have H := H1
          clear H1
          obtain ⟨y228, hy228⟩ : ∃ y_ : List (S45), y_ = (([(⟨9, 5, 3, 1⟩ : S45)] : List (S45))) := ⟨_, rfl⟩
          replace H : ((shift_Excess.f kj68 y228 y204).bind fun bt231 => ((shift_Make.f y180 ([] : List (S47))).bind fun bt235 => (if bt231.1 = 5 then (if bt231.2.1 = 3 then (if bt231.2.2.1 = true then (if (wrap64 (bt231.2.2.2 + bt235.2)) = 0 then (if (bt235.1.length : Int) = 0 then ((shift_Ends.f y180 bt235.1).bind fun t239 => ((letterbagkit_SameInts.f kj68 t239 (([(-1), (-1)] : List Int))).bind fun t245 => (if t245 = true then ((shift_Late.f kj68 y180 bt235.1).bind fun t246 => (some ((t246.length : Int) == 2))) else (some false)))) else (some false)) else (some false)) else (some false)) else (some false)) else (some false)))) = some r := by (rw [hy228]; with_reducible exact H)
          have Ny228 := Aside0.mk hy228
          clear hy228
          replace H := Option.bind_eq_some_iff.mp H
          obtain ⟨⟨t231, t232, t233, t234⟩, A780, H⟩ := H
          replace H : ((shift_Make.f y180 ([] : List (S47))).bind fun bt235 => (if t231 = 5 then (if t232 = 3 then (if t233 = true then (if (wrap64 (t234 + bt235.2)) = 0 then (if (bt235.1.length : Int) = 0 then ((shift_Ends.f y180 bt235.1).bind fun t239 => ((letterbagkit_SameInts.f kj68 t239 (([(-1), (-1)] : List Int))).bind fun t245 => (if t245 = true then ((shift_Late.f kj68 y180 bt235.1).bind fun t246 => (some ((t246.length : Int) == 2))) else (some false)))) else (some false)) else (some false)) else (some false)) else (some false)) else (some false))) = some r := H
          have A78 := Aside0.mk A780
          clear A780
          replace H := Option.bind_eq_some_iff.mp H
          obtain ⟨⟨t235, t236⟩, A790, H⟩ := H
          replace H : (if t231 = 5 then (if t232 = 3 then (if t233 = true then (if (wrap64 (t234 + t236)) = 0 then (if (t235.length : Int) = 0 then ((shift_Ends.f y180 t235).bind fun t239 => ((letterbagkit_SameInts.f kj68 t239 (([(-1), (-1)] : List Int))).bind fun t245 => (if t245 = true then ((shift_Late.f kj68 y180 t235).bind fun t246 => (some ((t246.length : Int) == 2))) else (some false)))) else (some false)) else (some false)) else (some false)) else (some false)) else (some false)) = some r := H
          have A79 := Aside0.mk A790
          clear A790
          by_cases c80 : t231 = 5
          ·rw [if_pos c80] at H
           have c80b0 : (t231 == 5) = true := beq_iff_eq.mpr c80
           have c80b1 : (t231 != 5) = false := bne_eq_false_iff_eq.mpr c80
           clear c80
           by_cases c81 : t232 = 3
           ·rw [if_pos c81] at H
            have c81b0 : (t232 == 3) = true := beq_iff_eq.mpr c81
            have c81b1 : (t232 != 3) = false := bne_eq_false_iff_eq.mpr c81
            clear c81
            by_cases c82 : t233 = true
            ·subst c82
             have H1 : (if (wrap64 (t234 + t236)) = 0 then (if (t235.length : Int) = 0 then ((shift_Ends.f y180 t235).bind fun t239 => ((letterbagkit_SameInts.f kj68 t239 (([(-1), (-1)] : List Int))).bind fun t245 => (if t245 = true then ((shift_Late.f kj68 y180 t235).bind fun t246 => (some ((t246.length : Int) == 2))) else (some false)))) else (some false)) else (some false)) = some r := by rw [if_pos rfl] at H; exact H
             clear H
             have H := H1
             clear H1
             by_cases c83 : (wrap64 (t234 + t236)) = 0
             ·rw [if_pos c83] at H
              have c83b0 : ((wrap64 (t234 + t236)) == 0) = true := beq_iff_eq.mpr c83
              have c83b1 : ((wrap64 (t234 + t236)) != 0) = false := bne_eq_false_iff_eq.mpr c83
              clear c83
              by_cases c84 : (t235.length : Int) = 0
              ·rw [if_pos c84] at H
               have c84b0 : ((t235.length : Int) == 0) = true := beq_iff_eq.mpr c84
               have c84b1 : ((t235.length : Int) != 0) = false := bne_eq_false_iff_eq.mpr c84
               clear c84
               replace H := Option.bind_eq_some_iff.mp H
               obtain ⟨t239, A850, H⟩ := H
               replace H : ((letterbagkit_SameInts.f kj68 t239 (([(-1), (-1)] : List Int))).bind fun t245 => (if t245 = true then ((shift_Late.f kj68 y180 t235).bind fun t246 => (some ((t246.length : Int) == 2))) else (some false))) = some r := H
               have A85 := Aside0.mk A850
               clear A850
               obtain ⟨y242, hy242⟩ : ∃ y_ : List Int, y_ = (([(-1), (-1)] : List Int)) := ⟨_, rfl⟩
               replace H : ((letterbagkit_SameInts.f kj68 t239 y242).bind fun t245 => (if t245 = true then ((shift_Late.f kj68 y180 t235).bind fun t246 => (some ((t246.length : Int) == 2))) else (some false))) = some r := by (rw [hy242]; with_reducible exact H)
               have Ny242 := Aside0.mk hy242
               clear hy242
               replace H := Option.bind_eq_some_iff.mp H
               obtain ⟨t245, A860, H⟩ := H
               replace H : (if t245 = true then ((shift_Late.f kj68 y180 t235).bind fun t246 => (some ((t246.length : Int) == 2))) else (some false)) = some r := H
               have A86 := Aside0.mk A860
               clear A860
               by_cases c87 : t245 = true
               ·subst c87
                have H1 : ((shift_Late.f kj68 y180 t235).bind fun t246 => (some ((t246.length : Int) == 2))) = some r := by rw [if_pos rfl] at H; exact H
                clear H
                have H := H1
                clear H1
                replace H := Option.bind_eq_some_iff.mp H
                obtain ⟨t246, A880, H⟩ := H
                replace H : (some ((t246.length : Int) == 2)) = some r := H
                have A88 := Aside0.mk A880
                clear A880
                obtain rfl := Option.some.inj H
                go_wp2_with (first | ((with_reducible refine gate_dst (N := 114) rfl ?_); (try (refine gate_guard (by rfl) ?_; dsimp only)); refine Kd.R_lit k45 _ 45 ?hg (N := 114) ?hd (xs := ([(⟨9, 5, 3, 1⟩ : S45)] : List (S45))) (inner := [.int .i64 9, .int .i64 5, .int .i64 3, .int .i64 1]) (ok := fun _ => True) (okp := fun _ => True) ?hr ?hp (fun _ hk => hk) trivial (Below.refl _ _) (Nat.le_refl _) (by simp) ?_; (case hd => rfl); (case hg => rfl); (case hr => (go_simp; done)); (case hp => exact (Reps.c4 (show Kd.M k45 _ _ _ (⟨9, 5, 3, 1⟩ : S45) [.int .i64 9, .int .i64 5, .int .i64 3, .int .i64 1] from (k45_mkM _ _ _ (⟨9, 5, 3, 1⟩ : S45) )) (Reps.none _ _))); intro v229 w89 ho90 hb hg_ hnew_; clear hg_ hnew_; (rw [← Ny228.out] at ho90); have n0_ := Aside0.mk (Kd.R_elder' (by (with_reducible repeat (fail)); exact HO_1.out) (Kd.R_base ho90) hb); have n1_ := Aside0.mk (Kd.R_below (by (with_reducible repeat (fail)); exact HO_4.out) hb); have n2_ := Aside0.mk (Kd.R_lower (Kd.R_new' ho90 (Kd.R_lt (by (with_reducible repeat (fail)); exact HO_1.out))) (below_size (by repeat ((with_reducible exact HB.out))))); have n3_ := Aside0.mk (below_step (by repeat ((with_reducible exact HB.out))) hb); clear HO_1; clear HO_4; clear HB; have HO_1 := n0_; have HO_4 := n1_; have HO230 := n2_; have HB := n3_; clear n0_ n1_ n2_ n3_; clear hb ho90; obtain ⟨Ao91, co91, eo91⟩ := Kd.R_slice HO230.out; subst eo91) | ((with_reducible refine gate_callee (f := 18) rfl ?_); refine goesL_ (some 116) rfl rfl Try.func18 (by kernel_rfl) rfl #[.slice Ao91 y228.length co91, .slice Ao46 y204.length co46] rfl (by (try simp only [List.map_toArray, List.map_cons, List.map_nil]); rfl) ?_; (with_reducible refine (shift_Excess.calls kj68 _ _ y228 _ _ y204 t231 t232 true t234 _ ?side1 ?side2 ?side3 ?side4 A78.out).mono ?_); (case side1 => repeat (exact (Kd.R_reads' HO230.out).2.2)); (case side2 => exact (Kd.R_reads' HO230.out).2.1); (case side3 => repeat (exact (Kd.R_reads' HO_4.out).2.2)); (case side4 => exact (Kd.R_reads' HO_4.out).2.1); rintro e w92 ⟨rfl, hb⟩; refine ⟨_, rfl, ?_⟩; have n0_ := Aside0.mk (Kd.R_below (by (with_reducible repeat (fail)); exact HO_1.out) hb); have n1_ := Aside0.mk (Kd.R_below (by (with_reducible repeat (fail)); exact HO_4.out) hb); have n2_ := Aside0.mk (Kd.R_below (by (with_reducible repeat (fail)); exact HO230.out) hb); have n3_ := Aside0.mk (below_step (by repeat ((with_reducible exact HB.out))) hb); clear HO_1; clear HO_4; clear HO230; clear HB; have HO_1 := n0_; have HO_4 := n1_; have HO230 := n2_; have HB := n3_; clear n0_ n1_ n2_ n3_; (try clear hb); (try clear hb2); (try clear hk); (try clear hi)) | ((with_reducible refine gate_callee (f := 12) rfl ?_); refine goesL_ (some 123) rfl rfl Try.func12 (by kernel_rfl) rfl #[.slice Ao7 y180.length co7, .slice none 0 0] rfl (by (try simp only [List.map_toArray, List.map_cons, List.map_nil]); rfl) ?_; (refine (shift_Make.calls _ _ y180 _ _ ([] : List (S47)) t235 t236 _ ?side1 ?side2 ?side3 ?side4 A79.out).mono ?_); (case side1 => repeat (exact (Kd.R_reads' HO_1.out).2.2)); (case side2 => exact (Kd.R_reads' HO_1.out).2.1); (case side3 => exact Kd.C_nil _ _); (case side4 => exact Nat.le_refl _); rintro e w93 ⟨v237, rfl, ho0, hb⟩; refine ⟨_, rfl, ?_⟩; have n0_ := Aside0.mk (Kd.R_below (by (with_reducible repeat (fail)); exact HO_1.out) hb); have n1_ := Aside0.mk (Kd.R_below (by (with_reducible repeat (fail)); exact HO_4.out) hb); have n2_ := Aside0.mk (Kd.R_below (by (with_reducible repeat (fail)); exact HO230.out) hb); have n3_ := Aside0.mk (Kd.R_lower ho0 (below_size (by repeat ((with_reducible exact HB.out))))); have n4_ := Aside0.mk (below_step (by repeat ((with_reducible exact HB.out))) hb); clear HO_1; clear HO_4; clear HO230; clear HB; have HO_1 := n0_; have HO_4 := n1_; have HO230 := n2_; have HO238 := n3_; have HB := n4_; clear n0_ n1_ n2_ n3_ n4_; (try clear hb); (try clear hb2); (try clear hk); (try clear hi); (try clear ho0); obtain ⟨Ao94, co94, eo94⟩ := Kd.R_slice HO238.out; subst eo94) | (go_at_call 22; (with_reducible refine (shift_Ends.calls _ _ y180 _ _ t235 t239 _ ?side1 ?side2 ?side3 ?side4 A85.out).mono ?_); (case side1 => repeat (exact (Kd.R_reads' HO_1.out).2.2)); (case side2 => exact (Kd.R_reads' HO_1.out).2.1); (case side3 => repeat (exact (Kd.R_reads' HO238.out).2.2)); (case side4 => exact (Kd.R_reads' HO238.out).2.1); rintro e w95 ⟨v240, rfl, ho0, hb⟩; have n0_ := Aside0.mk (Kd.R_below (by (with_reducible repeat (fail)); exact HO_1.out) hb); have n1_ := Aside0.mk (Kd.R_below (by (with_reducible repeat (fail)); exact HO_4.out) hb); have n2_ := Aside0.mk (Kd.R_below (by (with_reducible repeat (fail)); exact HO230.out) hb); have n3_ := Aside0.mk (Kd.R_below (by (with_reducible repeat (fail)); exact HO238.out) hb); have n4_ := Aside0.mk (Kd.R_lower ho0 (below_size (by repeat ((with_reducible exact HB.out))))); have n5_ := Aside0.mk (below_step (by repeat ((with_reducible exact HB.out))) hb); clear HO_1; clear HO_4; clear HO230; clear HO238; clear HB; have HO_1 := n0_; have HO_4 := n1_; have HO230 := n2_; have HO238 := n3_; have HO241 := n4_; have HB := n5_; clear n0_ n1_ n2_ n3_ n4_ n5_; (try clear hb); (try clear hb2); (try clear hk); (try clear hi); (try clear ho0)) | ((with_reducible refine gate_dst (N := 150) rfl ?_); (try (refine gate_guard (by rfl) ?_; dsimp only)); refine Kd.R_lit (Kd.int .i64) _ 3 ?hg (N := 150) ?hd (xs := ([(-1), (-1)] : List Int)) (inner := [.int .i64 (-1), .int .i64 (-1)]) (ok := fun _ => True) (okp := fun _ => True) ?hr ?hp (fun _ hk => hk) trivial (Below.refl _ _) (Nat.le_refl _) (by simp) ?_; (case hd => rfl); (case hg => rfl); (case hr => (go_simp; done)); (case hp => exact (Reps.one (show Kd.M (Kd.int .i64) _ _ _ (-1) [.int .i64 (-1)] from rfl) (Reps.one (show Kd.M (Kd.int .i64) _ _ _ (-1) [.int .i64 (-1)] from rfl) (Reps.none _ _)))); intro v243 w96 ho97 hb hg_ hnew_; clear hg_ hnew_; (rw [← Ny242.out] at ho97); have n0_ := Aside0.mk (Kd.R_below (by (with_reducible repeat (fail)); exact HO_1.out) hb); have n1_ := Aside0.mk (Kd.R_below (by (with_reducible repeat (fail)); exact HO_4.out) hb); have n2_ := Aside0.mk (Kd.R_below (by (with_reducible repeat (fail)); exact HO230.out) hb); have n3_ := Aside0.mk (Kd.R_below (by (with_reducible repeat (fail)); exact HO238.out) hb); have n4_ := Aside0.mk (Kd.R_elder' (by (with_reducible repeat (fail)); exact HO241.out) (Kd.R_base ho97) hb); have n5_ := Aside0.mk (Kd.R_lower (Kd.R_new' ho97 (Kd.R_lt (by (with_reducible repeat (fail)); exact HO241.out))) (below_size (by repeat ((with_reducible exact HB.out))))); have n6_ := Aside0.mk (below_step (by repeat ((with_reducible exact HB.out))) hb); clear HO_1; clear HO_4; clear HO230; clear HO238; clear HO241; clear HB; have HO_1 := n0_; have HO_4 := n1_; have HO230 := n2_; have HO238 := n3_; have HO241 := n4_; have HO244 := n5_; have HB := n6_; clear n0_ n1_ n2_ n3_ n4_ n5_ n6_; clear hb ho97; obtain ⟨Ao98, co98, eo98⟩ := Kd.R_slice HO241.out; subst eo98; obtain ⟨Ao99, co99, eo99⟩ := Kd.R_slice HO244.out; subst eo99) | (go_at_call 21; (with_reducible refine (letterbagkit_SameInts.calls kj68 _ _ t239 _ _ y242 true _ ?side1 ?side2 ?side3 ?side4 A86.out).mono ?_); (case side1 => repeat (exact (Kd.R_reads' HO241.out).2.2)); (case side2 => exact (Kd.R_reads' HO241.out).2.1); (case side3 => repeat (exact (Kd.R_reads' HO244.out).2.2)); (case side4 => exact (Kd.R_reads' HO244.out).2.1); rintro e w' ⟨rfl, ⟨nd, rfl⟩⟩) | (go_at_call 15; (with_reducible refine (shift_Late.calls kj68 _ _ y180 _ _ t235 t246 _ ?side1 ?side2 ?side3 ?side4 A88.out).mono ?_); (case side1 => repeat (exact (Kd.R_reads' HO_1.out).2.2)); (case side2 => exact (Kd.R_reads' HO_1.out).2.1); (case side3 => repeat (exact (Kd.R_reads' HO238.out).2.2)); (case side4 => exact (Kd.R_reads' HO238.out).2.1); rintro e w100 ⟨v247, rfl, ho0, hb⟩; have n0_ := Aside0.mk (Kd.R_below (by (with_reducible repeat (apply Kd.R_drewN)); exact HO_1.out) hb); have n1_ := Aside0.mk (Kd.R_below (by (with_reducible repeat (apply Kd.R_drewN)); exact HO_4.out) hb); have n2_ := Aside0.mk (Kd.R_below (by (with_reducible repeat (apply Kd.R_drewN)); exact HO230.out) hb); have n3_ := Aside0.mk (Kd.R_below (by (with_reducible repeat (apply Kd.R_drewN)); exact HO238.out) hb); have n4_ := Aside0.mk (Kd.R_elder' (by (with_reducible repeat (apply Kd.R_drewN)); exact HO241.out) (Kd.R_base ho0) hb); have n5_ := Aside0.mk (Kd.R_elder' (by (with_reducible repeat (apply Kd.R_drewN)); exact HO244.out) (Kd.R_base ho0) hb); have n6_ := Aside0.mk (Kd.R_lower (Kd.R_new' (Kd.R_new' ho0 (Kd.R_lt (by (with_reducible repeat (apply Kd.R_drewN)); exact HO241.out))) (Kd.R_lt (by (with_reducible repeat (apply Kd.R_drewN)); exact HO244.out))) (below_size (by repeat ((with_reducible first | exact HB.out | apply pw_below_drewN))))); have n7_ := Aside0.mk (below_step (by repeat ((with_reducible first | exact HB.out | apply pw_below_drewN))) hb); clear HO_1; clear HO_4; clear HO230; clear HO238; clear HO241; clear HO244; clear HB; have HO_1 := n0_; have HO_4 := n1_; have HO230 := n2_; have HO238 := n3_; have HO241 := n4_; have HO244 := n5_; have HO248 := n6_; have HB := n7_; clear n0_ n1_ n2_ n3_ n4_ n5_ n6_ n7_; (try clear hb); (try clear hb2); (try clear hk); (try clear hi); (try clear ho0); obtain ⟨Ao101, co101, eo101⟩ := Kd.R_slice HO248.out; subst eo101))
                go_ret
                exact ⟨by rfl, by repeat ((with_reducible exact HB.out))⟩
               ·replace c87 := Bool.eq_false_iff.mpr c87
                subst c87
                have H1 : (some false) = some r := by rw [if_neg (show ¬ (false = true) by decide)] at H; exact H
                clear H
                have H := H1
                clear H1
                obtain rfl := Option.some.inj H
                go_wp2_with (first | ((with_reducible refine gate_dst (N := 114) rfl ?_); (try (refine gate_guard (by rfl) ?_; dsimp only)); refine Kd.R_lit k45 _ 45 ?hg (N := 114) ?hd (xs := ([(⟨9, 5, 3, 1⟩ : S45)] : List (S45))) (inner := [.int .i64 9, .int .i64 5, .int .i64 3, .int .i64 1]) (ok := fun _ => True) (okp := fun _ => True) ?hr ?hp (fun _ hk => hk) trivial (Below.refl _ _) (Nat.le_refl _) (by simp) ?_; (case hd => rfl); (case hg => rfl); (case hr => (go_simp; done)); (case hp => exact (Reps.c4 (show Kd.M k45 _ _ _ (⟨9, 5, 3, 1⟩ : S45) [.int .i64 9, .int .i64 5, .int .i64 3, .int .i64 1] from (k45_mkM _ _ _ (⟨9, 5, 3, 1⟩ : S45) )) (Reps.none _ _))); intro v229 w102 ho103 hb hg_ hnew_; clear hg_ hnew_; (rw [← Ny228.out] at ho103); have n0_ := Aside0.mk (Kd.R_elder' (by (with_reducible repeat (fail)); exact HO_1.out) (Kd.R_base ho103) hb); have n1_ := Aside0.mk (Kd.R_below (by (with_reducible repeat (fail)); exact HO_4.out) hb); have n2_ := Aside0.mk (Kd.R_lower (Kd.R_new' ho103 (Kd.R_lt (by (with_reducible repeat (fail)); exact HO_1.out))) (below_size (by repeat ((with_reducible exact HB.out))))); have n3_ := Aside0.mk (below_step (by repeat ((with_reducible exact HB.out))) hb); clear HO_1; clear HO_4; clear HB; have HO_1 := n0_; have HO_4 := n1_; have HO230 := n2_; have HB := n3_; clear n0_ n1_ n2_ n3_; clear hb ho103; obtain ⟨Ao104, co104, eo104⟩ := Kd.R_slice HO230.out; subst eo104) | ((with_reducible refine gate_callee (f := 18) rfl ?_); refine goesL_ (some 116) rfl rfl Try.func18 (by kernel_rfl) rfl #[.slice Ao104 y228.length co104, .slice Ao46 y204.length co46] rfl (by (try simp only [List.map_toArray, List.map_cons, List.map_nil]); rfl) ?_; (with_reducible refine (shift_Excess.calls kj68 _ _ y228 _ _ y204 t231 t232 true t234 _ ?side1 ?side2 ?side3 ?side4 A78.out).mono ?_); (case side1 => repeat (exact (Kd.R_reads' HO230.out).2.2)); (case side2 => exact (Kd.R_reads' HO230.out).2.1); (case side3 => repeat (exact (Kd.R_reads' HO_4.out).2.2)); (case side4 => exact (Kd.R_reads' HO_4.out).2.1); rintro e w105 ⟨rfl, hb⟩; refine ⟨_, rfl, ?_⟩; have n0_ := Aside0.mk (Kd.R_below (by (with_reducible repeat (fail)); exact HO_1.out) hb); have n1_ := Aside0.mk (Kd.R_below (by (with_reducible repeat (fail)); exact HO_4.out) hb); have n2_ := Aside0.mk (Kd.R_below (by (with_reducible repeat (fail)); exact HO230.out) hb); have n3_ := Aside0.mk (below_step (by repeat ((with_reducible exact HB.out))) hb); clear HO_1; clear HO_4; clear HO230; clear HB; have HO_1 := n0_; have HO_4 := n1_; have HO230 := n2_; have HB := n3_; clear n0_ n1_ n2_ n3_; (try clear hb); (try clear hb2); (try clear hk); (try clear hi)) | ((with_reducible refine gate_callee (f := 12) rfl ?_); refine goesL_ (some 123) rfl rfl Try.func12 (by kernel_rfl) rfl #[.slice Ao7 y180.length co7, .slice none 0 0] rfl (by (try simp only [List.map_toArray, List.map_cons, List.map_nil]); rfl) ?_; (refine (shift_Make.calls _ _ y180 _ _ ([] : List (S47)) t235 t236 _ ?side1 ?side2 ?side3 ?side4 A79.out).mono ?_); (case side1 => repeat (exact (Kd.R_reads' HO_1.out).2.2)); (case side2 => exact (Kd.R_reads' HO_1.out).2.1); (case side3 => exact Kd.C_nil _ _); (case side4 => exact Nat.le_refl _); rintro e w106 ⟨v237, rfl, ho0, hb⟩; refine ⟨_, rfl, ?_⟩; have n0_ := Aside0.mk (Kd.R_below (by (with_reducible repeat (fail)); exact HO_1.out) hb); have n1_ := Aside0.mk (Kd.R_below (by (with_reducible repeat (fail)); exact HO_4.out) hb); have n2_ := Aside0.mk (Kd.R_below (by (with_reducible repeat (fail)); exact HO230.out) hb); have n3_ := Aside0.mk (Kd.R_lower ho0 (below_size (by repeat ((with_reducible exact HB.out))))); have n4_ := Aside0.mk (below_step (by repeat ((with_reducible exact HB.out))) hb); clear HO_1; clear HO_4; clear HO230; clear HB; have HO_1 := n0_; have HO_4 := n1_; have HO230 := n2_; have HO238 := n3_; have HB := n4_; clear n0_ n1_ n2_ n3_ n4_; (try clear hb); (try clear hb2); (try clear hk); (try clear hi); (try clear ho0); obtain ⟨Ao107, co107, eo107⟩ := Kd.R_slice HO238.out; subst eo107) | (go_at_call 22; (with_reducible refine (shift_Ends.calls _ _ y180 _ _ t235 t239 _ ?side1 ?side2 ?side3 ?side4 A85.out).mono ?_); (case side1 => repeat (exact (Kd.R_reads' HO_1.out).2.2)); (case side2 => exact (Kd.R_reads' HO_1.out).2.1); (case side3 => repeat (exact (Kd.R_reads' HO238.out).2.2)); (case side4 => exact (Kd.R_reads' HO238.out).2.1); rintro e w108 ⟨v240, rfl, ho0, hb⟩; have n0_ := Aside0.mk (Kd.R_below (by (with_reducible repeat (fail)); exact HO_1.out) hb); have n1_ := Aside0.mk (Kd.R_below (by (with_reducible repeat (fail)); exact HO_4.out) hb); have n2_ := Aside0.mk (Kd.R_below (by (with_reducible repeat (fail)); exact HO230.out) hb); have n3_ := Aside0.mk (Kd.R_below (by (with_reducible repeat (fail)); exact HO238.out) hb); have n4_ := Aside0.mk (Kd.R_lower ho0 (below_size (by repeat ((with_reducible exact HB.out))))); have n5_ := Aside0.mk (below_step (by repeat ((with_reducible exact HB.out))) hb); clear HO_1; clear HO_4; clear HO230; clear HO238; clear HB; have HO_1 := n0_; have HO_4 := n1_; have HO230 := n2_; have HO238 := n3_; have HO241 := n4_; have HB := n5_; clear n0_ n1_ n2_ n3_ n4_ n5_; (try clear hb); (try clear hb2); (try clear hk); (try clear hi); (try clear ho0)) | ((with_reducible refine gate_dst (N := 150) rfl ?_); (try (refine gate_guard (by rfl) ?_; dsimp only)); refine Kd.R_lit (Kd.int .i64) _ 3 ?hg (N := 150) ?hd (xs := ([(-1), (-1)] : List Int)) (inner := [.int .i64 (-1), .int .i64 (-1)]) (ok := fun _ => True) (okp := fun _ => True) ?hr ?hp (fun _ hk => hk) trivial (Below.refl _ _) (Nat.le_refl _) (by simp) ?_; (case hd => rfl); (case hg => rfl); (case hr => (go_simp; done)); (case hp => exact (Reps.one (show Kd.M (Kd.int .i64) _ _ _ (-1) [.int .i64 (-1)] from rfl) (Reps.one (show Kd.M (Kd.int .i64) _ _ _ (-1) [.int .i64 (-1)] from rfl) (Reps.none _ _)))); intro v243 w109 ho110 hb hg_ hnew_; clear hg_ hnew_; (rw [← Ny242.out] at ho110); have n0_ := Aside0.mk (Kd.R_below (by (with_reducible repeat (fail)); exact HO_1.out) hb); have n1_ := Aside0.mk (Kd.R_below (by (with_reducible repeat (fail)); exact HO_4.out) hb); have n2_ := Aside0.mk (Kd.R_below (by (with_reducible repeat (fail)); exact HO230.out) hb); have n3_ := Aside0.mk (Kd.R_below (by (with_reducible repeat (fail)); exact HO238.out) hb); have n4_ := Aside0.mk (Kd.R_elder' (by (with_reducible repeat (fail)); exact HO241.out) (Kd.R_base ho110) hb); have n5_ := Aside0.mk (Kd.R_lower (Kd.R_new' ho110 (Kd.R_lt (by (with_reducible repeat (fail)); exact HO241.out))) (below_size (by repeat ((with_reducible exact HB.out))))); have n6_ := Aside0.mk (below_step (by repeat ((with_reducible exact HB.out))) hb); clear HO_1; clear HO_4; clear HO230; clear HO238; clear HO241; clear HB; have HO_1 := n0_; have HO_4 := n1_; have HO230 := n2_; have HO238 := n3_; have HO241 := n4_; have HO244 := n5_; have HB := n6_; clear n0_ n1_ n2_ n3_ n4_ n5_ n6_; clear hb ho110; obtain ⟨Ao111, co111, eo111⟩ := Kd.R_slice HO241.out; subst eo111; obtain ⟨Ao112, co112, eo112⟩ := Kd.R_slice HO244.out; subst eo112) | (go_at_call 21; (with_reducible refine (letterbagkit_SameInts.calls kj68 _ _ t239 _ _ y242 false _ ?side1 ?side2 ?side3 ?side4 A86.out).mono ?_); (case side1 => repeat (exact (Kd.R_reads' HO241.out).2.2)); (case side2 => exact (Kd.R_reads' HO241.out).2.1); (case side3 => repeat (exact (Kd.R_reads' HO244.out).2.2)); (case side4 => exact (Kd.R_reads' HO244.out).2.1); rintro e w' ⟨rfl, ⟨nd, rfl⟩⟩))
                go_ret
                exact ⟨by rfl, by repeat ((with_reducible first | exact HB.out | apply pw_below_drewN))⟩
              ·rw [if_neg c84] at H
               have c84b0 : ((t235.length : Int) == 0) = false := beq_eq_false_iff_ne.mpr c84
               have c84b1 : ((t235.length : Int) != 0) = true := bne_iff_ne.mpr c84
               have c84b2 : ¬ (t235 = []) := fun h_ => c84 (by rw [h_]; rfl)
               obtain rfl := Option.some.inj H
               go_wp2_with (first | ((with_reducible refine gate_dst (N := 114) rfl ?_); (try (refine gate_guard (by rfl) ?_; dsimp only)); refine Kd.R_lit k45 _ 45 ?hg (N := 114) ?hd (xs := ([(⟨9, 5, 3, 1⟩ : S45)] : List (S45))) (inner := [.int .i64 9, .int .i64 5, .int .i64 3, .int .i64 1]) (ok := fun _ => True) (okp := fun _ => True) ?hr ?hp (fun _ hk => hk) trivial (Below.refl _ _) (Nat.le_refl _) (by simp) ?_; (case hd => rfl); (case hg => rfl); (case hr => (go_simp; done)); (case hp => exact (Reps.c4 (show Kd.M k45 _ _ _ (⟨9, 5, 3, 1⟩ : S45) [.int .i64 9, .int .i64 5, .int .i64 3, .int .i64 1] from (k45_mkM _ _ _ (⟨9, 5, 3, 1⟩ : S45) )) (Reps.none _ _))); intro v229 w113 ho114 hb hg_ hnew_; clear hg_ hnew_; (rw [← Ny228.out] at ho114); have n0_ := Aside0.mk (Kd.R_elder' (by (with_reducible repeat (fail)); exact HO_1.out) (Kd.R_base ho114) hb); have n1_ := Aside0.mk (Kd.R_below (by (with_reducible repeat (fail)); exact HO_4.out) hb); have n2_ := Aside0.mk (Kd.R_lower (Kd.R_new' ho114 (Kd.R_lt (by (with_reducible repeat (fail)); exact HO_1.out))) (below_size (by repeat ((with_reducible exact HB.out))))); have n3_ := Aside0.mk (below_step (by repeat ((with_reducible exact HB.out))) hb); clear HO_1; clear HO_4; clear HB; have HO_1 := n0_; have HO_4 := n1_; have HO230 := n2_; have HB := n3_; clear n0_ n1_ n2_ n3_; clear hb ho114; obtain ⟨Ao115, co115, eo115⟩ := Kd.R_slice HO230.out; subst eo115) | ((with_reducible refine gate_callee (f := 18) rfl ?_); refine goesL_ (some 116) rfl rfl Try.func18 (by kernel_rfl) rfl #[.slice Ao115 y228.length co115, .slice Ao46 y204.length co46] rfl (by (try simp only [List.map_toArray, List.map_cons, List.map_nil]); rfl) ?_; (with_reducible refine (shift_Excess.calls kj68 _ _ y228 _ _ y204 t231 t232 true t234 _ ?side1 ?side2 ?side3 ?side4 A78.out).mono ?_); (case side1 => repeat (exact (Kd.R_reads' HO230.out).2.2)); (case side2 => exact (Kd.R_reads' HO230.out).2.1); (case side3 => repeat (exact (Kd.R_reads' HO_4.out).2.2)); (case side4 => exact (Kd.R_reads' HO_4.out).2.1); rintro e w116 ⟨rfl, hb⟩; refine ⟨_, rfl, ?_⟩; have n0_ := Aside0.mk (Kd.R_below (by (with_reducible repeat (fail)); exact HO_1.out) hb); have n1_ := Aside0.mk (Kd.R_below (by (with_reducible repeat (fail)); exact HO_4.out) hb); have n2_ := Aside0.mk (Kd.R_below (by (with_reducible repeat (fail)); exact HO230.out) hb); have n3_ := Aside0.mk (below_step (by repeat ((with_reducible exact HB.out))) hb); clear HO_1; clear HO_4; clear HO230; clear HB; have HO_1 := n0_; have HO_4 := n1_; have HO230 := n2_; have HB := n3_; clear n0_ n1_ n2_ n3_; (try clear hb); (try clear hb2); (try clear hk); (try clear hi)) | ((with_reducible refine gate_callee (f := 12) rfl ?_); refine goesL_ (some 123) rfl rfl Try.func12 (by kernel_rfl) rfl #[.slice Ao7 y180.length co7, .slice none 0 0] rfl (by (try simp only [List.map_toArray, List.map_cons, List.map_nil]); rfl) ?_; (refine (shift_Make.calls _ _ y180 _ _ ([] : List (S47)) t235 t236 _ ?side1 ?side2 ?side3 ?side4 A79.out).mono ?_); (case side1 => repeat (exact (Kd.R_reads' HO_1.out).2.2)); (case side2 => exact (Kd.R_reads' HO_1.out).2.1); (case side3 => exact Kd.C_nil _ _); (case side4 => exact Nat.le_refl _); rintro e w117 ⟨v237, rfl, ho0, hb⟩; refine ⟨_, rfl, ?_⟩; have n0_ := Aside0.mk (Kd.R_below (by (with_reducible repeat (fail)); exact HO_1.out) hb); have n1_ := Aside0.mk (Kd.R_below (by (with_reducible repeat (fail)); exact HO_4.out) hb); have n2_ := Aside0.mk (Kd.R_below (by (with_reducible repeat (fail)); exact HO230.out) hb); have n3_ := Aside0.mk (Kd.R_lower ho0 (below_size (by repeat ((with_reducible exact HB.out))))); have n4_ := Aside0.mk (below_step (by repeat ((with_reducible exact HB.out))) hb); clear HO_1; clear HO_4; clear HO230; clear HB; have HO_1 := n0_; have HO_4 := n1_; have HO230 := n2_; have HO238 := n3_; have HB := n4_; clear n0_ n1_ n2_ n3_ n4_; (try clear hb); (try clear hb2); (try clear hk); (try clear hi); (try clear ho0); obtain ⟨Ao118, co118, eo118⟩ := Kd.R_slice HO238.out; subst eo118))
               go_ret
               exact ⟨by rfl, by repeat ((with_reducible exact HB.out))⟩
             ·rw [if_neg c83] at H
              have c83b0 : ((wrap64 (t234 + t236)) == 0) = false := beq_eq_false_iff_ne.mpr c83
              have c83b1 : ((wrap64 (t234 + t236)) != 0) = true := bne_iff_ne.mpr c83
              obtain rfl := Option.some.inj H
              go_wp2_with (first | ((with_reducible refine gate_dst (N := 114) rfl ?_); (try (refine gate_guard (by rfl) ?_; dsimp only)); refine Kd.R_lit k45 _ 45 ?hg (N := 114) ?hd (xs := ([(⟨9, 5, 3, 1⟩ : S45)] : List (S45))) (inner := [.int .i64 9, .int .i64 5, .int .i64 3, .int .i64 1]) (ok := fun _ => True) (okp := fun _ => True) ?hr ?hp (fun _ hk => hk) trivial (Below.refl _ _) (Nat.le_refl _) (by simp) ?_; (case hd => rfl); (case hg => rfl); (case hr => (go_simp; done)); (case hp => exact (Reps.c4 (show Kd.M k45 _ _ _ (⟨9, 5, 3, 1⟩ : S45) [.int .i64 9, .int .i64 5, .int .i64 3, .int .i64 1] from (k45_mkM _ _ _ (⟨9, 5, 3, 1⟩ : S45) )) (Reps.none _ _))); intro v229 w119 ho120 hb hg_ hnew_; clear hg_ hnew_; (rw [← Ny228.out] at ho120); have n0_ := Aside0.mk (Kd.R_elder' (by (with_reducible repeat (fail)); exact HO_1.out) (Kd.R_base ho120) hb); have n1_ := Aside0.mk (Kd.R_below (by (with_reducible repeat (fail)); exact HO_4.out) hb); have n2_ := Aside0.mk (Kd.R_lower (Kd.R_new' ho120 (Kd.R_lt (by (with_reducible repeat (fail)); exact HO_1.out))) (below_size (by repeat ((with_reducible exact HB.out))))); have n3_ := Aside0.mk (below_step (by repeat ((with_reducible exact HB.out))) hb); clear HO_1; clear HO_4; clear HB; have HO_1 := n0_; have HO_4 := n1_; have HO230 := n2_; have HB := n3_; clear n0_ n1_ n2_ n3_; clear hb ho120; obtain ⟨Ao121, co121, eo121⟩ := Kd.R_slice HO230.out; subst eo121) | ((with_reducible refine gate_callee (f := 18) rfl ?_); refine goesL_ (some 116) rfl rfl Try.func18 (by kernel_rfl) rfl #[.slice Ao121 y228.length co121, .slice Ao46 y204.length co46] rfl (by (try simp only [List.map_toArray, List.map_cons, List.map_nil]); rfl) ?_; (with_reducible refine (shift_Excess.calls kj68 _ _ y228 _ _ y204 t231 t232 true t234 _ ?side1 ?side2 ?side3 ?side4 A78.out).mono ?_); (case side1 => repeat (exact (Kd.R_reads' HO230.out).2.2)); (case side2 => exact (Kd.R_reads' HO230.out).2.1); (case side3 => repeat (exact (Kd.R_reads' HO_4.out).2.2)); (case side4 => exact (Kd.R_reads' HO_4.out).2.1); rintro e w122 ⟨rfl, hb⟩; refine ⟨_, rfl, ?_⟩; have n0_ := Aside0.mk (Kd.R_below (by (with_reducible repeat (fail)); exact HO_1.out) hb); have n1_ := Aside0.mk (Kd.R_below (by (with_reducible repeat (fail)); exact HO_4.out) hb); have n2_ := Aside0.mk (Kd.R_below (by (with_reducible repeat (fail)); exact HO230.out) hb); have n3_ := Aside0.mk (below_step (by repeat ((with_reducible exact HB.out))) hb); clear HO_1; clear HO_4; clear HO230; clear HB; have HO_1 := n0_; have HO_4 := n1_; have HO230 := n2_; have HB := n3_; clear n0_ n1_ n2_ n3_; (try clear hb); (try clear hb2); (try clear hk); (try clear hi)) | ((with_reducible refine gate_callee (f := 12) rfl ?_); refine goesL_ (some 123) rfl rfl Try.func12 (by kernel_rfl) rfl #[.slice Ao7 y180.length co7, .slice none 0 0] rfl (by (try simp only [List.map_toArray, List.map_cons, List.map_nil]); rfl) ?_; (refine (shift_Make.calls _ _ y180 _ _ ([] : List (S47)) t235 t236 _ ?side1 ?side2 ?side3 ?side4 A79.out).mono ?_); (case side1 => repeat (exact (Kd.R_reads' HO_1.out).2.2)); (case side2 => exact (Kd.R_reads' HO_1.out).2.1); (case side3 => exact Kd.C_nil _ _); (case side4 => exact Nat.le_refl _); rintro e w123 ⟨v237, rfl, ho0, hb⟩; refine ⟨_, rfl, ?_⟩; have n0_ := Aside0.mk (Kd.R_below (by (with_reducible repeat (fail)); exact HO_1.out) hb); have n1_ := Aside0.mk (Kd.R_below (by (with_reducible repeat (fail)); exact HO_4.out) hb); have n2_ := Aside0.mk (Kd.R_below (by (with_reducible repeat (fail)); exact HO230.out) hb); have n3_ := Aside0.mk (Kd.R_lower ho0 (below_size (by repeat ((with_reducible exact HB.out))))); have n4_ := Aside0.mk (below_step (by repeat ((with_reducible exact HB.out))) hb); clear HO_1; clear HO_4; clear HO230; clear HB; have HO_1 := n0_; have HO_4 := n1_; have HO230 := n2_; have HO238 := n3_; have HB := n4_; clear n0_ n1_ n2_ n3_ n4_; (try clear hb); (try clear hb2); (try clear hk); (try clear hi); (try clear ho0)))
              go_ret
              exact ⟨by rfl, by repeat ((with_reducible exact HB.out))⟩
            ·replace c82 := Bool.eq_false_iff.mpr c82
             subst c82
             have H1 : (some false) = some r := by rw [if_neg (show ¬ (false = true) by decide)] at H; exact H
             clear H
             have H := H1
             clear H1
             obtain rfl := Option.some.inj H
             go_wp2_with (first | ((with_reducible refine gate_dst (N := 114) rfl ?_); (try (refine gate_guard (by rfl) ?_; dsimp only)); refine Kd.R_lit k45 _ 45 ?hg (N := 114) ?hd (xs := ([(⟨9, 5, 3, 1⟩ : S45)] : List (S45))) (inner := [.int .i64 9, .int .i64 5, .int .i64 3, .int .i64 1]) (ok := fun _ => True) (okp := fun _ => True) ?hr ?hp (fun _ hk => hk) trivial (Below.refl _ _) (Nat.le_refl _) (by simp) ?_; (case hd => rfl); (case hg => rfl); (case hr => (go_simp; done)); (case hp => exact (Reps.c4 (show Kd.M k45 _ _ _ (⟨9, 5, 3, 1⟩ : S45) [.int .i64 9, .int .i64 5, .int .i64 3, .int .i64 1] from (k45_mkM _ _ _ (⟨9, 5, 3, 1⟩ : S45) )) (Reps.none _ _))); intro v229 w124 ho125 hb hg_ hnew_; clear hg_ hnew_; (rw [← Ny228.out] at ho125); have n0_ := Aside0.mk (Kd.R_elder' (by (with_reducible repeat (fail)); exact HO_1.out) (Kd.R_base ho125) hb); have n1_ := Aside0.mk (Kd.R_below (by (with_reducible repeat (fail)); exact HO_4.out) hb); have n2_ := Aside0.mk (Kd.R_lower (Kd.R_new' ho125 (Kd.R_lt (by (with_reducible repeat (fail)); exact HO_1.out))) (below_size (by repeat ((with_reducible exact HB.out))))); have n3_ := Aside0.mk (below_step (by repeat ((with_reducible exact HB.out))) hb); clear HO_1; clear HO_4; clear HB; have HO_1 := n0_; have HO_4 := n1_; have HO230 := n2_; have HB := n3_; clear n0_ n1_ n2_ n3_; clear hb ho125; obtain ⟨Ao126, co126, eo126⟩ := Kd.R_slice HO230.out; subst eo126) | ((with_reducible refine gate_callee (f := 18) rfl ?_); refine goesL_ (some 116) rfl rfl Try.func18 (by kernel_rfl) rfl #[.slice Ao126 y228.length co126, .slice Ao46 y204.length co46] rfl (by (try simp only [List.map_toArray, List.map_cons, List.map_nil]); rfl) ?_; (with_reducible refine (shift_Excess.calls kj68 _ _ y228 _ _ y204 t231 t232 false t234 _ ?side1 ?side2 ?side3 ?side4 A78.out).mono ?_); (case side1 => repeat (exact (Kd.R_reads' HO230.out).2.2)); (case side2 => exact (Kd.R_reads' HO230.out).2.1); (case side3 => repeat (exact (Kd.R_reads' HO_4.out).2.2)); (case side4 => exact (Kd.R_reads' HO_4.out).2.1); rintro e w127 ⟨rfl, hb⟩; refine ⟨_, rfl, ?_⟩; have n0_ := Aside0.mk (Kd.R_below (by (with_reducible repeat (fail)); exact HO_1.out) hb); have n1_ := Aside0.mk (Kd.R_below (by (with_reducible repeat (fail)); exact HO_4.out) hb); have n2_ := Aside0.mk (Kd.R_below (by (with_reducible repeat (fail)); exact HO230.out) hb); have n3_ := Aside0.mk (below_step (by repeat ((with_reducible exact HB.out))) hb); clear HO_1; clear HO_4; clear HO230; clear HB; have HO_1 := n0_; have HO_4 := n1_; have HO230 := n2_; have HB := n3_; clear n0_ n1_ n2_ n3_; (try clear hb); (try clear hb2); (try clear hk); (try clear hi)) | ((with_reducible refine gate_callee (f := 12) rfl ?_); refine goesL_ (some 123) rfl rfl Try.func12 (by kernel_rfl) rfl #[.slice Ao7 y180.length co7, .slice none 0 0] rfl (by (try simp only [List.map_toArray, List.map_cons, List.map_nil]); rfl) ?_; (refine (shift_Make.calls _ _ y180 _ _ ([] : List (S47)) t235 t236 _ ?side1 ?side2 ?side3 ?side4 A79.out).mono ?_); (case side1 => repeat (exact (Kd.R_reads' HO_1.out).2.2)); (case side2 => exact (Kd.R_reads' HO_1.out).2.1); (case side3 => exact Kd.C_nil _ _); (case side4 => exact Nat.le_refl _); rintro e w128 ⟨v237, rfl, ho0, hb⟩; refine ⟨_, rfl, ?_⟩; have n0_ := Aside0.mk (Kd.R_below (by (with_reducible repeat (fail)); exact HO_1.out) hb); have n1_ := Aside0.mk (Kd.R_below (by (with_reducible repeat (fail)); exact HO_4.out) hb); have n2_ := Aside0.mk (Kd.R_below (by (with_reducible repeat (fail)); exact HO230.out) hb); have n3_ := Aside0.mk (Kd.R_lower ho0 (below_size (by repeat ((with_reducible exact HB.out))))); have n4_ := Aside0.mk (below_step (by repeat ((with_reducible exact HB.out))) hb); clear HO_1; clear HO_4; clear HO230; clear HB; have HO_1 := n0_; have HO_4 := n1_; have HO230 := n2_; have HO238 := n3_; have HB := n4_; clear n0_ n1_ n2_ n3_ n4_; (try clear hb); (try clear hb2); (try clear hk); (try clear hi); (try clear ho0)))
             go_ret
             exact ⟨by rfl, by repeat ((with_reducible exact HB.out))⟩
           ·rw [if_neg c81] at H
            have c81b0 : (t232 == 3) = false := beq_eq_false_iff_ne.mpr c81
            have c81b1 : (t232 != 3) = true := bne_iff_ne.mpr c81
            obtain rfl := Option.some.inj H
            go_wp2_with (first | ((with_reducible refine gate_dst (N := 114) rfl ?_); (try (refine gate_guard (by rfl) ?_; dsimp only)); refine Kd.R_lit k45 _ 45 ?hg (N := 114) ?hd (xs := ([(⟨9, 5, 3, 1⟩ : S45)] : List (S45))) (inner := [.int .i64 9, .int .i64 5, .int .i64 3, .int .i64 1]) (ok := fun _ => True) (okp := fun _ => True) ?hr ?hp (fun _ hk => hk) trivial (Below.refl _ _) (Nat.le_refl _) (by simp) ?_; (case hd => rfl); (case hg => rfl); (case hr => (go_simp; done)); (case hp => exact (Reps.c4 (show Kd.M k45 _ _ _ (⟨9, 5, 3, 1⟩ : S45) [.int .i64 9, .int .i64 5, .int .i64 3, .int .i64 1] from (k45_mkM _ _ _ (⟨9, 5, 3, 1⟩ : S45) )) (Reps.none _ _))); intro v229 w129 ho130 hb hg_ hnew_; clear hg_ hnew_; (rw [← Ny228.out] at ho130); have n0_ := Aside0.mk (Kd.R_elder' (by (with_reducible repeat (fail)); exact HO_1.out) (Kd.R_base ho130) hb); have n1_ := Aside0.mk (Kd.R_below (by (with_reducible repeat (fail)); exact HO_4.out) hb); have n2_ := Aside0.mk (Kd.R_lower (Kd.R_new' ho130 (Kd.R_lt (by (with_reducible repeat (fail)); exact HO_1.out))) (below_size (by repeat ((with_reducible exact HB.out))))); have n3_ := Aside0.mk (below_step (by repeat ((with_reducible exact HB.out))) hb); clear HO_1; clear HO_4; clear HB; have HO_1 := n0_; have HO_4 := n1_; have HO230 := n2_; have HB := n3_; clear n0_ n1_ n2_ n3_; clear hb ho130; obtain ⟨Ao131, co131, eo131⟩ := Kd.R_slice HO230.out; subst eo131) | ((with_reducible refine gate_callee (f := 18) rfl ?_); refine goesL_ (some 116) rfl rfl Try.func18 (by kernel_rfl) rfl #[.slice Ao131 y228.length co131, .slice Ao46 y204.length co46] rfl (by (try simp only [List.map_toArray, List.map_cons, List.map_nil]); rfl) ?_; (with_reducible refine (shift_Excess.calls kj68 _ _ y228 _ _ y204 t231 t232 t233 t234 _ ?side1 ?side2 ?side3 ?side4 A78.out).mono ?_); (case side1 => repeat (exact (Kd.R_reads' HO230.out).2.2)); (case side2 => exact (Kd.R_reads' HO230.out).2.1); (case side3 => repeat (exact (Kd.R_reads' HO_4.out).2.2)); (case side4 => exact (Kd.R_reads' HO_4.out).2.1); rintro e w132 ⟨rfl, hb⟩; refine ⟨_, rfl, ?_⟩; have n0_ := Aside0.mk (Kd.R_below (by (with_reducible repeat (fail)); exact HO_1.out) hb); have n1_ := Aside0.mk (Kd.R_below (by (with_reducible repeat (fail)); exact HO_4.out) hb); have n2_ := Aside0.mk (Kd.R_below (by (with_reducible repeat (fail)); exact HO230.out) hb); have n3_ := Aside0.mk (below_step (by repeat ((with_reducible exact HB.out))) hb); clear HO_1; clear HO_4; clear HO230; clear HB; have HO_1 := n0_; have HO_4 := n1_; have HO230 := n2_; have HB := n3_; clear n0_ n1_ n2_ n3_; (try clear hb); (try clear hb2); (try clear hk); (try clear hi)) | ((with_reducible refine gate_callee (f := 12) rfl ?_); refine goesL_ (some 123) rfl rfl Try.func12 (by kernel_rfl) rfl #[.slice Ao7 y180.length co7, .slice none 0 0] rfl (by (try simp only [List.map_toArray, List.map_cons, List.map_nil]); rfl) ?_; (refine (shift_Make.calls _ _ y180 _ _ ([] : List (S47)) t235 t236 _ ?side1 ?side2 ?side3 ?side4 A79.out).mono ?_); (case side1 => repeat (exact (Kd.R_reads' HO_1.out).2.2)); (case side2 => exact (Kd.R_reads' HO_1.out).2.1); (case side3 => exact Kd.C_nil _ _); (case side4 => exact Nat.le_refl _); rintro e w133 ⟨v237, rfl, ho0, hb⟩; refine ⟨_, rfl, ?_⟩; have n0_ := Aside0.mk (Kd.R_below (by (with_reducible repeat (fail)); exact HO_1.out) hb); have n1_ := Aside0.mk (Kd.R_below (by (with_reducible repeat (fail)); exact HO_4.out) hb); have n2_ := Aside0.mk (Kd.R_below (by (with_reducible repeat (fail)); exact HO230.out) hb); have n3_ := Aside0.mk (Kd.R_lower ho0 (below_size (by repeat ((with_reducible exact HB.out))))); have n4_ := Aside0.mk (below_step (by repeat ((with_reducible exact HB.out))) hb); clear HO_1; clear HO_4; clear HO230; clear HB; have HO_1 := n0_; have HO_4 := n1_; have HO230 := n2_; have HO238 := n3_; have HB := n4_; clear n0_ n1_ n2_ n3_ n4_; (try clear hb); (try clear hb2); (try clear hk); (try clear hi); (try clear ho0)))
            go_ret
            exact ⟨by rfl, by repeat ((with_reducible exact HB.out))⟩
          ·rw [if_neg c80] at H
           have c80b0 : (t231 == 5) = false := beq_eq_false_iff_ne.mpr c80
           have c80b1 : (t231 != 5) = true := bne_iff_ne.mpr c80
           obtain rfl := Option.some.inj H
           go_wp2_with (first | ((with_reducible refine gate_dst (N := 114) rfl ?_); (try (refine gate_guard (by rfl) ?_; dsimp only)); refine Kd.R_lit k45 _ 45 ?hg (N := 114) ?hd (xs := ([(⟨9, 5, 3, 1⟩ : S45)] : List (S45))) (inner := [.int .i64 9, .int .i64 5, .int .i64 3, .int .i64 1]) (ok := fun _ => True) (okp := fun _ => True) ?hr ?hp (fun _ hk => hk) trivial (Below.refl _ _) (Nat.le_refl _) (by simp) ?_; (case hd => rfl); (case hg => rfl); (case hr => (go_simp; done)); (case hp => exact (Reps.c4 (show Kd.M k45 _ _ _ (⟨9, 5, 3, 1⟩ : S45) [.int .i64 9, .int .i64 5, .int .i64 3, .int .i64 1] from (k45_mkM _ _ _ (⟨9, 5, 3, 1⟩ : S45) )) (Reps.none _ _))); intro v229 w134 ho135 hb hg_ hnew_; clear hg_ hnew_; (rw [← Ny228.out] at ho135); have n0_ := Aside0.mk (Kd.R_elder' (by (with_reducible repeat (fail)); exact HO_1.out) (Kd.R_base ho135) hb); have n1_ := Aside0.mk (Kd.R_below (by (with_reducible repeat (fail)); exact HO_4.out) hb); have n2_ := Aside0.mk (Kd.R_lower (Kd.R_new' ho135 (Kd.R_lt (by (with_reducible repeat (fail)); exact HO_1.out))) (below_size (by repeat ((with_reducible exact HB.out))))); have n3_ := Aside0.mk (below_step (by repeat ((with_reducible exact HB.out))) hb); clear HO_1; clear HO_4; clear HB; have HO_1 := n0_; have HO_4 := n1_; have HO230 := n2_; have HB := n3_; clear n0_ n1_ n2_ n3_; clear hb ho135; obtain ⟨Ao136, co136, eo136⟩ := Kd.R_slice HO230.out; subst eo136) | ((with_reducible refine gate_callee (f := 18) rfl ?_); refine goesL_ (some 116) rfl rfl Try.func18 (by kernel_rfl) rfl #[.slice Ao136 y228.length co136, .slice Ao46 y204.length co46] rfl (by (try simp only [List.map_toArray, List.map_cons, List.map_nil]); rfl) ?_; (with_reducible refine (shift_Excess.calls kj68 _ _ y228 _ _ y204 t231 t232 t233 t234 _ ?side1 ?side2 ?side3 ?side4 A78.out).mono ?_); (case side1 => repeat (exact (Kd.R_reads' HO230.out).2.2)); (case side2 => exact (Kd.R_reads' HO230.out).2.1); (case side3 => repeat (exact (Kd.R_reads' HO_4.out).2.2)); (case side4 => exact (Kd.R_reads' HO_4.out).2.1); rintro e w137 ⟨rfl, hb⟩; refine ⟨_, rfl, ?_⟩; have n0_ := Aside0.mk (Kd.R_below (by (with_reducible repeat (fail)); exact HO_1.out) hb); have n1_ := Aside0.mk (Kd.R_below (by (with_reducible repeat (fail)); exact HO_4.out) hb); have n2_ := Aside0.mk (Kd.R_below (by (with_reducible repeat (fail)); exact HO230.out) hb); have n3_ := Aside0.mk (below_step (by repeat ((with_reducible exact HB.out))) hb); clear HO_1; clear HO_4; clear HO230; clear HB; have HO_1 := n0_; have HO_4 := n1_; have HO230 := n2_; have HB := n3_; clear n0_ n1_ n2_ n3_; (try clear hb); (try clear hb2); (try clear hk); (try clear hi)) | ((with_reducible refine gate_callee (f := 12) rfl ?_); refine goesL_ (some 123) rfl rfl Try.func12 (by kernel_rfl) rfl #[.slice Ao7 y180.length co7, .slice none 0 0] rfl (by (try simp only [List.map_toArray, List.map_cons, List.map_nil]); rfl) ?_; (refine (shift_Make.calls _ _ y180 _ _ ([] : List (S47)) t235 t236 _ ?side1 ?side2 ?side3 ?side4 A79.out).mono ?_); (case side1 => repeat (exact (Kd.R_reads' HO_1.out).2.2)); (case side2 => exact (Kd.R_reads' HO_1.out).2.1); (case side3 => exact Kd.C_nil _ _); (case side4 => exact Nat.le_refl _); rintro e w138 ⟨v237, rfl, ho0, hb⟩; refine ⟨_, rfl, ?_⟩; have n0_ := Aside0.mk (Kd.R_below (by (with_reducible repeat (fail)); exact HO_1.out) hb); have n1_ := Aside0.mk (Kd.R_below (by (with_reducible repeat (fail)); exact HO_4.out) hb); have n2_ := Aside0.mk (Kd.R_below (by (with_reducible repeat (fail)); exact HO230.out) hb); have n3_ := Aside0.mk (Kd.R_lower ho0 (below_size (by repeat ((with_reducible exact HB.out))))); have n4_ := Aside0.mk (below_step (by repeat ((with_reducible exact HB.out))) hb); clear HO_1; clear HO_4; clear HO230; clear HB; have HO_1 := n0_; have HO_4 := n1_; have HO230 := n2_; have HO238 := n3_; have HB := n4_; clear n0_ n1_ n2_ n3_ n4_; (try clear hb); (try clear hb2); (try clear hk); (try clear hi); (try clear ho0)))
           go_ret
           exact ⟨by rfl, by repeat ((with_reducible exact HB.out))⟩
end Go.Proofs.Ytbnjdlafnejanaa.Pr
