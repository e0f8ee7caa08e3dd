/- Joined by a program of this session (pack2.py): parts of the kit's printed words, printed walks and this session's own texts that several laws share. -/
import Derived.Test.YtbnjdlafnejanaaBa
import Derived.Test.YtbnjdlafnejanaaBb
import Derived.Test.YtbnjdlafnejanaaBc
import Derived.Test.YtbnjdlafnejanaaBd
import Derived.Test.YtbnjdlafnejanaaBe
import Derived.Test.YtbnjdlafnejanaaBf
import Derived.Test.YtbnjdlafnejanaaBg
namespace Go.Proofs.Ytbnjdlafnejanaa.Pr
open Go.RowKit Go.Proofs.YtbnjdlafnejanaaW.PrintWords Go.Proofs.YtbnjdlafnejanaaW.PrintLast Go.Proofs.YtbnjdlafnejanaaW.PrintMore
theorem wsucc {i : Nat} {n : Nat} (h : i < n) (hn : n ≤ 1000000) : wrap64 ((i : Int) + 1) = ((i + 1 : Nat) : Int) := w64 (n := (i : Int) + 1) (by omega) (by omega)
theorem lt_of {n m a : Nat} (h : n ≤ m) (ha : m < a) : n < a := Nat.lt_of_le_of_lt h ha
theorem rd45_get {l : List S45} {i : Nat} (h : i < l.length) : rd_T45 l (i : Int) = l[i] := by simp [rd_T45, h]
theorem rd47_get {l : List S47} {i : Nat} (h : i < l.length) : rd_T47 l (i : Int) = l[i] := by simp [rd_T47, h]
theorem rd51_get {l : List S51} {i : Nat} (h : i < l.length) : rd_T51 l (i : Int) = l[i] := by simp [rd_T51, h]
theorem rd_get {l : List Int} {i : Nat} (h : i < l.length) : rd l (i : Int) = l[i] := by simp [rd, h]
/-- The IDs of the jobs that do not end, or end late. -/
def lateX (l : List S45) (e : Sh.Job → Int) : List Int := ((l.map toJ).filter fun x => decide (e x < 0) || decide (x.due < e x)).map Sh.Job.id
theorem lateX_cons (x : S45) (l : List S45) (e : Sh.Job → Int) : lateX (x :: l) e = (if e (toJ x) < 0 ∨ x.f2 < e (toJ x) then [x.f0] else []) ++ lateX l e := by
  unfold lateX
  rw [List.map_cons, List.filter_cons]
  have e1 : (toJ x).due = x.f2 := rfl
  rw [e1]
  by_cases h : e (toJ x) < 0 ∨ x.f2 < e (toJ x)
  · rw [if_pos h, if_pos (by simpa using h)]; rfl
  · rw [if_neg h, if_neg (by simpa using h)]; rfl
theorem late_l0 (l : List S45) (e : Sh.Job → Int) (hl : l.length ≤ 1000000) (d : Nat) : ∀ (i : Nat) (p : List Int), p.length ≤ i → i ≤ l.length → l.length - i = d →
    Ev (fun k => shift_Late.l0 k l p (rowOf l e) ((rowOf l e).length : Int) (i : Int)) (p ++ lateX (l.drop i) e) := by
  have hr := rowOf_len l e
  induction d with
  | zero =>
    intro i p hp hi hd
    refine Ev.step (fun k => shift_Late.l0.eq_2 _ _ _ _ _ k) ?_
    refine ev_neg (by rw [hr]; omega) (ev_eq ?_ (Ev.now _))
    rw [List.drop_of_length_le (by omega)]; simp [lateX]
  | succ d ih =>
    intro i p hp hi hd
    have c : i < l.length := by omega
    have ci : (i : Int) < ((rowOf l e).length : Int) := by rw [hr]; omega
    have ci2 : (i : Int) < (l.length : Int) := by omega
    have hpl : p.length < 17592186044416 := lt_of (show p.length ≤ 1000000 by omega) (by decide)
    have er : rd (rowOf l e) (i : Int) = e (toJ l[i]) := by
      rw [rowOf_rd (by omega) ci2, rd45_get c]
    have ih1 := ih (i + 1) p (by omega) (by omega) (by omega)
    have ih2 := ih (i + 1) (p ++ [l[i].f0]) (by rw [List.length_append, List.length_singleton]; omega) (by omega) (by omega)
    refine Ev.step (fun k => shift_Late.l0.eq_2 _ _ _ _ _ k) ?_
    refine ev_pos ci (ev_pos (by omega) (ev_pos ci ?_))
    rw [List.drop_eq_getElem_cons c, lateX_cons, wsucc c hl, er, rd45_get c]
    by_cases c1 : e (toJ l[i]) < 0
    · refine ev_pos c1 (ev_pos ci2 (ev_pos hpl (ev_eq ?_ ih2)))
      rw [if_pos (.inl c1), List.append_assoc]
    · refine ev_neg c1 (ev_pos ci2 ?_)
      by_cases c2 : e (toJ l[i]) > l[i].f2
      · refine ev_pos c2 (ev_pos hpl (ev_eq ?_ ih2))
        rw [if_pos (.inr c2), List.append_assoc]
      · refine ev_neg c2 (ev_eq ?_ ih1)
        rw [if_neg (by omega)]; rfl
/-- What holds so that Ends tells when each job ends. -/
structure EndsOk (l : List S45) (a : List S51) : Prop where
  bj : Sh.BJ (l.map toJ)
  len : l.length ≤ 200
  wf : wf51 a = true
  timed : Sh.timed (a.map toL) = true
theorem ends_ok {l : List S45} {a : List S51} (h : EndsOk l a) : shift_Ends.f l a = some (rowOf l fun x => Sh.endOf x (a.map toL)) := by
  unfold shift_Ends.f
  rw [if_pos (wf45_BJ h.bj), if_pos h.wf, if_pos (Sh.firstJob_valid (p := []) (by simpa using h.bj)), if_pos ⟨h.timed, h.len⟩]
  rfl
theorem late_f {l : List S45} {a : List S51} (h : EndsOk l a) : Ev (fun k => shift_Late.f k l a) (lateX l fun x => Sh.endOf x (a.map toL)) := by
  unfold shift_Late.f
  refine Ev.bind (ev_val (ends_ok h)) ?_
  have hl := h.len
  have key := late_l0 l (fun x => Sh.endOf x (a.map toL)) (by omega) (l.length - 0) 0 [] (Nat.le_refl _) (by omega) rfl
  rw [List.nil_append, List.drop_zero] at key
  exact key
theorem lateX_nil {l : List S45} {e : Sh.Job → Int} : lateX l e = [] ↔ ∀ x ∈ l.map toJ, 0 ≤ e x ∧ e x ≤ x.due := by
  unfold lateX
  rw [List.map_eq_nil_iff, List.filter_eq_nil_iff]
  constructor
  · intro h x hx
    have := h x hx
    simp only [Bool.or_eq_true, decide_eq_true_eq] at this
    omega
  · intro h x hx
    have := h x hx
    simp only [Bool.or_eq_true, decide_eq_true_eq]
    omega
theorem sliced_l0 (a : List S51) (hl : a.length ≤ 1000000) (d : Nat) : ∀ i : Nat, i ≤ a.length → a.length - i = d → Ev (fun k => letterbaglaw30_sliced.l0 k a a (a.length : Int) (i : Int)) true := by
  induction d with
  | zero =>
    intro i hi hd
    refine Ev.step (fun k => letterbaglaw30_sliced.l0.eq_2 _ _ _ _ k) ?_
    exact ev_neg (by omega) (Ev.now _)
  | succ d ih =>
    intro i hi hd
    have c : i < a.length := by omega
    have ci : (i : Int) < (a.length : Int) := by omega
    have ih1 := ih (i + 1) (by omega) (by omega)
    refine Ev.step (fun k => letterbaglaw30_sliced.l0.eq_2 _ _ _ _ k) ?_
    refine ev_pos ci (ev_pos (by omega) (ev_pos ci (ev_pos ci ?_)))
    rw [wsucc c hl]
    exact ev_neg (by simp) ih1
theorem sliced_f {a : List S51} (hl : a.length ≤ 1000000) : Ev (fun k => letterbaglaw30_sliced.f k a a) true := by
  unfold letterbaglaw30_sliced.f
  exact ev_pos rfl (sliced_l0 a hl (a.length - 0) 0 (by omega) rfl)
theorem same_l0 (a : List Int) (hl : a.length ≤ 1000000) (d : Nat) : ∀ i : Nat, i ≤ a.length → a.length - i = d → Ev (fun k => letterbagkit_SameInts.l0 k a a (i : Int)) true := by
  induction d with
  | zero =>
    intro i hi hd
    refine Ev.step (fun k => letterbagkit_SameInts.l0.eq_2 _ _ _ k) ?_
    exact ev_neg (by omega) (Ev.now _)
  | succ d ih =>
    intro i hi hd
    have c : i < a.length := by omega
    have ci : (i : Int) < (a.length : Int) := by omega
    have ih1 := ih (i + 1) (by omega) (by omega)
    refine Ev.step (fun k => letterbagkit_SameInts.l0.eq_2 _ _ _ k) ?_
    refine ev_pos ci (ev_pos (by omega) (ev_pos ci (ev_pos rfl ?_)))
    rw [wsucc c hl]
    exact ih1
theorem same_f {a : List Int} (hl : a.length ≤ 1000000) : Ev (fun k => letterbagkit_SameInts.f k a a) true := by
  unfold letterbagkit_SameInts.f
  exact ev_pos rfl (same_l0 a hl (a.length - 0) 0 (by omega) rfl)
end Go.Proofs.Ytbnjdlafnejanaa.Pr
namespace Go.Proofs.Ytbnjdlafnejanaa.Pr
open Go.RowKit Go.Proofs.YtbnjdlafnejanaaW.PrintWords Go.Proofs.YtbnjdlafnejanaaW.PrintLast Go.Proofs.YtbnjdlafnejanaaW.PrintMore
/-- The interval from a to b is overfull. -/
def ovX (J : List Sh.Job) (S : List Sh.Shift) (a b : Int) : Bool := decide (0 < Sh.need J a b - Sh.supply S a b)
theorem need_cons (x : Sh.Job) (J : List Sh.Job) (a b : Int) : Sh.need (x :: J) a b = (if a ≤ x.rel ∧ x.due ≤ b then x.min else 0) + Sh.need J a b := by
  unfold Sh.need Sh.inside
  rw [List.filter_cons]
  by_cases h : a ≤ x.rel ∧ x.due ≤ b
  · rw [if_pos h, if_pos (by simpa using h)]
    simp [Sh.tot]
  · rw [if_neg h, if_neg (by simpa using h)]
    omega
theorem need_toJ (x : S45) (J : List Sh.Job) (a b : Int) : Sh.need (toJ x :: J) a b = (if a ≤ x.f1 ∧ x.f2 ≤ b then x.f3 else 0) + Sh.need J a b := need_cons (toJ x) J a b
theorem supply_cons (s : Sh.Shift) (S : List Sh.Shift) (a b : Int) : Sh.supply (s :: S) a b = max 0 (min s.to b - max s.frm a) + Sh.supply S a b := rfl
theorem mx_max (a b : Int) : mx a b = max a b := by unfold mx; split <;> omega
theorem mn_min (a b : Int) : mn a b = min a b := by unfold mn; split <;> omega
theorem dec_congr {a b : Int} (h : a = b) : decide (0 < a) = decide (0 < b) := by rw [h]
theorem over_l1 (l1 : List S47) (hS : Sh.BS (l1.map toS)) (hl : l1.length ≤ 200) (a b : Int) (ha : 0 ≤ a ∧ a ≤ 1051898399) (hb : 0 ≤ b ∧ b ≤ 1051898399) (d : Nat) : ∀ (i : Nat) (n : Int), i ≤ l1.length → l1.length - i = d → -1051898399 * (i : Int) ≤ n → n ≤ 20000000 →
    Ev (fun k => shift_overfull.l1 k a b n l1 (l1.length : Int) (i : Int)) (decide (0 < n - Sh.supply ((l1.map toS).drop i) a b)) := by
  induction d with
  | zero =>
    intro i n hi hd h1 h2
    refine Ev.step (fun k => shift_overfull.l1.eq_2 _ _ _ _ _ _ k) ?_
    refine ev_neg (by omega) (ev_eq ?_ (Ev.now _))
    rw [List.drop_of_length_le (by rw [List.length_map]; omega)]
    have : Sh.supply [] a b = 0 := rfl
    rw [this]
    simp
  | succ d ih =>
    intro i n hi hd h1 h2
    have c : i < l1.length := by omega
    have ci : (i : Int) < (l1.length : Int) := by omega
    have cj : i < (l1.map toS).length := by rw [List.length_map]; exact c
    have hm : toS l1[i] ∈ l1.map toS := List.mem_map.2 ⟨_, List.getElem_mem c, rfl⟩
    have h3 := hS.bd _ hm
    have h4 := hS.vs.pos _ hm
    simp only [toS] at h3 h4
    have ed : (l1.map toS).drop i = toS l1[i] :: (l1.map toS).drop (i + 1) := by
      rw [List.drop_eq_getElem_cons cj]; simp
    rw [ed, supply_cons]
    have hb1 : 0 ≤ max 0 (min l1[i].f1 b - max l1[i].f0 a) ∧ max 0 (min l1[i].f1 b - max l1[i].f0 a) ≤ 1051898399 := by omega
    have hb2 : -9223372036854775808 ≤ min l1[i].f1 b - max l1[i].f0 a ∧ min l1[i].f1 b - max l1[i].f0 a ≤ 9223372036854775807 := by omega
    have hb3 : -9223372036854775808 ≤ n - max 0 (min l1[i].f1 b - max l1[i].f0 a) ∧ n - max 0 (min l1[i].f1 b - max l1[i].f0 a) ≤ 9223372036854775807 := by omega
    have ih1 := ih (i + 1) (n - max 0 (min l1[i].f1 b - max l1[i].f0 a)) (by omega) (by omega) (by omega) (by omega)
    refine Ev.step (fun k => shift_overfull.l1.eq_2 _ _ _ _ _ _ k) ?_
    refine ev_pos ci (ev_pos (by omega) (ev_pos ci ?_))
    rw [rd47_get c, mn_min, mx_max, mx_max, w64 hb2.1 hb2.2, w64 hb3.1 hb3.2, wsucc c (by omega)]
    refine ev_eq ?_ ih1
    refine dec_congr ?_
    simp only [toS]
    omega
theorem over_l0 (l0 : List S45) (l1 : List S47) (hJ : Sh.BJ (l0.map toJ)) (hS : Sh.BS (l1.map toS)) (hl0 : l0.length ≤ 200) (hl : l1.length ≤ 200) (a b : Int) (ha : 0 ≤ a ∧ a ≤ 1051898399) (hb : 0 ≤ b ∧ b ≤ 1051898399) (d : Nat) : ∀ (i : Nat) (n : Int), i ≤ l0.length → l0.length - i = d → 0 ≤ n → n ≤ 100000 * (i : Int) →
    Ev (fun k => shift_overfull.l0 k l1 a b n l0 (l0.length : Int) (i : Int)) (decide (0 < n + Sh.need ((l0.map toJ).drop i) a b - Sh.supply (l1.map toS) a b)) := by
  induction d with
  | zero =>
    intro i n hi hd h1 h2
    refine Ev.step (fun k => shift_overfull.l0.eq_2 _ _ _ _ _ _ _ k) ?_
    refine ev_neg (by omega) ?_
    rw [List.drop_of_length_le (by rw [List.length_map]; omega)]
    have key := over_l1 l1 hS hl a b ha hb (l1.length - 0) 0 n (by omega) rfl (by omega) (by omega)
    rw [List.drop_zero] at key
    refine ev_eq ?_ key
    have : Sh.need [] a b = 0 := rfl
    rw [this, Int.add_zero]
  | succ d ih =>
    intro i n hi hd h1 h2
    have c : i < l0.length := by omega
    have ci : (i : Int) < (l0.length : Int) := by omega
    have cj : i < (l0.map toJ).length := by rw [List.length_map]; exact c
    have hm : toJ l0[i] ∈ l0.map toJ := List.mem_map.2 ⟨_, List.getElem_mem c, rfl⟩
    have h3 := hJ.bd _ hm
    have h4 := hJ.vj.pos _ hm
    simp only [toJ] at h3 h4
    have ed : (l0.map toJ).drop i = toJ l0[i] :: (l0.map toJ).drop (i + 1) := by
      rw [List.drop_eq_getElem_cons cj]; simp
    rw [ed, need_toJ]
    have hb3 : -9223372036854775808 ≤ n + l0[i].f3 ∧ n + l0[i].f3 ≤ 9223372036854775807 := by omega
    have ih1 := ih (i + 1) (n + l0[i].f3) (by omega) (by omega) (by omega) (by omega)
    have ih2 := ih (i + 1) n (by omega) (by omega) (by omega) (by omega)
    refine Ev.step (fun k => shift_overfull.l0.eq_2 _ _ _ _ _ _ _ k) ?_
    refine ev_pos ci (ev_pos (by omega) (ev_pos ci ?_))
    rw [rd45_get c, w64 hb3.1 hb3.2, wsucc c (by omega)]
    by_cases c1 : l0[i].f1 ≥ a
    · refine ev_pos c1 ?_
      by_cases c2 : l0[i].f2 ≤ b
      · refine ev_pos c2 (ev_eq ?_ ih1)
        refine dec_congr ?_
        rw [if_pos (show a ≤ l0[i].f1 ∧ l0[i].f2 ≤ b from ⟨c1, c2⟩)]; omega
      · refine ev_neg c2 (ev_eq ?_ ih2)
        refine dec_congr ?_
        rw [if_neg (show ¬ (a ≤ l0[i].f1 ∧ l0[i].f2 ≤ b) by omega)]; omega
    · refine ev_neg c1 (ev_eq ?_ ih2)
      refine dec_congr ?_
      rw [if_neg (show ¬ (a ≤ l0[i].f1 ∧ l0[i].f2 ≤ b) by omega)]; omega
theorem over_f {l0 : List S45} {l1 : List S47} (hJ : Sh.BJ (l0.map toJ)) (hS : Sh.BS (l1.map toS)) (hl0 : l0.length ≤ 200) (hl : l1.length ≤ 200) {a b : Int} (ha : 0 ≤ a ∧ a ≤ 1051898399) (hb : 0 ≤ b ∧ b ≤ 1051898399) :
    Ev (fun k => shift_overfull.f k l0 l1 a b) (ovX (l0.map toJ) (l1.map toS) a b) := by
  unfold shift_overfull.f
  have key := over_l0 l0 l1 hJ hS hl0 hl a b ha hb (l0.length - 0) 0 0 (by omega) rfl (by omega) (by omega)
  rw [List.drop_zero] at key
  refine ev_eq ?_ key
  unfold ovX
  rw [Int.zero_add]
/-- The intervals that Excess looks at. -/
def pairs (L J : List Sh.Job) : List (Int × Int) := L.flatMap fun x => J.map fun y => (y.rel, x.due)
theorem exc_l1 {l0 : List S45} {l1 : List S47} (hJ : Sh.BJ (l0.map toJ)) (hS : Sh.BS (l1.map toS)) (hl0 : l0.length ≤ 200) (hl : l1.length ≤ 200) (x0 x1 x2 x3 : Int) (hx : 0 ≤ x2 ∧ x2 ≤ 1051898399) (i : Int) {r : Int × Int × Bool × Int} (d : Nat) : ∀ (j : Nat) (f t : Int) (b : Bool) (st : Int × Int × Bool), j ≤ l0.length → l0.length - j = d →
    st = (((l0.map toJ).drop j).map fun y => (y.rel, x2)).foldl (Sh.excStep (ovX (l0.map toJ) (l1.map toS))) (f, t, b) →
    Ev (fun k => shift_Excess.l0 k l0 l1 st.1 st.2.1 st.2.2 l0 (l0.length : Int) (wrap64 (i + 1))) r →
    Ev (fun k => shift_Excess.l1 k l0 l1 f t b l0 (l0.length : Int) i l0 (l0.length : Int) (j : Int) x0 x1 x2 x3) r := by
  induction d with
  | zero =>
    intro j f t b st hj hd hst hK
    refine Ev.step (fun k => shift_Excess.l1.eq_2 _ _ _ _ _ _ _ _ _ _ _ _ _ _ _ k) ?_
    rw [List.drop_of_length_le (by rw [List.length_map]; omega)] at hst
    subst hst
    exact ev_neg (by omega) hK
  | succ d ih =>
    intro j f t b st hj hd hst hK
    have c : j < l0.length := by omega
    have ci : (j : Int) < (l0.length : Int) := by omega
    have cj : j < (l0.map toJ).length := by rw [List.length_map]; exact c
    have hm : toJ l0[j] ∈ l0.map toJ := List.mem_map.2 ⟨_, List.getElem_mem c, rfl⟩
    have h3 := hJ.bd _ hm
    have h4 := hJ.vj.pos _ hm
    simp only [toJ] at h3 h4
    have ed : (l0.map toJ).drop j = toJ l0[j] :: (l0.map toJ).drop (j + 1) := by
      rw [List.drop_eq_getElem_cons cj]; simp
    rw [ed, List.map_cons, List.foldl_cons] at hst
    have hov := over_f hJ hS hl0 hl (a := l0[j].f1) (b := x2) ⟨h4.2.1, h3.2.2.1⟩ hx
    have er : (toJ l0[j]).rel = l0[j].f1 := rfl
    rw [er] at hst
    have go : ∀ (f' t' : Int) (b' : Bool), Sh.excStep (ovX (l0.map toJ) (l1.map toS)) (f, t, b) (l0[j].f1, x2) = (f', t', b') →
        Ev (fun k => shift_Excess.l1 k l0 l1 f' t' b' l0 (l0.length : Int) i l0 (l0.length : Int) ((j + 1 : Nat) : Int) x0 x1 x2 x3) r :=
      fun f' t' b' h => ih (j + 1) f' t' b' st (by omega) (by omega) (by rw [hst, h]) hK
    have call : (b = false ∨ x2 < t ∨ x2 = t ∧ f < l0[j].f1) → Ev (fun k => (shift_overfull.f k l0 l1 l0[j].f1 x2).bind fun t_ => (if t_ = true then (shift_Excess.l1 k l0 l1 l0[j].f1 x2 true l0 (l0.length : Int) i l0 (l0.length : Int) ((j + 1 : Nat) : Int) x0 x1 x2 x3) else (shift_Excess.l1 k l0 l1 f t b l0 (l0.length : Int) i l0 (l0.length : Int) ((j + 1 : Nat) : Int) x0 x1 x2 x3))) r := by
      intro hc
      have hcb : (!b || decide (x2 < t) || (decide (x2 = t) && decide (f < l0[j].f1))) = true := by
        simp only [Bool.or_eq_true, Bool.and_eq_true, decide_eq_true_eq, Bool.not_eq_true']
        rcases hc with h | h | h
        · exact .inl (.inl h)
        · exact .inl (.inr h)
        · exact .inr h
      refine Ev.bind hov ?_
      by_cases ho : ovX (l0.map toJ) (l1.map toS) l0[j].f1 x2 = true
      · refine ev_pos ho (go _ _ _ ?_)
        unfold Sh.excStep
        simp only [hcb, ho, Bool.and_self, if_true]
      · refine ev_neg ho (go _ _ _ ?_)
        unfold Sh.excStep
        simp only [hcb, Bool.eq_false_iff.2 ho, Bool.and_false, Bool.false_eq_true, if_false]
    have same : b = true → ¬ x2 < t → ¬ (x2 = t ∧ f < l0[j].f1) → Ev (fun k => shift_Excess.l1 k l0 l1 f t b l0 (l0.length : Int) i l0 (l0.length : Int) ((j + 1 : Nat) : Int) x0 x1 x2 x3) r := by
      intro hb h1 h2
      refine go _ _ _ ?_
      unfold Sh.excStep
      have hcb : (!b || decide (x2 < t) || (decide (x2 = t) && decide (f < l0[j].f1))) = false := by
        rw [hb, decide_eq_false h1]
        by_cases e : x2 = t
        · rw [decide_eq_false (fun h => h2 ⟨e, h⟩)]; simp
        · rw [decide_eq_false e]; rfl
      simp only [hcb, Bool.false_and, Bool.false_eq_true, if_false]
    refine Ev.step (fun k => shift_Excess.l1.eq_2 _ _ _ _ _ _ _ _ _ _ _ _ _ _ _ k) ?_
    refine ev_pos ci (ev_pos (by omega) (ev_pos ci ?_))
    rw [rd45_get c, wsucc c (by omega)]
    by_cases cb : b = true
    · refine ev_pos cb ?_
      by_cases c1 : x2 < t
      · exact ev_pos c1 (call (.inr (.inl c1)))
      · refine ev_neg c1 ?_
        by_cases c2 : x2 = t
        · refine ev_pos c2 ?_
          by_cases c3 : l0[j].f1 > f
          · exact ev_pos c3 (call (.inr (.inr ⟨c2, c3⟩)))
          · exact ev_neg c3 (same cb c1 (fun h => c3 h.2))
        · exact ev_neg c2 (same cb c1 (fun h => c2 h.1))
    · exact ev_neg cb (call (.inl (Bool.eq_false_iff.2 cb)))
theorem exc_l0 {l0 : List S45} {l1 : List S47} (hJ : Sh.BJ (l0.map toJ)) (hS : Sh.BS (l1.map toS)) (hl0 : l0.length ≤ 200) (hl : l1.length ≤ 200) (d : Nat) : ∀ (i : Nat) (f t : Int) (b : Bool) (st : Int × Int × Bool), i ≤ l0.length → l0.length - i = d →
    st = (pairs ((l0.map toJ).drop i) (l0.map toJ)).foldl (Sh.excStep (ovX (l0.map toJ) (l1.map toS))) (f, t, b) →
    Ev (fun k => shift_Excess.l0 k l0 l1 f t b l0 (l0.length : Int) (i : Int)) (st.1, st.2.1, st.2.2, 0) := by
  induction d with
  | zero =>
    intro i f t b st hi hd hst
    refine Ev.step (fun k => shift_Excess.l0.eq_2 _ _ _ _ _ _ _ _ k) ?_
    rw [List.drop_of_length_le (by rw [List.length_map]; omega)] at hst
    subst hst
    exact ev_neg (by omega) (Ev.now _)
  | succ d ih =>
    intro i f t b st hi hd hst
    have c : i < l0.length := by omega
    have ci : (i : Int) < (l0.length : Int) := by omega
    have cj : i < (l0.map toJ).length := by rw [List.length_map]; exact c
    have hm : toJ l0[i] ∈ l0.map toJ := List.mem_map.2 ⟨_, List.getElem_mem c, rfl⟩
    have h3 := hJ.bd _ hm
    simp only [toJ] at h3
    have ed : (l0.map toJ).drop i = toJ l0[i] :: (l0.map toJ).drop (i + 1) := by
      rw [List.drop_eq_getElem_cons cj]; simp
    rw [ed] at hst
    unfold pairs at hst
    rw [List.flatMap_cons, List.foldl_append] at hst
    have e0 : (toJ l0[i]).due = l0[i].f2 := rfl
    rw [e0] at hst
    generalize hq : ((l0.map toJ).map fun y => (y.rel, l0[i].f2)).foldl (Sh.excStep (ovX (l0.map toJ) (l1.map toS))) (f, t, b) = q at hst
    obtain ⟨f', t', b'⟩ := q
    have ih1 := ih (i + 1) f' t' b' st (by omega) (by omega) hst
    refine Ev.step (fun k => shift_Excess.l0.eq_2 _ _ _ _ _ _ _ _ k) ?_
    refine ev_pos ci (ev_pos (by omega) (ev_pos ci ?_))
    rw [rd45_get c]
    refine exc_l1 hJ hS hl0 hl _ _ _ _ ⟨h3.2.1, h3.2.2.2.1⟩ (i : Int) (l0.length - 0) 0 f t b (f', t', b') (by omega) rfl (by rw [List.drop_zero, hq]) ?_
    rw [wsucc c (by omega)]
    exact ih1
/-- What Excess returns for valid jobs and shifts. -/
def excX (J : List Sh.Job) (S : List Sh.Shift) : Int × Int × Bool := (pairs J J).foldl (Sh.excStep (ovX J S)) (0, 0, false)
theorem excess_f {l0 : List S45} {l1 : List S47} (hJ : Sh.BJ (l0.map toJ)) (hS : Sh.BS (l1.map toS)) (hl0 : l0.length ≤ 200) (hl : l1.length ≤ 200) :
    Ev (fun k => shift_Excess.f k l0 l1) ((excX (l0.map toJ) (l1.map toS)).1, (excX (l0.map toJ) (l1.map toS)).2.1, (excX (l0.map toJ) (l1.map toS)).2.2, 0) := by
  unfold shift_Excess.f
  refine Ev.bind (ev_val (valid_f hJ hS hl0 hl)) ?_
  refine ev_pos rfl ?_
  exact exc_l0 hJ hS hl0 hl (l0.length - 0) 0 0 0 false _ (by omega) rfl (by rw [List.drop_zero]; rfl)
theorem excX_exc (J : List Sh.Job) (S : List Sh.Shift) : Sh.Exc (ovX J S) (pairs J J) (excX J S) := by
  have := Sh.Exc.fold (pairs J J) [] (0, 0, false) (Sh.Exc.start (ovX J S))
  rw [List.nil_append] at this
  exact this
theorem mem_pairs {L J : List Sh.Job} {p : Int × Int} : p ∈ pairs L J ↔ ∃ x ∈ L, ∃ y ∈ J, p = (y.rel, x.due) := by
  unfold pairs
  rw [List.mem_flatMap]
  constructor
  · rintro ⟨x, hx, h⟩
    obtain ⟨y, hy, e⟩ := List.mem_map.1 h
    exact ⟨x, hx, y, hy, e.symm⟩
  · rintro ⟨x, hx, y, hy, e⟩
    exact ⟨x, hx, List.mem_map.2 ⟨y, hy, e.symm⟩⟩
end Go.Proofs.Ytbnjdlafnejanaa.Pr
namespace Go.Proofs.Ytbnjdlafnejanaa.Pr
open Go.RowKit Go.Proofs.YtbnjdlafnejanaaW.PrintWords Go.Proofs.YtbnjdlafnejanaaW.PrintLast Go.Proofs.YtbnjdlafnejanaaW.PrintMore
/-- What holds of the slices of the minutes ahead of t. -/
structure OAt (l0 : List S45) (l1 : List S47) (t : Int) (p : List S51) (n : Int) : Prop where
  sched : Sh.Sched (l0.map toJ) (l1.map toS) (p.map toL)
  before : ∀ u ∈ p, u.f2 ≤ t
  len : (p.length : Int) ≤ t
  n0 : 0 ≤ n
  nt : n ≤ t
/-- The minutes that the jobs still have to run. -/
def leftOf (l0 : List S45) (p : List S51) : List Int := rowOf l0 fun x => x.min - Sh.ran x.id (p.map toL)
theorem OAt.wait {l0 : List S45} {l1 : List S47} {t t' : Int} {p : List S51} {n : Int} (h : OAt l0 l1 t p n) (ht : t ≤ t') : OAt l0 l1 t' p n :=
  ⟨h.sched, fun u hu => by have := h.before u hu; omega, by have := h.len; omega, h.n0, by have := h.nt; omega⟩
/-- One more minute. -/
theorem OAt.go {l0 : List S45} {l1 : List S47} {t : Int} {p : List S51} {n n' : Int} (h : OAt l0 l1 t p n) (hJ : Sh.BJ (l0.map toJ)) (hin : ∃ s ∈ l1, s.f0 ≤ t ∧ t < s.f1) {m : Nat} (hm : m < l0.length) (hr : l0[m].f1 ≤ t) (hl : 0 < l0[m].f3 - Sh.ran l0[m].f0 (p.map toL)) (h0 : 0 ≤ n') (hn : n' ≤ t + 1) :
    OAt l0 l1 (t + 1) (p ++ [⟨l0[m].f0, t, t + 1⟩]) n' ∧ (leftOf l0 p).set m (l0[m].f3 - Sh.ran l0[m].f0 (p.map toL) - 1) = leftOf l0 (p ++ [⟨l0[m].f0, t, t + 1⟩]) := by
  have e : (p ++ [(⟨l0[m].f0, t, t + 1⟩ : S51)]).map toL = p.map toL ++ [⟨l0[m].f0, t, t + 1⟩] := by simp [toL]
  have hran : Sh.ran l0[m].f0 (p.map toL ++ [⟨l0[m].f0, t, t + 1⟩]) = Sh.ran l0[m].f0 (p.map toL) + 1 := by
    rw [ran_snoc, if_pos rfl]; simp only; omega
  constructor
  · refine ⟨?_, ?_, ?_, h0, hn⟩
    · rw [e]
      refine h.sched.snoc ?_
      obtain ⟨s, hs, h1, h2⟩ := hin
      refine ⟨toJ l0[m], List.mem_map.2 ⟨_, List.getElem_mem hm, rfl⟩, rfl, by simp only; omega, hr, ⟨toS s, List.mem_map.2 ⟨s, hs, rfl⟩, h1, by simp only [toS]; omega⟩, ?_, ?_⟩
      · intro v hv
        have hv' : v ∈ p.map toL := List.mem_of_getLast? (Option.mem_def.1 hv)
        obtain ⟨u, hu, rfl⟩ := List.mem_map.1 hv'
        exact h.before u hu
      · simp only [toJ]
        rw [hran]; omega
    · intro u hu
      rcases List.mem_append.1 hu with h1 | h1
      · have := h.before u h1; omega
      · rw [List.mem_singleton] at h1; subst h1; exact Int.le_refl _
    · rw [List.length_append, List.length_singleton]; have := h.len; omega
  · unfold leftOf
    refine rowOf_set hm hJ.vj ?_ ?_
    · rw [e]
      simp only [toJ]
      rw [hran]; omega
    · intro x hx
      rw [e, ran_snoc, if_neg (show ¬ l0[m].f0 = x.id from fun he => hx he.symm)]
      omega
end Go.Proofs.Ytbnjdlafnejanaa.Pr
namespace Go.Proofs.Ytbnjdlafnejanaa.Pr
open Go.RowKit Go.Proofs.YtbnjdlafnejanaaW.PrintWords Go.Proofs.YtbnjdlafnejanaaW.PrintLast Go.Proofs.YtbnjdlafnejanaaW.PrintMore
set_option maxRecDepth 100000 in
theorem awake_f : Ev (fun k => letterbaglaw30_awake.f k) true := Ev.of letterbaglaw30_awake.mono (k := 60) (by kernel_rfl)
theorem ends_sched {l : List S45} {l1 : List S47} {a : List S51} (hJ : Sh.BJ (l.map toJ)) (hS : Sh.BS (l1.map toS)) (hl : l.length ≤ 200) (h : Sh.Sched (l.map toJ) (l1.map toS) (a.map toL)) (hlen : a.length ≤ 1000000) : EndsOk l a := by
  refine ⟨hJ, hl, ?_, ?_⟩
  · unfold wf51
    rw [List.all_eq_true]
    intro u hu
    obtain ⟨x, hx, h1, _⟩ := h.mem (List.mem_map.2 ⟨u, hu, rfl⟩)
    have h2 := hJ.bd x hx
    have h3 := hJ.vj.pos x hx
    simp only [toL] at h1
    exact wf_i64 (by omega)
  · rw [Sh.timed_iff]
    refine ⟨by rw [List.length_map]; exact hlen, fun u hu => ?_⟩
    obtain ⟨x, hx, _, h1, h2, s, hs, h3, h4⟩ := h.mem hu
    have h5 := hS.bd s hs
    have h6 := hS.vs.pos s hs
    omega
theorem chk_sched {J : List Sh.Job} {S : List Sh.Shift} : ∀ (l p : List Sh.Slice) (i : Int), Sh.Sched J S (p ++ l) → Sh.chkFrom J S p l i = (0, 0) := by
  intro l
  induction l with
  | nil => intro p i _; rfl
  | cons u l ih =>
    intro p i h
    have hu : Sh.okAt J S p u := by
      have := h p.length (by rw [List.length_append, List.length_cons]; omega)
      rw [List.take_left, List.getElem_append_right (Nat.le_refl _)] at this
      simpa using this
    rw [chk_good hu]
    exact ih (p ++ [u]) (i + 1) (by rw [List.append_assoc]; exact h)
theorem check_sched {l : List S45} {l1 : List S47} {a : List S51} (hJ : Sh.BJ (l.map toJ)) (hS : Sh.BS (l1.map toS)) (hl : l.length ≤ 200) (hl1 : l1.length ≤ 200) (h : Sh.Sched (l.map toJ) (l1.map toS) (a.map toL)) (hlen : a.length ≤ 1000) :
    shift_Check.f l l1 a = some (0, 0) := by
  unfold shift_Check.f Sh.checkX
  rw [if_pos (wf45_BJ hJ), if_pos (ends_sched hJ hS hl h (by omega)).wf, if_neg (by rw [List.length_map]; omega), Sh.validX_of hJ hS (by simpa using hl) (by simpa using hl1), if_pos rfl, chk_sched _ [] 0 h]
/-- Slices that lie apart in a stretch of time are no more than it has minutes. -/
theorem len_apart {hi : Int} : ∀ (a : List Sh.Slice) (lo : Int), lo ≤ hi → (∀ u ∈ a, lo ≤ u.frm ∧ u.frm < u.to ∧ u.to ≤ hi) → a.Pairwise (fun u v => u.to ≤ v.frm) → (a.length : Int) ≤ hi - lo := by
  intro a
  induction a with
  | nil => intro lo h _ _; simp; omega
  | cons u a ih =>
    intro lo h hu hp
    obtain ⟨h1, h2⟩ := List.pairwise_cons.1 hp
    have h3 := hu u (by simp)
    have := ih u.to (by omega) (fun v hv => ⟨h1 v hv, (hu v (by simp [hv])).2⟩) h2
    rw [List.length_cons]
    omega
theorem sched_len {J : List Sh.Job} {S : List Sh.Shift} (hJ : Sh.VJ J) (hS : Sh.VS S) {hi : Int} (h0 : 0 ≤ hi) (hb : ∀ s ∈ S, s.to ≤ hi) {a : List Sh.Slice} (h : Sh.Sched J S a) : (a.length : Int) ≤ hi := by
  have := len_apart (hi := hi) a 0 h0 (fun u hu => by
    obtain ⟨x, hx, _, h1, h2, s, hs, h3, h4⟩ := h.mem hu
    have := hS.pos s hs
    have := hb s hs
    omega) (Sh.Sched.ord hJ hS a h).1.ord
  omega
/-- The schedule that Make returns. -/
def planOf (l : List S45) (l1 : List S47) : List S51 := (Sh.makeX (l.map toJ) (l1.map toS)).map ofL
theorem planOf_toL (l : List S45) (l1 : List S47) : (planOf l l1).map toL = Sh.makeX (l.map toJ) (l1.map toS) := toL_ofL _
theorem plan_sched {l : List S45} {l1 : List S47} (hJ : Sh.BJ (l.map toJ)) (hS : Sh.BS (l1.map toS)) : Sh.Sched (l.map toJ) (l1.map toS) ((planOf l l1).map toL) := by
  rw [planOf_toL]
  exact (Sh.made_makeX hJ.vj hS.vs).sched hJ.vj hS.vs
theorem plan_len {l : List S45} {l1 : List S47} (hJ : Sh.BJ (l.map toJ)) (hS : Sh.BS (l1.map toS)) {hi : Int} (h0 : 0 ≤ hi) (hb : ∀ s ∈ l1.map toS, s.to ≤ hi) : ((planOf l l1).length : Int) ≤ hi := by
  have := sched_len hJ.vj hS.vs h0 hb (plan_sched hJ hS)
  rwa [List.length_map] at this
end Go.Proofs.Ytbnjdlafnejanaa.Pr
