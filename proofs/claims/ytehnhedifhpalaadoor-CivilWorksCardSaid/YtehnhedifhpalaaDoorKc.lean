/- LentInts of letterbagkit: a copy of a short list, with twelve marks behind its length. KeptInts of letterbagkit: true of a copy by LentInts that nobody wrote to. LentInts, with what its caller needs; the memory between the calls of civilWorks. -/
import Derived.Test.YtehnhedifhpalaaDoorCp19
import Derived.Test.YtehnhedifhpalaaDoorCf
set_option linter.unusedVariables false
set_option linter.unusedSimpArgs false
namespace Go.Proofs.YtehnhedifhpalaaDoor.Cp
open Go.RowKit Go.Proofs.YtehnhedifhpalaaDoorW.PrintWords Go.Proofs.YtehnhedifhpalaaDoorW.PrintLast Go.Proofs.YtehnhedifhpalaaDoorW.PrintMore
attribute [local go_sem] max2_int min2_int max_two min_two max_three min_three max_four min_four

def marks (n : Nat) : List Int := (List.range n).map fun i : Nat => 8000024 + (i : Int)
theorem marks_len (n : Nat) : (marks n).length = n := by simp [marks]
theorem marks_succ (n : Nat) : marks (n + 1) = marks n ++ [8000024 + (n : Int)] := by simp [marks, List.range_succ]

theorem mark_f (i : Nat) (hi : i < 100) : letterbagkit_mark.f 1 (i : Int) = some (8000024 + (i : Int)) := by
  unfold letterbagkit_mark.f
  have e1 : wrap64 ((1 : Int) + 7) = 8 := w64 (by decide) (by decide)
  have e2 : wrap64 ((1000003 : Int) * 8) = 8000024 := w64 (by decide) (by decide)
  rw [e1, e2, w64 (by omega) (by omega)]

theorem append_none_any {P : Program} (w : World) {ops : Array Oper} {rest : List Oper} {o : Oper} {a : Act} {Q : Exit → Act → World → Prop}
    (hg : o.guard = none) (s x : Operand) (t : TypeId) (hop : o.op = Op.call { callee := Callee.builtin Builtin.append, args := #[s, x], argTypes := #[t, t] })
    (base : Nat) (e : TypeId) (i : TypeInfo) (size : Nat) (h1 : P.underlying t = some (.slice e)) (h2 : P.info? e = some i)
    (g k cap : Nat) (xs : List Value) (hs : a.eval s = .slice (some ⟨g, 0, none⟩) k cap) (hown : w.ownsRow base e size (.slice (some ⟨g, 0, none⟩) k cap) k xs) (c : Nat) (hx : a.eval x = .slice none 0 c)
    (hK : wpList P ops Q rest (a.put o.dst (.slice (some ⟨g, 0, none⟩) k cap)) w) :
    wpList P ops Q (o :: rest) a w := by
  refine wpList_plain hg fun K hK' => ?_
  have hrun : (Builtin.append_ #[t, t] o.type #[.slice (some ⟨g, 0, none⟩) k cap, .slice none 0 c]).run P w = .ok (.slice (some ⟨g, 0, none⟩) k cap) w := by
    rcases hown.2 with ⟨hv, rfl⟩ | ⟨g', cap', cur, hv, _, _, hnc, _⟩
    · cases hv
    · injection hv with h1' h2' h3'
      subst h3'
      simp [Builtin.append_, run_underlying h1, sizeOf, typeInfo, h2, Builtin.lenOf, Builtin.firstCells, hnc, storeCells]
  unfold Oper.wp
  simp [execOp, hop, resolve, invoke, builtin, hs, hx, hrun, Result.andThen]
  exact hK' _ _ hK

theorem nums_one (l : List Int) : ∀ u ∈ nums .i64 l, u.oneCell' = true := by
  intro u hu
  obtain ⟨x, _, rfl⟩ := List.mem_map.1 hu
  rfl

theorem list_cells {w : World} {A : Option Addr} {l : List Int} (h : Kd.C (Kd.int .i64) w A l.length l) : ∀ ad, A = some ad → ∀ j u, (nums .i64 l)[j]? = some u → w.cell? (ad.add j) = some u := by
  intro ad e j u hu
  have hj : j < l.length := by
    have := (List.getElem?_eq_some_iff.1 hu).1
    simpa [nums] using this
  obtain ⟨ad', e', hc⟩ := Kd.at_int h (j : Int) (by omega) (by omega)
  subst e
  cases e'
  have hu' : u = .int .i64 (rd l (j : Int)) := by
    have := hu
    simp [nums, hj] at this
    rw [← this]
    simp [rd, hj]
  rw [hu']
  exact hc

theorem fresh_cell (w : World) (m : Nat) (v : Value) : ∀ j u, [v][j]? = some u → ((w.drewN m).alloc (.cells #[v] 3)).cell? ((⟨w.heap.size, 0, none⟩ : Addr).add j) = some u := by
  intro j u h
  match j, h with
  | 0, h =>
    have hu : v = u := by simpa using h
    subst hu
    have hs : (w.drewN m).heap.size = w.heap.size := by simp
    have := blk_new (w.drewN m) (.cells #[v] 3)
    rw [hs] at this
    exact (cell_of_row _ w.heap.size 0 _ 3 (0, 0) this).trans rfl

theorem own_drawn {w : World} {base e size : Nat} {a : Addr} {k c n : Nat} {xs : List Value} (h : w.ownsRow base e size (.slice (some a) k c) n xs) (m : Nat) : (w.drewN m).ownsRow base e size (.slice (some a) k c) n xs :=
  h.kept (grown_of_below ((Drawn0.refl w).step m).below none) (.inr (by simp [Value.ownBlock]))

set_option maxHeartbeats 4000000 in
set_option maxRecDepth 100000 in
theorem lent_any (A0 : Option Addr) (c0 : Nat) (l : List Int) (w : World) (hr : Kd.C (Kd.int .i64) w A0 l.length l) (hc0 : l.length ≤ c0) (hn : l.length ≤ 60) :
    Calls Tryd.prog 47 #[.slice A0 l.length c0] w fun e w' => e = .returned (.slice (some ⟨w.heap.size, 0, none⟩) l.length (l.length + 12)) ∧
      Aside0 (w'.ownsRow w.heap.size 3 1 (.slice (some ⟨w.heap.size, 0, none⟩) (l.length + 12) (l.length + 12)) (l.length + 12) (nums .i64 (l ++ marks 12))) ∧ Aside0 (Below w.heap.size w w') := by
  obtain ⟨i0, hi, hz0, hz1, hz2⟩ := info_parts info3
  have HR := Aside0.mk hr
  have HN := Aside0.mk hn
  have HC := Aside0.mk hc0
  have en : wrap64 ((l.length : Int) + 12) = (l.length : Int) + 12 := by have := HN.out; exact w64 (by omega) (by omega)
  cases A0 with
  | none =>
    have hl : l = [] := by
      rcases l with _ | ⟨x, l⟩
      · rfl
      · obtain ⟨ad, e, _⟩ := Kd.at_int hr 0 (by omega) (by simp only [List.length_cons]; omega)
        cases e
    subst hl
    have en : wrap64 (((0 : Nat) : Int) + 12) = ((0 : Nat) : Int) + 12 := w64 (by decide) (by decide)
    clear hr hn hc0
    go_enter Tryd.func47, Tryd.ntmps47
    go_wp2_with (first
      | (at_make; refine wpList_make_own _ rfl _ _ 22 rfl w.heap.size 3 i0 (.int .i64 0) 1 Tryd.underlying22 hi hz0 hz1 _ _ _ 12 rfl rfl ?b1 ?b2 ?b3 (Nat.le_refl _) ?_; (case b1 => first | omega | (simp; done) | (push_cast; rfl)); (case b2 => rw [hz2]; have := HN.out; omega); (case b3 => unfold maxLen; have := HN.out; omega); intro w0 hown0 hgrow0; have HB0 := Aside0.mk ((Below.refl w.heap.size w).grown hgrow0 (Nat.le_refl _) (fun k h => by cases h)))
      | (at_builtin; refine append_none_any _ rfl (.tmp 9) (.tmp 10) 22 rfl w.heap.size 3 i0 1 Tryd.underlying22 hi w.heap.size 0 12 _ rfl hown0 _ rfl ?_; have hown1 := hown0; have HB1 := HB0))
    go_loopg [3, 4] 12 (fun kq v3 v4 wr => ∃ i : Nat, v3 = .slice (some ⟨w.heap.size, 0, none⟩) i 12 ∧ v4 = .int .i64 (i : Int) ∧ Aside0 (i ≤ 12 ∧ kq = 12 - i) ∧ Aside0 (wr.ownsRow w.heap.size 3 1 (.slice (some ⟨w.heap.size, 0, none⟩) i 12) i (nums .i64 ([] ++ marks i))) ∧ Aside0 (Below w.heap.size w wr))
    case atStart => exact ⟨0, rfl, rfl, ⟨by omega, by omega⟩, ⟨hown1⟩, HB1⟩
    case round =>
      obtain ⟨i, rfl, rfl, HI, HO, HB⟩ := hrel
      by_cases c : (i : Int) < 12
      · have cb : decide ((i : Int) < 12) = true := decide_eq_true c
        have HM := Aside0.mk (mark_f i (by omega))
        have CI := Aside0.mk c
        have q1 : -9223372036854775808 ≤ (i : Int) + 1 ∧ (i : Int) + 1 ≤ 9223372036854775807 := by omega
        have w1 := w64 q1.1 q1.2
        clear c q1
        go_wp2_with (first
          | (go_at_call 68; (with_reducible refine (letterbagkit_mark.calls 1 (i : Int) _ _ HM.out).mono ?_); rintro e wm ⟨rfl, ⟨nd, rfl⟩⟩)
          | (at_builtin; refine wpList_append_fits _ rfl (.tmp 16) (.tmp 19) 22 rfl w.heap.size 3 i0 1 Tryd.underlying22 hi hz1 w.heap.size i 12 _ rfl ((own_drawn HO.out nd).alloc _) ⟨wr.heap.size, 0, none⟩ 1 1 [.int .i64 (8000024 + (i : Int))] rfl rfl ?c1 ?c2 ?c3 ?_; (case c1 => exact fresh_cell wr nd _); (case c2 => intro u hu; rw [List.mem_singleton.1 hu]; rfl); (case c3 => have := CI.out; omega); intro w2 hown2 hgrow2))
        go_roundg (12 - (i + 1))
        case measure => have := HI.out; have := CI.out; omega
        case rel => exact ⟨i + 1, rfl, by first | rfl | simp [w1], ⟨by have := CI.out; omega, rfl⟩, ⟨by rw [marks_succ, ← List.append_assoc, nums_append]; exact hown2⟩, ⟨(below_alloc (pw_below_drewN HB.out nd) _).grown hgrow2 (below_size (below_alloc (pw_below_drewN HB.out nd) _)) (fun k hk => by cases hk; exact Nat.le_refl _)⟩⟩
      · have cb : decide ((i : Int) < 12) = false := decide_eq_false c
        have hi12 : i = 12 := by have := HI.out; omega
        subst hi12
        clear c
        go_wp2
        go_ret
        exact ⟨rfl, HO, HB⟩
  | some ad =>
    have HS := Aside0.mk (list_cells hr ad rfl)
    clear hr hn hc0
    go_enter Tryd.func47, Tryd.ntmps47
    go_wp2_with (first
      | (at_make; refine wpList_make_own _ rfl _ _ 22 rfl w.heap.size 3 i0 (.int .i64 0) 1 Tryd.underlying22 hi hz0 hz1 _ _ _ (l.length + 12) rfl rfl ?b1 ?b2 ?b3 (Nat.le_refl _) ?_; (case b1 => first | omega | (simp; done) | (push_cast; rfl)); (case b2 => rw [hz2]; have := HN.out; omega); (case b3 => unfold maxLen; have := HN.out; omega); intro w0 hown0 hgrow0; have HB0 := Aside0.mk ((Below.refl w.heap.size w).grown hgrow0 (Nat.le_refl _) (fun k h => by cases h)))
      | (at_builtin; refine wpList_append_fits _ rfl (.tmp 9) (.tmp 10) 22 rfl w.heap.size 3 i0 1 Tryd.underlying22 hi hz1 w.heap.size 0 (l.length + 12) _ rfl hown0 ad l.length _ (nums .i64 l) rfl ?a1 ?a2 (nums_one l) ?a3 ?_; (case a1 => simp [nums]); (case a2 => intro j u hj; exact pw_cell_below HB0.out (HS.out j u hj)); (case a3 => omega); intro w1 hown1 hgrow1; have HB1 := Aside0.mk (HB0.out.grown hgrow1 (below_size HB0.out) (fun k h => by cases h; exact Nat.le_refl _))))
    go_loopg [3, 4] 12 (fun kq v3 v4 wr => ∃ i : Nat, v3 = .slice (some ⟨w.heap.size, 0, none⟩) (l.length + i) (l.length + 12) ∧ v4 = .int .i64 (i : Int) ∧ Aside0 (i ≤ 12 ∧ kq = 12 - i) ∧ Aside0 (wr.ownsRow w.heap.size 3 1 (.slice (some ⟨w.heap.size, 0, none⟩) (l.length + i) (l.length + 12)) (l.length + i) (nums .i64 (l ++ marks i))) ∧ Aside0 (Below w.heap.size w wr))
    case atStart => exact ⟨0, rfl, rfl, ⟨by omega, by omega⟩, ⟨by simpa [marks] using hown1⟩, HB1⟩
    case round =>
      obtain ⟨i, rfl, rfl, HI, HO, HB⟩ := hrel
      by_cases c : (i : Int) < 12
      · have cb : decide ((i : Int) < 12) = true := decide_eq_true c
        have HM := Aside0.mk (mark_f i (by omega))
        have CI := Aside0.mk c
        have q1 : -9223372036854775808 ≤ (i : Int) + 1 ∧ (i : Int) + 1 ≤ 9223372036854775807 := by omega
        have w1 := w64 q1.1 q1.2
        clear c q1
        go_wp2_with (first
          | (go_at_call 68; (with_reducible refine (letterbagkit_mark.calls 1 (i : Int) _ _ HM.out).mono ?_); rintro e wm ⟨rfl, ⟨nd, rfl⟩⟩)
          | (at_builtin; refine wpList_append_fits _ rfl (.tmp 16) (.tmp 19) 22 rfl w.heap.size 3 i0 1 Tryd.underlying22 hi hz1 w.heap.size (l.length + i) (l.length + 12) _ rfl ((own_drawn HO.out nd).alloc _) ⟨wr.heap.size, 0, none⟩ 1 1 [.int .i64 (8000024 + (i : Int))] rfl rfl ?c1 ?c2 ?c3 ?_; (case c1 => exact fresh_cell wr nd _); (case c2 => intro u hu; rw [List.mem_singleton.1 hu]; rfl); (case c3 => have := CI.out; omega); intro w2 hown2 hgrow2))
        go_roundg (12 - (i + 1))
        case measure => have := HI.out; have := CI.out; omega
        case rel => exact ⟨i + 1, rfl, by first | rfl | simp [w1], ⟨by have := CI.out; omega, rfl⟩, ⟨by rw [marks_succ, ← List.append_assoc, nums_append]; exact hown2⟩, ⟨(below_alloc (pw_below_drewN HB.out nd) _).grown hgrow2 (below_size (below_alloc (pw_below_drewN HB.out nd) _)) (fun k hk => by cases hk; exact Nat.le_refl _)⟩⟩
      · have cb : decide ((i : Int) < 12) = false := decide_eq_false c
        have hi12 : i = 12 := by have := HI.out; omega
        subst hi12
        clear c
        go_wp2
        go_ret
        exact ⟨rfl, HO, HB⟩

end Go.Proofs.YtehnhedifhpalaaDoor.Cp

namespace Go.Proofs.YtehnhedifhpalaaDoor.Cp
open Go.RowKit Go.Proofs.YtehnhedifhpalaaDoorW.PrintWords Go.Proofs.YtehnhedifhpalaaDoorW.PrintLast Go.Proofs.YtehnhedifhpalaaDoorW.PrintMore
attribute [local go_sem] max2_int min2_int max_two min_two max_three min_three max_four min_four

theorem nums_left (l m : List Int) (i : Nat) (h : i < l.length) : (nums .i64 (l ++ m))[i]? = some (.int .i64 l[i]) := by simp [nums, List.getElem?_append_left, h]
theorem nums_mark (l : List Int) (i : Nat) (h0 : l.length ≤ i) (h : i < l.length + 12) : (nums .i64 (l ++ marks 12))[i]? = some (.int .i64 (8000024 + ((i : Int) - (l.length : Int)))) := by
  have hi : i - l.length < 12 := by omega
  simp only [nums, List.getElem?_map]
  rw [List.getElem?_append_right h0]
  simp only [marks, List.getElem?_map, List.getElem?_range hi, Option.map_some]
  congr 2
  omega

set_option maxHeartbeats 4000000 in
set_option maxRecDepth 100000 in
theorem kept_any (g c : Nat) (A0 : Option Addr) (c0 : Nat) (l : List Int) (w : World) (hx : ∀ j u, (nums .i64 (l ++ marks 12))[j]? = some u → w.cell? ⟨g, j, none⟩ = some u)
    (hr : Kd.C (Kd.int .i64) w A0 l.length l) (hc0 : l.length ≤ c0) (hn : l.length ≤ 60) (hc : l.length + 12 ≤ c) :
    Calls Tryd.prog 53 #[.slice (some ⟨g, 0, none⟩) l.length c, .slice A0 l.length c0] w fun e w' => e = .returned (.bool true) ∧ Drawn0 w w' := by
  have HX := Aside0.mk hx
  have HR := Aside0.mk hr
  have HN := Aside0.mk hn
  clear hx hr
  have en : wrap64 ((l.length : Int) + 12) = (l.length : Int) + 12 := w64 (by omega) (by omega)
  have p0 : (0 ≤ (l.length : Int) + 12) = True := eq_true (by omega)
  have p1 : ((l.length : Int) + 12 ≤ (c : Int)) = True := eq_true (by omega)
  go_enter Tryd.func53, Tryd.ntmps53
  go_wp2
  go_loopg [6] (l.length + 12) (fun kq v6 wr => ∃ i : Nat, v6 = .int .i64 (i : Int) ∧ Aside0 (i ≤ l.length + 12 ∧ kq = l.length + 12 - i) ∧ Drawn0 w wr)
  case atStart => exact ⟨0, rfl, ⟨by omega, by omega⟩, by repeat (first | exact Drawn0.refl _ | apply Drawn0.step)⟩
  case round =>
    obtain ⟨i, rfl, HI, ⟨nd, rfl⟩⟩ := hrel
    by_cases d : i < l.length + 12
    · have db : decide ((i : Int) < (l.length : Int) + 12) = true := decide_eq_true (by omega)
      have CI := Aside0.mk d
      have q1 : -9223372036854775808 ≤ (i : Int) + 1 ∧ (i : Int) + 1 ≤ 9223372036854775807 := by omega
      have w1 := w64 q1.1 q1.2
      by_cases d2 : i < l.length
      · have db2 : decide ((i : Int) < (l.length : Int)) = true := decide_eq_true (by omega)
        have db3 : decide (l.length ≤ i) = false := decide_eq_false (by omega)
        have db4 : decide (i < l.length) = true := decide_eq_true d2
        have hcx := HX.out i _ (nums_left l _ i d2)
        obtain ⟨ad, e, hcl⟩ := Kd.at_int HR.out (i : Int) (by omega) (by omega)
        cases e
        rw [rd_get d2, show ((i : Int)).toNat = i by omega] at hcl
        generalize l[i] = z at hcx hcl
        have r1 : ((i : Int) < (l.length : Int)) = True := eq_true (by omega)
        have r2 : (0 ≤ (i : Int)) = True := eq_true (by omega)
        have r3 : ((i : Int) < (l.length : Int) + 12) = True := eq_true (by omega)
        clear q1 d d2
        go_wp2
        repeat (go_quiet (fail); try go_wp2)
        go_roundg (l.length + 12 - (i + 1))
        case measure => have := HI.out; have := CI.out; omega
        case rel => exact ⟨i + 1, by first | rfl | simp [w1], ⟨by have := CI.out; omega, rfl⟩, by repeat (first | exact Drawn0.refl _ | apply Drawn0.step)⟩
      · have db2 : decide ((i : Int) < (l.length : Int)) = false := decide_eq_false (by omega)
        have db3 : decide (l.length ≤ i) = true := decide_eq_true (by omega)
        have db4 : decide (i < l.length) = false := decide_eq_false d2
        have hcx := HX.out i _ (nums_mark l i (by omega) d)
        have ej : wrap64 ((i : Int) - (l.length : Int)) = (i : Int) - (l.length : Int) := w64 (by omega) (by omega)
        have hm := mark_f (i - l.length) (by omega)
        rw [show ((i - l.length : Nat) : Int) = (i : Int) - (l.length : Int) by omega] at hm
        have HM := Aside0.mk hm
        have r2 : (0 ≤ (i : Int)) = True := eq_true (by omega)
        have r3 : ((i : Int) < (l.length : Int) + 12) = True := eq_true (by omega)
        clear q1 d d2 hm
        go_wp2
        repeat (go_quiet (first | (go_at_call 68; (with_reducible refine (letterbagkit_mark.calls 1 ((i : Int) - (l.length : Int)) _ _ HM.out).mono ?_); rintro e w' ⟨rfl, ⟨nd, rfl⟩⟩; (try first | exact ⟨rfl, _, World.drewN_drewN _ _ _⟩ | exact ⟨rfl, _, Eq.trans (World.drewN_drewN _ _ _) (congrArg (World.drewN _) (Nat.add_assoc _ _ _))⟩))); try go_wp2)
        go_roundg (l.length + 12 - (i + 1))
        case measure => have := HI.out; have := CI.out; omega
        case rel => exact ⟨i + 1, by first | rfl | simp [w1], ⟨by have := CI.out; omega, rfl⟩, by repeat (first | exact Drawn0.refl _ | apply Drawn0.step)⟩
    · have db : decide ((i : Int) < (l.length : Int) + 12) = false := decide_eq_false (by omega)
      clear d
      go_wp2
      go_ret
      exact ⟨rfl, by repeat (first | exact Drawn0.refl _ | apply Drawn0.step)⟩

end Go.Proofs.YtehnhedifhpalaaDoor.Cp

namespace Go.Proofs.YtehnhedifhpalaaDoor.Cp
open Go.RowKit Go.Proofs.YtehnhedifhpalaaDoorW.PrintWords Go.Proofs.YtehnhedifhpalaaDoorW.PrintLast Go.Proofs.YtehnhedifhpalaaDoorW.PrintMore

/-- The lent list's cells, marks and all. -/
def Lent (W : World) (g : Nat) (l : List Int) : Prop := ∀ j u, (nums .i64 (l ++ marks 12))[j]? = some u → W.cell? ⟨g, j, none⟩ = some u

theorem lent_ex (A0 : Option Addr) (c0 : Nat) (l : List Int) (w : World) (hr : Kd.C (Kd.int .i64) w A0 l.length l) (hc0 : l.length ≤ c0) (hn : l.length ≤ 60) :
    Calls Tryd.prog 47 #[.slice A0 l.length c0] w fun e w' => ∃ g, e = .returned (.slice (some ⟨g, 0, none⟩) l.length (l.length + 12)) ∧ Lent w' g l ∧ Below w.heap.size w w' := by
  refine (lent_any A0 c0 l w hr hc0 hn).mono ?_
  rintro e w' ⟨rfl, ho, hb⟩
  refine ⟨_, rfl, fun j u hu => ?_, hb.out⟩
  have := ho.out.cells rfl j u hu
  rwa [show (⟨w.heap.size, 0, none⟩ : Addr).add j = ⟨w.heap.size, j, none⟩ by simp [Addr.add]; omega] at this

theorem lent_list {W : World} {g : Nat} {l : List Int} (h : Lent W g l) (hn : l.length ≤ 60) : Kd.C (Kd.int .i64) W (some ⟨g, 0, none⟩) l.length l := by
  refine ⟨rfl, by omega, fun _ => ⟨⟨g, 0, none⟩, rfl, fun j q hj => ?_⟩⟩
  obtain ⟨hjl, rfl⟩ := List.getElem?_eq_some_iff.1 hj
  refine ⟨[.int .i64 l[j]], rfl, rfl, fun i u hu => ?_⟩
  match i, hu with
  | 0, hu =>
    injection hu with hu
    subst hu
    have := h j _ (nums_left l _ j hjl)
    have e : j * (Kd.int .i64).sz + 0 = j := by
      show j * 1 + 0 = j
      omega
    rw [e, show (⟨g, 0, none⟩ : Addr).add j = ⟨g, j, none⟩ by simp [Addr.add]; omega]
    exact this

/-- What holds between the calls. -/
structure St (w W : World) (g : Nat) (A0 : Option Addr) (l : List Int) : Prop where
  below : Below w.heap.size w W
  tab : Tab W
  lent : Lent W g l
  arg : Kd.C (Kd.int .i64) W A0 l.length l

theorem St.step {w W W' : World} {g : Nat} {A0 : Option Addr} {l : List Int} (h : St w W g A0 l) (hb : Below W.heap.size W W') : St w W' g A0 l :=
  ⟨below_step h.below hb, h.tab.below hb, fun j u hu => pw_cell_below hb (h.lent j u hu), Kd.C_below h.arg hb⟩

end Go.Proofs.YtehnhedifhpalaaDoor.Cp
