/- counts of civil: the walk. -/
import Derived.Test.YtehnhedifhpalaaDoorCc
import Derived.Test.YtehnhedifhpalaaDoorCh
namespace Go.Proofs.YtehnhedifhpalaaDoor.Cq
open Go.Proofs.YtehnhedifhpalaaDoor.Cp
open Go.RowKit Go.Proofs.YtehnhedifhpalaaDoorW.PrintWords Go.Proofs.YtehnhedifhpalaaDoorW.PrintLast Go.Proofs.YtehnhedifhpalaaDoorW.PrintMore
attribute [local go_sem] max2_int min2_int max_two min_two max_three min_three max_four min_four
set_option linter.unusedVariables false
set_option linter.unusedSimpArgs false

def CountsPost (l : List Int) (w : World) (e : Ending) (w' : World) : Prop :=
  ∃ (g : Nat) (A : Option Addr) (c : Nat), e = .returned (.func (.func 72) #[] #[.pointer (some ⟨g, 0, none⟩)]) ∧ w'.cell? ⟨g, 0, none⟩ = some (.slice A (Cv.freeOf l).length c) ∧
    Kd.C (Kd.int .i64) w' A (Cv.freeOf l).length (Cv.freeOf l) ∧ (Cv.freeOf l).length ≤ c ∧ Below w.heap.size w w'

theorem free_take {l : List Int} {x : Int} (h0 : 0 ≤ x) (h : x < (l.length : Int)) (hd : 0 ≤ rd l x) :
    Cv.freeOf (l.take (x + 1).toNat) = Cv.freeOf (l.take x.toNat) ++ (if Int.tmod (rd l x) 7 < 5 then [rd l x] else []) := by
  have hn : x.toNat < l.length := by omega
  have e : (x + 1).toNat = x.toNat + 1 := by omega
  have er : rd l x = l[x.toNat] := by simp [rd, hn]
  rw [e, List.take_succ_eq_append_getElem hn, er]
  rw [er] at hd
  unfold Cv.freeOf
  rw [List.filter_append, Int.tmod_eq_emod_of_nonneg hd]
  congr 1
  by_cases c : l[x.toNat] % 7 < 5
  · rw [if_pos c, List.filter_cons_of_pos (by simpa using c)]; rfl
  · rw [if_neg c, List.filter_cons_of_neg (by simpa using c)]; rfl

theorem free_len (l : List Int) : (Cv.freeOf l).length ≤ l.length := List.length_filter_le _ _

set_option maxHeartbeats 8000000 in
set_option maxRecDepth 100000 in
theorem counts_any (A0 : Option Addr) (c0 : Nat) (l0 : List Int) (w : World) (hr0 : Kd.C (Kd.int .i64) w A0 l0.length l0) (hl : l0.length ≤ 1000) (hpos : ∀ d ∈ l0, 0 ≤ d) :
    Calls Tryd.prog 58 #[.slice A0 l0.length c0] w (CountsPost l0 w) := by
  have hmf : ∀ (fn : Fn) (first cap : Array Value) (w : World), (Instr.makeFunc fn first cap).run Tryd.prog w = .ok (.func fn first cap) w := fun _ _ _ _ => rfl
  have HR0 := Aside0.mk hr0
  have HL := Aside0.mk hl
  have HP := Aside0.mk hpos
  clear hr0 hl hpos
  have HB := Aside0.mk (Below.refl w.heap.size w)
  go_enter Tryd.func58, Tryd.ntmps58
  go_wp2_with (first | ((with_reducible refine gate_dst (N := 3) rfl ?_); refine box_event ?hg (N := 3) ?hd (cs := #[.slice none 0 0]) (t := 22) ?hr ?_; (case hd => rfl); (case hg => rfl); (case hr => first | (go_simp; done) | (go_simp; rfl)); intro g hg w1 hbox hb; have n0_ := Aside0.mk hbox; have n1_ := Aside0.mk ((by rw [hg]; exact (below_size HB.out)) : w.heap.size ≤ g); have n2_ := Aside0.mk (below_step (by repeat (first | (with_reducible first | exact HB.out | apply below_alloc | apply pw_below_drewN | apply below_drew1) | exact HB.out)) hb); clear HB; have BK := n0_; have GE := n1_; have HB := n2_; clear n0_ n1_ n2_ hbox hg hb))
  go_loopg [8] l0.length (fun kq v8 wr => ∃ (x : Int) (v : Value), v8 = .int .i64 x ∧ Aside0 ((kq : Int) + x = l0.length ∧ 0 ≤ x) ∧ Aside0 (wr.heap[g]? = some (.cells #[v] 22 (0, 0))) ∧ Aside0 (Kd.R (Kd.int .i64) 3 wr w.heap.size (fun k_ => k_ ≠ g) v (Cv.freeOf (l0.take x.toNat))) ∧ Aside0 (Below w.heap.size w wr))
  case atStart => exact ⟨0, .slice none 0 0, rfl, ⟨by simp⟩, BK, ⟨Kd.R_nil _ _ _ _ _⟩, HB⟩
  case round =>
    obtain ⟨x, v, rfl, HK, BK, HO, HB⟩ := hrel
    obtain ⟨Ao, co, eo⟩ := Kd.R_slice HO.out
    subst eo
    by_cases hlt : x < (l0.length : Int)
    · have c0b : decide (x < (l0.length : Int)) = true := decide_eq_true hlt
      have h0 : 0 ≤ x := HK.out.2
      have HLT := Aside0.mk hlt
      have H0 := Aside0.mk h0
      have hdn : 0 ≤ rd l0 x := HP.out _ (by have hn : x.toNat < l0.length := by omega
                                             have : rd l0 x = l0[x.toNat] := by simp [rd, hn]
                                             rw [this]; exact List.getElem_mem hn)
      have HFT := Aside0.mk (free_take h0 hlt hdn)
      obtain ⟨ad, ea, hx0⟩ := Kd.at_int HR0.out x h0 hlt
      have q0 := eq_true hlt
      have p0 := eq_true h0
      subst ea
      replace hx0 := (HB.out.cell (World.block_lt_of_cell? w _ hx0)).trans hx0
      have EW : Aside0 (wrap64 (x + 1) = x + 1) := ⟨by have := HL.out; unfold wrap64; omega⟩
      have hcz := (blk_cell BK.out 0)
      have hfz := blk_frozen BK.out 0
      replace hcz : _ = some (Value.slice Ao (Cv.freeOf (l0.take x.toNat)).length co) := hcz.trans rfl
      clear hlt h0 hdn
      generalize rd l0 x = y at *
      by_cases c : Int.tmod y 7 < 5
      · have d1 : decide (Int.tmod y 7 < 5) = true := decide_eq_true c
        rw [if_pos c] at HFT
        clear c
        have LEN : Aside0 ((Cv.freeOf (l0.take x.toNat)).length ≤ 1000) := ⟨Nat.le_trans (free_len _) (Nat.le_trans (by rw [List.length_take]; exact Nat.min_le_right _ _) HL.out)⟩
        generalize Cv.freeOf (l0.take x.toNat) = F at *
        go_wp2_with (first | ((with_reducible refine gate_builtin (b := .append) (xs := #[.tmp 15, .tmp 17]) rfl ?_); at_builtin; refine Kd.R_append (Kd.int .i64) (w0 := w) w.heap.size rfl (.tmp 15) (.tmp 17) 22 3 (.int .i64 0) 8 rfl Tryd.underlying22 info3 rfl (by decide) (by omega) (.slice Ao F.length co) F y [.int .i64 y] (fun k_ => k_ ≠ g) (fun _ => False) rfl rfl ?aP (fun _ hk => hk.elim) ?aF ?aO ?aB ?aS ?aL ?_; (case aP => exact rfl); (case aB => exact (by repeat (first | (with_reducible first | exact HB.out | apply below_alloc | apply pw_below_drewN | apply below_drew1) | exact HB.out))); (case aF => exact (fun k_ hk_ e_ => Nat.not_lt.2 hk_ (e_ ▸ blk_lt BK.out))); (case aO => exact (by (with_reducible repeat (first | apply Kd.R_alloc | apply Kd.R_drewN | apply Kd.R_drew)); exact HO.out)); (case aS => exact (below_size (by repeat (first | (with_reducible first | exact HB.out | apply below_alloc | apply pw_below_drewN | apply below_drew1) | exact HB.out)))); (case aL => have := LEN.out; omega); intro v1 w9 ho hb hg hat; obtain ⟨A1, c1, e1⟩ := Kd.R_slice ho; subst e1; have BK1 := Aside0.mk (blk_grown BK.out hg (Kd.R_ne HO.out BK.out (by decide))); have HO1 := Aside0.mk (show Kd.R (Kd.int .i64) 3 w9 w.heap.size (fun k_ => k_ ≠ g) (.slice A1 (F.length + 1) c1) (F ++ [y]) from by simpa only [List.length_append, List.length_singleton] using ho); have HB1 := Aside0.mk hb; have hcz1 := (blk_cell BK1.out 0); have hfz1 := blk_frozen BK1.out 0; replace hcz1 : _ = some (Value.slice Ao F.length co) := hcz1.trans rfl; clear ho hb hg hat))
        go_roundg (l0.length - (x + 1).toNat)
        case measure => have := HK.out; have := HLT.out; omega
        case rel => exact ⟨wrap64 (x + 1), _, rfl, by rw [EW.out]; exact ⟨by have := HK.out; have := HLT.out; omega⟩, ⟨blk_put BK1.out 0 _ rfl⟩, by rw [EW.out, HFT.out]; exact ⟨Kd.R_far HO1.out (fun _ hk => hk) _⟩, ⟨below_set HB1.out GE.out⟩⟩
      · have d1 : decide (Int.tmod y 7 < 5) = false := decide_eq_false c
        rw [if_neg c, List.append_nil] at HFT
        clear c
        go_wp2
        go_roundg (l0.length - (x + 1).toNat)
        case measure => have := HK.out; have := HLT.out; omega
        case rel => exact ⟨wrap64 (x + 1), _, rfl, by rw [EW.out]; exact ⟨by have := HK.out; have := HLT.out; omega⟩, BK, by rw [EW.out, HFT.out]; exact HO, HB⟩
    · have c0b : decide (x < (l0.length : Int)) = false := decide_eq_false hlt
      have ex : x.toNat = l0.length := by have := HK.out; omega
      have HE := Aside0.mk ex
      clear hlt ex
      go_wp2
      go_ret
      have e : Cv.freeOf (l0.take x.toNat) = Cv.freeOf l0 := by rw [HE.out, List.take_length]
      have BK2 := BK.out
      have HO2 := HO.out
      rw [e] at BK2 HO2
      exact ⟨g, Ao, co, by first | rfl | simp, (blk_cell BK2 0).trans rfl, (Kd.R_reads' HO2).2.2, (Kd.R_reads' HO2).2.1, HB.out⟩

end Go.Proofs.YtehnhedifhpalaaDoor.Cq
