/- What TimeText of civil returns, and that the machine's call does so. -/
import Derived.Test.YtehnhedifhpalaaDoorCt
import Derived.Test.YtehnhedifhpalaaDoorCp3
import Derived.Test.YtehnhedifhpalaaDoorBl
namespace Go.Proofs.YtehnhedifhpalaaDoor.Cp
open Go.RowKit Go.Proofs.YtehnhedifhpalaaDoorW.PrintWords Go.Proofs.YtehnhedifhpalaaDoorW.PrintLast Go.Proofs.YtehnhedifhpalaaDoorW.PrintMore
attribute [local go_sem] max2_int min2_int max_two min_two max_three min_three max_four min_four
set_option linter.unusedVariables false
set_option linter.unusedSimpArgs false

def civil_TimeText.f (k : Nat) (a0 : Int) : Option (ByteArray × Int) :=
  if a0 < 0 then some (txt [], 2) else if 1051898399 < a0 then some (txt [], 3)
  else (civil_Text.f k (a0 / 1440)).bind fun r => if r.1.size = 10 then some (r.1 ++ txt (32 :: (Cv.dig 2 (a0 % 1440 / 60) ++ 58 :: Cv.dig 2 (a0 % 1440 % 60))), 0) else none

theorem civil_TimeText.mono : ∀ a0 k, LeO (civil_TimeText.f k a0) (civil_TimeText.f (k + 1) a0) := by
  intro a0 k
  unfold civil_TimeText.f
  exact LeO.ite (LeO.refl _) (LeO.ite (LeO.refl _) (LeO.bind (civil_Text.mono _ _) (fun _ => LeO.refl _)))

theorem conv_new (w : World) (s : ByteArray) (n : Nat) (hs : s.size = n) : ∃ (c z : Nat) (W : World), (convert 9 27 (.string s)).run Tryd.prog w = .ok (.slice (some ⟨w.heap.size, 0, none⟩) n c) W ∧ n ≤ c ∧
    W.heap[w.heap.size]? = some (.cells (nums .u8 (nb s ++ List.replicate z 0)).toArray 5 (n + z, n + z + 1)) ∧ Below w.heap.size w W := by
  subst hs
  refine ⟨grownCap w s.size 0 5, grownCap w s.size 0 5 - s.size, Lib.bytesWorld w 5 s, Lib.run_convert_string_bytes w 9 27 5 s Tryd.underlying9 Tryd.underlying27 Tryd.underlying5, grownCap_ge _ _ _ _, ?_, ?_⟩
  · have hz : (Lib.bytesCells w 5 s) = (nums .u8 (nb s ++ List.replicate (grownCap w s.size 0 5 - s.size) 0)).toArray := by
      apply Array.ext'
      simp [Lib.bytesCells, nums, nb]
    have hl : (Lib.bytesCells w 5 s).size = s.size + (grownCap w s.size 0 5 - s.size) := by
      rw [hz]; simp [nums, nb_len]
    rw [Lib.bytesWorld_at_new, hl, hz]
  · refine ⟨rfl, rfl, rfl, by rw [Lib.bytesWorld_size]; omega, fun i hi => Lib.bytesWorld_at_old w 5 s i hi⟩

theorem ten_bytes {l : List Int} (h : l.length = 10) : ∃ a b c d e f g i j k, l = [a, b, c, d, e, f, g, i, j, k] := by
  match l, h with
  | [a, b, c, d, e, f, g, i, j, k], _ => exact ⟨a, b, c, d, e, f, g, i, j, k, rfl⟩

theorem nums_at2 (us Z : List Int) (i : Nat) (h : i < us.length) : (nums .u8 (us ++ Z)).toArray[i]? = some (.int .u8 (us.getD i 0)) := by
  simp [nums, List.getElem?_append_left, h, List.getD_eq_getElem?_getD]

theorem str_zeros : (⟨#[32, 48, 48, 58, 48, 48]⟩ : ByteArray) = strOfNums [32, 48, 48, 58, 48, 48] := rfl

set_option maxHeartbeats 2000000 in
set_option maxRecDepth 100000 in
theorem civil_TimeText.calls (k : Nat) (a0 : Int) (r1 : ByteArray) (r2 : Int) (w : World) (hg : Aside0 (Tab w)) (h : civil_TimeText.f k a0 = some (r1, r2)) :
    Calls Tryd.prog 24 #[.int .i64 a0] w fun e w' => e = .returned (.tuple #[.string r1, .int .i64 r2]) ∧ Below w.heap.size w w' := by
  unfold civil_TimeText.f at h
  by_cases c1 : a0 < 0
  · rw [if_pos c1] at h
    obtain ⟨rfl, rfl⟩ : txt [] = r1 ∧ 2 = r2 := by simpa using h
    have hs : civil_Split.f a0 = some (0, 0, 2) := by
      unfold civil_Split.f civil_within.f
      rw [if_pos c1]; rfl
    have HS := Aside0.mk hs
    clear h c1 hs
    go_enter Tryd.func24, Tryd.ntmps24
    go_wp2_with (first | (go_at_call 23; (with_reducible refine (civil_Split.calls a0 0 0 2 _ HS.out).mono ?_); rintro e w1 ⟨rfl, ⟨nd, rfl⟩⟩))
    go_ret2
    exact ⟨rfl, ((Drawn0.refl _).step _).below⟩
  · rw [if_neg c1] at h
    by_cases c2 : 1051898399 < a0
    · rw [if_pos c2] at h
      obtain ⟨rfl, rfl⟩ : txt [] = r1 ∧ 3 = r2 := by simpa using h
      have hs : civil_Split.f a0 = some (0, 0, 3) := by
        unfold civil_Split.f civil_within.f
        rw [if_neg c1, if_pos c2]; rfl
      have HS := Aside0.mk hs
      clear h c1 c2 hs
      go_enter Tryd.func24, Tryd.ntmps24
      go_wp2_with (first | (go_at_call 23; (with_reducible refine (civil_Split.calls a0 0 0 3 _ HS.out).mono ?_); rintro e w1 ⟨rfl, ⟨nd, rfl⟩⟩))
      go_ret2
      exact ⟨rfl, ((Drawn0.refl _).step _).below⟩
    · rw [if_neg c2] at h
      obtain ⟨⟨s, e0⟩, ht, h⟩ := Option.bind_eq_some_iff.mp h
      simp only at h
      by_cases c3 : s.size = 10
      · rw [if_pos c3] at h
        have hs : civil_Split.f a0 = some (a0 / 1440, a0 % 1440, 0) := by
          unfold civil_Split.f civil_within.f
          rw [if_neg c1, if_neg c2]
          simp only [Option.bind_some, if_true]
          rw [Int.tdiv_eq_ediv_of_nonneg (by omega), Int.tmod_eq_emod_of_nonneg (by omega), w64 (by omega) (by omega)]
        have b1 : 0 ≤ a0 / 1440 := by omega
        have b2 : 0 ≤ a0 % 1440 ∧ a0 % 1440 < 1440 := by omega
        generalize a0 / 1440 = dy at hs ht b1
        generalize a0 % 1440 = mi at hs b2 h
        obtain ⟨p, q, eh⟩ : ∃ p q, Cv.dig 2 (mi / 60) = [p, q] := ⟨_, _, rfl⟩
        obtain ⟨u, v, em⟩ : ∃ u v, Cv.dig 2 (mi % 60) = [u, v] := ⟨_, _, rfl⟩
        rw [eh, em] at h
        obtain ⟨x0, x1, x2, x3, x4, x5, x6, x7, x8, x9, es⟩ := ten_bytes (l := nb s) (by rw [nb_len]; exact c3)
        have es' : s = strOfNums [x0, x1, x2, x3, x4, x5, x6, x7, x8, x9] := by rw [← es, str_nb]
        have hnb : nb (s ++ (⟨#[32, 48, 48, 58, 48, 48]⟩ : ByteArray)) = [x0, x1, x2, x3, x4, x5, x6, x7, x8, x9, 32, 48, 48, 58, 48, 48] := by
          rw [nb_append, es, str_zeros, nb_str (by decide)]; rfl
        have hsz : (s ++ (⟨#[32, 48, 48, 58, 48, 48]⟩ : ByteArray)).size = 16 := by rw [← nb_len, hnb]; rfl
        obtain ⟨er1, rfl⟩ : strOfNums [x0, x1, x2, x3, x4, x5, x6, x7, x8, x9, 32, p, q, 58, u, v] = r1 ∧ 0 = r2 := by
          have h' : s ++ txt (32 :: ([p, q] ++ 58 :: [u, v])) = r1 ∧ 0 = r2 := by simpa using h
          refine ⟨?_, h'.2⟩
          rw [← h'.1, es']
          exact (str_append [x0, x1, x2, x3, x4, x5, x6, x7, x8, x9] [32, p, q, 58, u, v]).symm
        subst er1
        have hp1 : ∀ (cc g f f2 : Nat) (Z : List Int) (w : World) (hf : 13 ≤ f) (h : w.heap[g]? = some (.cells (nums .u8 ([x0, x1, x2, x3, x4, x5, x6, x7, x8, x9, 32, 48, 48, 58, 48, 48] ++ Z)).toArray 5 (f, f2))),
            Calls Tryd.prog 56 #[.slice (some ⟨g, 11, none⟩) 2 cc, .int .i64 (mi / 60)] w (Cq.PutPost g f f2 ([x0, x1, x2, x3, x4, x5, x6, x7, x8, x9, 32, p, q, 58, 48, 48] ++ Z) w) := by
          intro cc g f f2 Z w hf h
          have := Cq.put_any g 11 2 cc (mi / 60) _ f f2 w hf h (by simp) (by decide) (by omega)
          rw [eh] at this
          exact this
        have hp2 : ∀ (cc g f f2 : Nat) (Z : List Int) (w : World) (hf : 16 ≤ f) (h : w.heap[g]? = some (.cells (nums .u8 ([x0, x1, x2, x3, x4, x5, x6, x7, x8, x9, 32, p, q, 58, 48, 48] ++ Z)).toArray 5 (f, f2))),
            Calls Tryd.prog 56 #[.slice (some ⟨g, 14, none⟩) 2 cc, .int .i64 (mi % 60)] w (Cq.PutPost g f f2 ([x0, x1, x2, x3, x4, x5, x6, x7, x8, x9, 32, p, q, 58, u, v] ++ Z) w) := by
          intro cc g f f2 Z w hf h
          have := Cq.put_any g 14 2 cc (mi % 60) _ f f2 w hf h (by simp) (by decide) (by omega)
          rw [em] at this
          exact this
        have cadd : (9223372036854775807 < s.size + 6) = False := eq_false (by omega)
        have t1 : Int.tdiv mi 60 = mi / 60 := Int.tdiv_eq_ediv_of_nonneg b2.1
        have t2 : Int.tmod mi 60 = mi % 60 := Int.tmod_eq_emod_of_nonneg b2.1
        have q1 : -9223372036854775808 ≤ mi / 60 ∧ mi / 60 ≤ 9223372036854775807 := by omega
        have q2 : -9223372036854775808 ≤ mi % 60 ∧ mi % 60 ≤ 9223372036854775807 := by omega
        have w1 := w64 q1.1 q1.2
        have w2 := w64 q2.1 q2.2
        have HS := Aside0.mk hs
        have HT := Aside0.mk ht
        have HZ := Aside0.mk hsz
        have HN := Aside0.mk hnb
        have HP1 := Aside0.mk hp1
        have HP2 := Aside0.mk hp2
        clear hs ht hsz hnb hp1 hp2 h q1 q2 b1 b2 c1 c2 c3 eh em es es'
        go_enter Tryd.func24, Tryd.ntmps24
        go_wp2_with (first | (go_at_call 23; (with_reducible refine (civil_Split.calls a0 dy mi 0 _ HS.out).mono ?_); rintro e w3 ⟨rfl, ⟨nd, rfl⟩⟩) | (go_at_call 21; (with_reducible refine (civil_Text.calls k dy s e0 _ ?tabG HT.out).mono ?_); (case tabG => first | exact hg | exact ⟨hg.out.drewN _⟩); rintro e w4 ⟨rfl, hb⟩; obtain ⟨c, z, W, hcz, hc, hB, hb2⟩ := conv_new w4 _ 16 HZ.out; rw [HN.out] at hB; have B0 := Aside0.mk hB; have K0 := Aside0.mk (below_then (first_below _ _) (below_size (first_below _ _)) hb); have K1 := Aside0.mk hb2; clear hB hb hb2; have hc13 : 13 ≤ c := by omega) | (go_at_call 56; (with_reducible refine (HP1.out _ w4.heap.size (16 + z) (16 + z + 1) (List.replicate z 0) _ (by omega) B0.out).mono ?_); rintro e w5 ⟨rfl, hB5, hK5⟩; have B1 := Aside0.mk hB5; have K2 := Aside0.mk hK5; clear hB5 hK5) | (go_at_call 56; (with_reducible refine (HP2.out _ w4.heap.size (16 + z) (16 + z + 1) (List.replicate z 0) _ (by omega) B1.out).mono ?_); rintro e w6 ⟨rfl, hB6, hK6⟩; have hcv := run_convert_bytes_arg (P := Tryd.prog) w6 27 5 Tryd.underlying27 Tryd.underlying5 w4.heap.size 0 16 c [x0, x1, x2, x3, x4, x5, x6, x7, x8, x9, 32, p, q, 58, u, v] rfl (fun i hi => (cell_of_row _ _ (0 + i) _ 5 _ hB6).trans (by rw [Nat.zero_add]; exact nums_at2 _ _ i hi)) 9 Tryd.underlying9; have K3 := Aside0.mk hK6; clear hB6 hK6))
        go_ret2
        exact ⟨rfl, below_keep (below_keep (below_then K0.out (below_size K0.out) K1.out) K2.out (below_size K0.out)) K3.out (below_size K0.out)⟩
      · rw [if_neg c3] at h; exact absurd h (by simp)
end Go.Proofs.YtehnhedifhpalaaDoor.Cp
