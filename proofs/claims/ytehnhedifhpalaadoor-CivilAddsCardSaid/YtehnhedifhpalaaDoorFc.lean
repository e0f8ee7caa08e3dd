/- The holidays that the laws draw; CivilAhead returns true at all of them. -/
import Derived.Test.YtehnhedifhpalaaDoorFa
import Derived.Test.YtehnhedifhpalaaDoorCi
import Derived.Test.YtehnhedifhpalaaDoorCp10
import Derived.Test.YtehnhedifhpalaaDoorCp19
set_option linter.unusedVariables false
set_option linter.unusedSimpArgs false
namespace Go.Proofs.YtehnhedifhpalaaDoor.Cp
open Go.RowKit Go.Proofs.YtehnhedifhpalaaDoorW.PrintWords Go.Proofs.YtehnhedifhpalaaDoorW.PrintLast Go.Proofs.YtehnhedifhpalaaDoorW.PrintMore

theorem rightFrom_mk : ∀ (l : List Int) (last : Int), (∀ d ∈ l, last < d ∧ d ≤ 730484) → l.Pairwise (· < ·) → rightFrom last l = true := by
  intro l
  induction l with
  | nil => intro last _ _; rfl
  | cons a l ih =>
    intro last h1 h2
    obtain ⟨k1, k2⟩ := List.pairwise_cons.1 h2
    have ha := h1 a (List.mem_cons_self)
    simp only [rightFrom]
    rw [decide_eq_false (show ¬ a ≤ last by omega), decide_eq_false (show ¬ (730484 : Int) < a by omega), ih a (fun d hd => ⟨k1 d hd, (h1 d (List.mem_cons_of_mem _ hd)).2⟩) k2]
    rfl

theorem rightB_mk {l : List Int} (h1 : l.Pairwise (· < ·)) (h2 : ∀ d ∈ l, 0 ≤ d ∧ d ≤ 730484) (h3 : l.length ≤ 1000) : rightB l = true := by
  unfold rightB
  rw [rightFrom_mk l (-1) (fun d hd => by have := h2 d hd; omega) h1, decide_eq_true h3]
  rfl

theorem list_l0 (l : List Int) (hb : ∀ x ∈ l, 0 ≤ x ∧ x ≤ 65535) (d : Nat) : ∀ (out : List Int) (last : Int) (i : Nat), i ≤ 1000 → 1000 - i = d → out.length = i → out.Pairwise (· < ·) → (∀ x ∈ out, 0 ≤ x ∧ x ≤ last) → -1 ≤ last → last ≤ 730484 →
    ∃ H, rightB H = true ∧ Ev (fun k => letterbaglaw01_list.l0 k l out last (i : Int)) H := by
  induction d with
  | zero =>
    intro out last i hi hd hlen hp ho h1 h2
    have hR := rightB_mk hp (fun x hx => by have := ho x hx; omega) (by omega)
    refine ⟨out, hR, Ev.step (fun k => letterbaglaw01_list.l0.eq_2 _ _ _ _ k) ?_⟩
    have stop : ∀ b : Bool, b = false → Ev (fun k => letterbaglaw01_list.j1 k l out last (i : Int) b) out := fun b hb' => Ev.step (fun k => letterbaglaw01_list.j1.eq_2 _ _ _ _ _ k) (ev_neg (by rw [hb']; exact Bool.false_ne_true) (Ev.now _))
    by_cases c : (i : Int) < (l.length : Int)
    · exact ev_pos c (stop _ (decide_eq_false (by omega)))
    · exact ev_neg c (stop _ rfl)
  | succ d ih =>
    intro out last i hi hd hlen hp ho h1 h2
    have hR := rightB_mk hp (fun x hx => by have := ho x hx; omega) (by omega)
    have stop : ∀ b : Bool, b = false → Ev (fun k => letterbaglaw01_list.j1 k l out last (i : Int) b) out := fun b hb' => Ev.step (fun k => letterbaglaw01_list.j1.eq_2 _ _ _ _ _ k) (ev_neg (by rw [hb']; exact Bool.false_ne_true) (Ev.now _))
    by_cases c : (i : Int) < (l.length : Int)
    · have ci : i < l.length := by omega
      have hx := hb l[i] (List.getElem_mem ci)
      obtain ⟨v, hv⟩ : ∃ v, v = last + (1 + l[i] % 701) := ⟨_, rfl⟩
      have n1 : -10000000 ≤ l[i] % 701 ∧ l[i] % 701 ≤ 10000000 := by omega
      have n2 : -10000000 ≤ 1 + l[i] % 701 ∧ 1 + l[i] % 701 ≤ 10000000 := by omega
      have n3 : -10000000 ≤ last + (1 + l[i] % 701) ∧ last + (1 + l[i] % 701) ≤ 10000000 := by omega
      have n4 : -10000000 ≤ (i : Int) + 1 ∧ (i : Int) + 1 ≤ 10000000 := by omega
      have e1 : (i : Int) + 1 = ((i + 1 : Nat) : Int) := by omega
      have go : ∀ {r : List Int}, Ev (fun k => (if v > 730484 then (some out) else (if out.length < 17592186044416 then (letterbaglaw01_list.l0 k l (out ++ [v]) v ((i + 1 : Nat) : Int)) else (none)))) r → Ev (fun k => letterbaglaw01_list.l0 k l out last (i : Int)) r := by
        intro r h
        refine Ev.step (fun k => letterbaglaw01_list.l0.eq_2 _ _ _ _ k) (ev_pos c (Ev.step (fun k => letterbaglaw01_list.j1.eq_2 _ _ _ _ _ k) (ev_pos (decide_eq_true (by omega)) (ev_pos (by omega) (ev_pos c ?_)))))
        rw [rd_get ci, Int.tmod_eq_emod_of_nonneg hx.1, wb n1, wb n2, wb n3, wb n4, e1, ← hv]
        exact h
      by_cases c1 : v > 730484
      · exact ⟨out, hR, go (ev_pos c1 (Ev.now _))⟩
      · obtain ⟨H, k1, k2⟩ := ih (out ++ [v]) v (i + 1) (by omega) (by omega) (by simp [hlen]) (by
          rw [List.pairwise_append]
          exact ⟨hp, List.pairwise_singleton _ _, fun x hx y hy => by rw [List.mem_singleton.1 hy]; have := ho x hx; omega⟩) (by
          intro x hx'
          rcases List.mem_append.1 hx' with h | h
          · have := ho x h; omega
          · rw [List.mem_singleton.1 h]; omega) (by omega) (by omega)
        exact ⟨H, k1, go (ev_neg c1 (ev_pos (by omega) k2))⟩
    · exact ⟨out, hR, Ev.step (fun k => letterbaglaw01_list.l0.eq_2 _ _ _ _ k) (ev_neg c (stop _ rfl))⟩

theorem list_f (l : List Int) (hb : ∀ x ∈ l, 0 ≤ x ∧ x ≤ 65535) : ∃ H, rightB H = true ∧ Ev (fun k => letterbaglaw01_list.f k l) H :=
  list_l0 l hb 1000 [] (-1) 0 (by omega) (by omega) rfl List.Pairwise.nil (by simp) (by decide) (by decide)

theorem day_in (n : Int) : ∃ d, letterbaglaw01_day.f n = some d ∧ 0 ≤ d ∧ d ≤ 730484 := by
  obtain ⟨d, h, h0, h1⟩ := pick_f (n := n) (m := 730485) (by decide)
  refine ⟨d, ?_, h0, by omega⟩
  unfold letterbaglaw01_day.f
  rw [h]; rfl

theorem len_small {l : List Int} (h : rightB l = true) : l.length ≤ 9223372036854775807 := by
  have := (rightB_of h).2
  omega

end Go.Proofs.YtehnhedifhpalaaDoor.Cp
