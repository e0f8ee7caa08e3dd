/- Joined by a program of this session (pack2.py): parts of the kit's printed words, printed walks and this session's own texts that several laws share. -/
namespace Go.Proofs.Ytbnjdlafnejanaa.Sh
/-- How many of the n numbers from a on have p. -/
def cntN (p : Int → Bool) (a : Int) : Nat → Nat
  | 0 => 0
  | n + 1 => cntN p a n + if p (a + n) then 1 else 0
/-- How many numbers from a on, less than b, have p. -/
def cnt (p : Int → Bool) (a b : Int) : Int := (cntN p a (b - a).toNat : Int)
theorem cnt_nil (p : Int → Bool) {a b : Int} (h : b ≤ a) : cnt p a b = 0 := by
  unfold cnt
  rw [show (b - a).toNat = 0 by omega]
  rfl
theorem cnt_succ (p : Int → Bool) {a b : Int} (h : a ≤ b) : cnt p a (b + 1) = cnt p a b + if p b then 1 else 0 := by
  unfold cnt
  rw [show (b + 1 - a).toNat = (b - a).toNat + 1 by omega]
  simp only [cntN]
  rw [show a + ((b - a).toNat : Int) = b by omega]
  split <;> simp
/-- Induction over intervals. -/
theorem ivl_ind {P : Int → Prop} (a : Int) (h0 : P a) (hs : ∀ b, a ≤ b → P b → P (b + 1)) : ∀ b, a ≤ b → P b := by
  intro b hb
  obtain ⟨n, rfl⟩ : ∃ n : Nat, b = a + n := ⟨(b - a).toNat, by omega⟩
  clear hb
  induction n with
  | zero => simpa using h0
  | succ n ih =>
    have := hs (a + n) (by omega) ih
    rwa [show a + ((n + 1 : Nat) : Int) = a + n + 1 by omega]
theorem cnt_nonneg (p : Int → Bool) (a b : Int) : 0 ≤ cnt p a b := by unfold cnt; omega
theorem cnt_split (p : Int → Bool) {a b : Int} (h : a ≤ b) : ∀ c, b ≤ c → cnt p a c = cnt p a b + cnt p b c := by
  apply ivl_ind
  · rw [cnt_nil p (Int.le_refl b)]; omega
  · intro c hc ih
    rw [cnt_succ p (by omega), cnt_succ p hc, ih]; omega
theorem cnt_congr {p q : Int → Bool} {a : Int} : ∀ b, a ≤ b → (∀ t, a ≤ t → t < b → p t = q t) → cnt p a b = cnt q a b := by
  apply ivl_ind
  · intro _; rw [cnt_nil p (Int.le_refl a), cnt_nil q (Int.le_refl a)]
  · intro b hb ih h
    rw [cnt_succ p hb, cnt_succ q hb, ih (fun t h1 h2 => h t h1 (by omega)), h b hb (by omega)]
theorem cnt_congr' {p q : Int → Bool} {a b : Int} (h : ∀ t, a ≤ t → t < b → p t = q t) : cnt p a b = cnt q a b := by
  by_cases hb : a ≤ b
  · exact cnt_congr b hb h
  · rw [cnt_nil p (by omega), cnt_nil q (by omega)]
theorem cnt_le_of {p q : Int → Bool} {a : Int} : ∀ b, a ≤ b → (∀ t, a ≤ t → t < b → p t = true → q t = true) → cnt p a b ≤ cnt q a b := by
  apply ivl_ind
  · intro _; rw [cnt_nil p (Int.le_refl a), cnt_nil q (Int.le_refl a)]; exact Int.le_refl _
  · intro b hb ih h
    rw [cnt_succ p hb, cnt_succ q hb]
    have h1 := ih (fun t h1 h2 => h t h1 (by omega))
    have h2 := h b hb (by omega)
    cases hp : p b <;> cases hq : q b <;> simp_all <;> omega
theorem cnt_mono (p q : Int → Bool) (a b : Int) (h : ∀ t, a ≤ t → t < b → p t = true → q t = true) : cnt p a b ≤ cnt q a b := by
  by_cases hb : a ≤ b
  · exact cnt_le_of b hb h
  · rw [cnt_nil p (by omega), cnt_nil q (by omega)]; exact Int.le_refl _
theorem cnt_true {p : Int → Bool} {a : Int} : ∀ b, a ≤ b → (∀ t, a ≤ t → t < b → p t = true) → cnt p a b = b - a := by
  apply ivl_ind
  · intro _; rw [cnt_nil p (Int.le_refl a)]; omega
  · intro b hb ih h
    rw [cnt_succ p hb, ih (fun t h1 h2 => h t h1 (by omega)), h b hb (by omega)]; simp; omega
theorem cnt_false {p : Int → Bool} {a b : Int} (h : ∀ t, a ≤ t → t < b → p t = false) : cnt p a b = 0 := by
  by_cases hb : a ≤ b
  · revert h
    refine ivl_ind (P := fun b => (∀ t, a ≤ t → t < b → p t = false) → cnt p a b = 0) a ?_ ?_ b hb
    · intro _; rw [cnt_nil p (Int.le_refl a)]
    · intro b hb ih h
      rw [cnt_succ p hb, ih (fun t h1 h2 => h t h1 (by omega)), h b hb (by omega)]; simp
  · exact cnt_nil p (by omega)
theorem cnt_le_len (p : Int → Bool) {a b : Int} (h : a ≤ b) : cnt p a b ≤ b - a := by
  have := cnt_le_of (p := p) (q := fun _ => true) b h (fun _ _ _ _ => rfl)
  rw [cnt_true (p := fun _ => true) b h (fun _ _ _ => rfl)] at this
  exact this
theorem cnt_mono_right (p : Int → Bool) {a b c : Int} (h : b ≤ c) : cnt p a b ≤ cnt p a c := by
  by_cases hab : a ≤ b
  · rw [cnt_split p hab c h]; have := cnt_nonneg p b c; omega
  · rw [cnt_nil p (by omega)]; exact cnt_nonneg p a c
theorem cnt_mono_left (p : Int → Bool) {a b c : Int} (h : a ≤ b) : cnt p b c ≤ cnt p a c := by
  by_cases hbc : b ≤ c
  · rw [cnt_split p h c hbc]; have := cnt_nonneg p a b; omega
  · rw [cnt_nil p (by omega)]; exact cnt_nonneg p a c
theorem cnt_pos_of {p : Int → Bool} {a b t : Int} (h1 : a ≤ t) (h2 : t < b) (h3 : p t = true) : 0 < cnt p a b := by
  rw [cnt_split p (b := t) h1 b (by omega), cnt_split p (a := t) (b := t + 1) (by omega) b (by omega), cnt_succ p (Int.le_refl t), cnt_nil p (Int.le_refl t)]
  have := cnt_nonneg p a t
  have := cnt_nonneg p (t + 1) b
  simp [h3]; omega
/-- Counting what one of two that exclude each other holds. -/
theorem cnt_or {p q r : Int → Bool} {a : Int} : ∀ b, a ≤ b → (∀ t, a ≤ t → t < b → r t = (p t || q t) ∧ (p t && q t) = false) → cnt r a b = cnt p a b + cnt q a b := by
  apply ivl_ind
  · intro _; rw [cnt_nil p (Int.le_refl a), cnt_nil q (Int.le_refl a), cnt_nil r (Int.le_refl a)]; rfl
  · intro b hb ih h
    rw [cnt_succ p hb, cnt_succ q hb, cnt_succ r hb, ih (fun t h1 h2 => h t h1 (by omega))]
    have h2 := h b hb (by omega)
    cases hp : p b <;> cases hq : q b <;> simp_all <;> omega
theorem cnt_shift (p : Int → Bool) (d : Int) (a b : Int) : cnt (fun t => p (t - d)) (a + d) (b + d) = cnt p a b := by
  by_cases hb : a ≤ b
  · refine ivl_ind (P := fun b => cnt (fun t => p (t - d)) (a + d) (b + d) = cnt p a b) a ?_ ?_ b hb
    · rw [cnt_nil _ (Int.le_refl _), cnt_nil _ (Int.le_refl _)]
    · intro b hb ih
      rw [show b + 1 + d = (b + d) + 1 by omega, cnt_succ _ (by omega), cnt_succ _ hb, ih, show b + d - d = b by omega]
  · rw [cnt_nil _ (by omega), cnt_nil _ (by omega)]
end Go.Proofs.Ytbnjdlafnejanaa.Sh
namespace Go.Proofs.Ytbnjdlafnejanaa.Sh
structure Job where
  id : Int
  rel : Int
  due : Int
  min : Int
structure Shift where
  frm : Int
  to : Int
structure Slice where
  job : Int
  frm : Int
  to : Int
/-- One job goes before another one. -/
def Bf (x y : Job) : Prop := x.due < y.due ∨ x.due = y.due ∧ x.id < y.id
instance (x y : Job) : Decidable (Bf x y) := by unfold Bf; infer_instance
structure VJ (J : List Job) : Prop where
  pos : ∀ x ∈ J, 1 ≤ x.id ∧ 0 ≤ x.rel ∧ 1 ≤ x.min
  nod : J.Pairwise (fun x y => x.id ≠ y.id)
theorem inj_of {J : List Job} (h : J.Pairwise (fun x y => x.id ≠ y.id)) : ∀ x ∈ J, ∀ y ∈ J, x.id = y.id → x = y := by
  induction J with
  | nil => intro x hx; cases hx
  | cons a J ih =>
    obtain ⟨h1, h2⟩ := List.pairwise_cons.1 h
    intro x hx y hy e
    rcases List.mem_cons.1 hx with hx' | hx' <;> rcases List.mem_cons.1 hy with hy' | hy'
    · rw [hx', hy']
    · subst hx'; exact absurd e (h1 y hy')
    · subst hy'; exact absurd e.symm (h1 x hx')
    · exact ih h2 x hx' y hy' e
theorem VJ.inj {J : List Job} (h : VJ J) : ∀ x ∈ J, ∀ y ∈ J, x.id = y.id → x = y := inj_of h.nod
structure VS (S : List Shift) : Prop where
  pos : ∀ s ∈ S, 0 ≤ s.frm ∧ s.frm < s.to
  ord : S.Pairwise (fun a b => a.to ≤ b.frm)
/-- The minute t lies in a shift. -/
def inS (S : List Shift) (t : Int) : Bool := S.any fun s => decide (s.frm ≤ t) && decide (t < s.to)
theorem inS_iff {S : List Shift} {t : Int} : inS S t = true ↔ ∃ s ∈ S, s.frm ≤ t ∧ t < s.to := by
  simp [inS, List.any_eq_true]
theorem inS_neg {S : List Shift} (h : VS S) {t : Int} (ht : t < 0) : inS S t = false := by
  rw [Bool.eq_false_iff]; intro hc
  obtain ⟨s, hs, h1, _⟩ := inS_iff.1 hc
  have := (h.pos s hs).1; omega
/-- Is id the one that runs? -/
def isId (f : Int → Int) (id : Int) (t : Int) : Bool := decide (f t = id)
/-- A job is released and has not run for all its minutes. -/
def Av (f : Int → Int) (x : Job) (t : Int) : Prop := x.rel ≤ t ∧ cnt (isId f x.id) 0 t < x.min
/-- The job that goes first of those that can run at t. -/
def Best (J : List Job) (f : Int → Int) (t : Int) (x : Job) : Prop := x ∈ J ∧ Av f x t ∧ ∀ y ∈ J, Av f y t → y = x ∨ Bf x y
/-- f tells who runs by earliest due date. -/
structure IsE (J : List Job) (S : List Shift) (f : Int → Int) : Prop where
  out : ∀ t, inS S t = false → f t = 0
  idle : ∀ t, (∀ x ∈ J, ¬ Av f x t) → f t = 0
  run : ∀ t x, inS S t = true → Best J f t x → f t = x.id
theorem best_exists_of {J : List Job} {P : Job → Prop} (hJ : ∀ x ∈ J, ∀ y ∈ J, x.id = y.id → x = y) (h : ∃ x ∈ J, P x) :
    ∃ x ∈ J, P x ∧ ∀ y ∈ J, P y → y = x ∨ Bf x y := by
  induction J with
  | nil => obtain ⟨x, hx, _⟩ := h; cases hx
  | cons a J ih =>
    by_cases hJ' : ∃ x ∈ J, P x
    · obtain ⟨x, hx, hp, hb⟩ := ih (fun x hx y hy => hJ x (by simp [hx]) y (by simp [hy])) hJ'
      by_cases ha : P a
      · by_cases hbf : Bf x a
        · refine ⟨x, by simp [hx], hp, ?_⟩
          intro y hy hpy
          rcases List.mem_cons.1 hy with rfl | hy
          · exact .inr hbf
          · exact hb y hy hpy
        · by_cases hid : a.id = x.id
          · have := hJ a (by simp) x (by simp [hx]) hid
            subst this
            refine ⟨a, by simp, ha, ?_⟩
            intro y hy hpy
            rcases List.mem_cons.1 hy with rfl | hy
            · exact .inl rfl
            · exact hb y hy hpy
          · refine ⟨a, by simp, ha, ?_⟩
            intro y hy hpy
            rcases List.mem_cons.1 hy with rfl | hy
            · exact .inl rfl
            · have hax : Bf a x := by unfold Bf at *; omega
              rcases hb y hy hpy with rfl | h2
              · exact .inr hax
              · exact .inr (by unfold Bf at *; omega)
      · refine ⟨x, by simp [hx], hp, ?_⟩
        intro y hy hpy
        rcases List.mem_cons.1 hy with rfl | hy
        · exact absurd hpy ha
        · exact hb y hy hpy
    · obtain ⟨x, hx, hp⟩ := h
      rcases List.mem_cons.1 hx with rfl | hx
      · refine ⟨x, by simp, hp, ?_⟩
        intro y hy hpy
        rcases List.mem_cons.1 hy with rfl | hy
        · exact .inl rfl
        · exact absurd ⟨y, hy, hpy⟩ hJ'
      · exact absurd ⟨x, hx, hp⟩ hJ'
theorem best_exists {J : List Job} (hJ : VJ J) {f : Int → Int} {t : Int} (h : ∃ x ∈ J, Av f x t) : ∃ x, Best J f t x := by
  obtain ⟨x, h1, h2, h3⟩ := best_exists_of hJ.inj h
  exact ⟨x, h1, h2, h3⟩
theorem Best.unique {J : List Job} {f : Int → Int} {t : Int} {x y : Job} (hx : Best J f t x) (hy : Best J f t y) : x = y := by
  rcases hx.2.2 y hy.1 hy.2.1 with h | h
  · exact h.symm
  · rcases hy.2.2 x hx.1 hx.2.1 with h2 | h2
    · exact h2
    · unfold Bf at *; omega
theorem Av.congr {f g : Int → Int} {x : Job} {t : Int} (h : ∀ u, 0 ≤ u → u < t → f u = g u) : Av f x t ↔ Av g x t := by
  unfold Av
  rw [cnt_congr' (p := isId f x.id) (q := isId g x.id) (fun u h1 h2 => by unfold isId; rw [h u h1 h2])]
theorem Best.congr {J : List Job} {f g : Int → Int} {x : Job} {t : Int} (h : ∀ u, 0 ≤ u → u < t → f u = g u) : Best J f t x ↔ Best J g t x := by
  unfold Best
  constructor
  · rintro ⟨h1, h2, h3⟩; exact ⟨h1, (Av.congr h).1 h2, fun y hy ha => h3 y hy ((Av.congr h).2 ha)⟩
  · rintro ⟨h1, h2, h3⟩; exact ⟨h1, (Av.congr h).2 h2, fun y hy ha => h3 y hy ((Av.congr h).1 ha)⟩
/-- Who runs is determined. -/
theorem IsE.unique {J : List Job} {S : List Shift} (hJ : VJ J) (hS : VS S) {f g : Int → Int} (hf : IsE J S f) (hg : IsE J S g) : ∀ t, f t = g t := by
  have key : ∀ n : Nat, ∀ t : Int, t < n → f t = g t := by
    intro n
    induction n with
    | zero => intro t ht; rw [hf.out t (inS_neg hS (by omega)), hg.out t (inS_neg hS (by omega))]
    | succ n ih =>
      intro t ht
      by_cases h0 : t < n
      · exact ih t h0
      · obtain rfl : t = n := by omega
        have hc : ∀ u, 0 ≤ u → u < (n : Int) → f u = g u := fun u _ h => ih u h
        by_cases hi : inS S n = true
        · by_cases ha : ∃ x ∈ J, Av f x n
          · obtain ⟨x, hx⟩ := best_exists hJ ha
            rw [hf.run n x hi hx, hg.run n x hi ((Best.congr hc).1 hx)]
          · rw [hf.idle n (fun x hx h => ha ⟨x, hx, h⟩), hg.idle n (fun x hx h => ha ⟨x, hx, (Av.congr hc).2 h⟩)]
        · rw [hf.out n (by simpa using hi), hg.out n (by simpa using hi)]
  intro t
  exact key (t.toNat + 1) t (by omega)
/-- IsE says who runs, when someone does. -/
theorem IsE.best {J : List Job} {S : List Shift} (hJ : VJ J) {f : Int → Int} (hf : IsE J S f) {t : Int} (h : f t ≠ 0) : inS S t = true ∧ ∃ x, Best J f t x ∧ f t = x.id := by
  have hi : inS S t = true := by
    cases hc : inS S t with
    | true => rfl
    | false => exact absurd (hf.out t hc) h
  refine ⟨hi, ?_⟩
  by_cases ha : ∃ x ∈ J, Av f x t
  · obtain ⟨x, hx⟩ := best_exists hJ ha
    exact ⟨x, hx, hf.run t x hi hx⟩
  · exact absurd (hf.idle t (fun x hx hh => ha ⟨x, hx, hh⟩)) h
/-- The schedule of a function: nothing outside of shifts, nobody before the release, nobody longer than needed. -/
structure IsV (J : List Job) (S : List Shift) (f : Int → Int) : Prop where
  out : ∀ t, f t ≠ 0 → inS S t = true
  rel : ∀ t x, x ∈ J → f t = x.id → x.rel ≤ t
  most : ∀ x ∈ J, ∀ t, cnt (isId f x.id) 0 t ≤ x.min
  job : ∀ t, f t ≠ 0 → ∃ x ∈ J, f t = x.id
theorem IsE.isV {J : List Job} {S : List Shift} (hJ : VJ J) {f : Int → Int} (hf : IsE J S f) : IsV J S f := by
  refine ⟨fun t h => (hf.best hJ h).1, ?_, ?_, ?_⟩
  · intro t x hx he
    have h0 : f t ≠ 0 := by have := (hJ.pos x hx).1; omega
    obtain ⟨_, y, hy, hy2⟩ := hf.best hJ h0
    have := hJ.inj x hx y hy.1 (by omega)
    subst this
    exact hy.2.1.1
  · intro x hx t
    by_cases ht : 0 ≤ t
    · refine ivl_ind (P := fun t => cnt (isId f x.id) 0 t ≤ x.min) 0 ?_ ?_ t ht
      · rw [cnt_nil _ (Int.le_refl 0)]; have := (hJ.pos x hx).2.2; omega
      · intro b hb ih
        rw [cnt_succ _ hb]
        by_cases he : f b = x.id
        · have h0 : f b ≠ 0 := by have := (hJ.pos x hx).1; omega
          obtain ⟨_, y, hy, hy2⟩ := hf.best hJ h0
          have := hJ.inj x hx y hy.1 (by omega)
          subst this
          have := hy.2.1.2
          simp [isId, he]; omega
        · simp [isId, he]; exact ih
    · rw [cnt_nil _ (by omega)]; have := (hJ.pos x hx).2.2; omega
  · intro t h
    obtain ⟨_, y, hy, hy2⟩ := hf.best hJ h
    exact ⟨y, hy.1, hy2⟩
/-- The job that runs at a minute, 0 if none does. -/
def runs : List Slice → Int → Int
  | [], _ => 0
  | u :: a, t => if u.frm ≤ t ∧ t < u.to then u.job else runs a t
/-- A list of slices: in order, each within a shift; two of them that touch within one shift are of two jobs. -/
structure WF (S : List Shift) (a : List Slice) : Prop where
  pos : ∀ u ∈ a, 1 ≤ u.job ∧ u.frm < u.to
  ord : a.Pairwise (fun u v => u.to ≤ v.frm)
  ins : ∀ u ∈ a, ∃ s ∈ S, s.frm ≤ u.frm ∧ u.to ≤ s.to
  sep : ∀ p u v q, a = p ++ u :: v :: q → u.job = v.job → u.to = v.frm → ∀ s ∈ S, ¬ (s.frm < v.frm ∧ v.frm < s.to)
theorem WF.tail {S : List Shift} {u : Slice} {a : List Slice} (h : WF S (u :: a)) : WF S a :=
  ⟨fun v hv => h.pos v (by simp [hv]), (List.pairwise_cons.1 h.ord).2, fun v hv => h.ins v (by simp [hv]),
    fun p v w q e => h.sep (u :: p) v w q (by simp [e])⟩
theorem runs_none {a : List Slice} {t : Int} (h : ∀ u ∈ a, ¬ (u.frm ≤ t ∧ t < u.to)) : runs a t = 0 := by
  induction a with
  | nil => rfl
  | cons u a ih =>
    rw [runs, if_neg (h u (by simp))]
    exact ih (fun v hv => h v (by simp [hv]))
theorem runs_some {a : List Slice} {t : Int} (h : runs a t ≠ 0) : ∃ u ∈ a, u.frm ≤ t ∧ t < u.to ∧ runs a t = u.job := by
  induction a with
  | nil => exact absurd rfl h
  | cons u a ih =>
    rw [runs] at h ⊢
    by_cases hc : u.frm ≤ t ∧ t < u.to
    · rw [if_pos hc]; exact ⟨u, by simp, hc.1, hc.2, rfl⟩
    · rw [if_neg hc] at h ⊢
      obtain ⟨v, hv, h1⟩ := ih h
      exact ⟨v, by simp [hv], h1⟩
theorem runs_mem {a : List Slice} (ho : a.Pairwise (fun u v => u.to ≤ v.frm)) {u : Slice} (hu : u ∈ a) {t : Int} (h1 : u.frm ≤ t) (h2 : t < u.to) : runs a t = u.job := by
  induction a with
  | nil => cases hu
  | cons v a ih =>
    rw [runs]
    rcases List.mem_cons.1 hu with rfl | hu
    · rw [if_pos ⟨h1, h2⟩]
    · have := (List.pairwise_cons.1 ho).1 u hu
      rw [if_neg (by omega)]
      exact ih (List.pairwise_cons.1 ho).2 hu
theorem runs_tail {u : Slice} {a : List Slice} (ho : (u :: a).Pairwise (fun u v => u.to ≤ v.frm)) (t : Int) :
    runs a t = if t < u.to then 0 else runs (u :: a) t := by
  have h1 := (List.pairwise_cons.1 ho).1
  by_cases h : t < u.to
  · rw [if_pos h]
    exact runs_none (fun v hv => by have := h1 v hv; omega)
  · rw [if_neg h, runs, if_neg (by omega)]
/-- Lists of slices are determined by who runs. -/
theorem WF.unique {S : List Shift} : ∀ {a b : List Slice}, WF S a → WF S b → (∀ t, runs a t = runs b t) → a = b := by
  intro a
  induction a with
  | nil =>
    intro b _ hb h
    cases b with
    | nil => rfl
    | cons u b =>
      have h1 := h u.frm
      have h2 := hb.pos u (by simp)
      rw [runs, runs, if_pos ⟨Int.le_refl _, h2.2⟩] at h1
      omega
  | cons u a ih =>
    intro b ha hb h
    cases b with
    | nil =>
      have h1 := h u.frm
      have h2 := ha.pos u (by simp)
      rw [runs, runs, if_pos ⟨Int.le_refl _, h2.2⟩] at h1
      omega
    | cons v b =>
      have pu := ha.pos u (by simp)
      have pv := hb.pos v (by simp)
      have ou := List.pairwise_cons.1 ha.ord
      have ov := List.pairwise_cons.1 hb.ord
      have hu := h u.frm
      have hv := h v.frm
      rw [runs_mem ha.ord (by simp) (Int.le_refl _) pu.2] at hu
      rw [runs_mem hb.ord (by simp) (Int.le_refl _) pv.2] at hv
      have hfrm : u.frm = v.frm := by
        obtain ⟨w, hw, hw1, hw2, hw3⟩ := runs_some (a := v :: b) (t := u.frm) (by omega)
        obtain ⟨z, hz, hz1, hz2, hz3⟩ := runs_some (a := u :: a) (t := v.frm) (by omega)
        have h1 : v.frm ≤ w.frm := by
          rcases List.mem_cons.1 hw with rfl | hw
          · omega
          · have := ov.1 w hw; omega
        have h2 : u.frm ≤ z.frm := by
          rcases List.mem_cons.1 hz with rfl | hz
          · omega
          · have := ou.1 z hz; omega
        omega
      have hjob : u.job = v.job := by
        rw [hfrm, runs_mem hb.ord (by simp) (Int.le_refl _) pv.2] at hu
        omega
      -- a lemma for both directions
      have key : ∀ (x y : Slice) (l m : List Slice), WF S (x :: l) → WF S (y :: m) → (∀ t, runs (x :: l) t = runs (y :: m) t) → x.frm = y.frm → x.job = y.job → ¬ x.to < y.to := by
        intro x y l m hx hy he hf hj hlt
        have px := hx.pos x (by simp)
        have py := hy.pos y (by simp)
        have e1 := he x.to
        rw [runs_mem hy.ord (u := y) (by simp) (by omega) hlt, runs, if_neg (by omega)] at e1
        obtain ⟨w, hw, hw1, hw2, hw3⟩ := runs_some (a := l) (t := x.to) (by omega)
        cases l with
        | nil => cases hw
        | cons z l =>
          have oz := List.pairwise_cons.1 (List.pairwise_cons.1 hx.ord).2
          have ox := List.pairwise_cons.1 hx.ord
          have pz := hx.pos z (by simp)
          have hz1 := ox.1 z (by simp)
          have hz2 : z.frm ≤ w.frm := by
            rcases List.mem_cons.1 hw with rfl | hw
            · omega
            · have := oz.1 w hw; omega
          have hz3 : z.frm = x.to := by omega
          have hzj : z.job = x.job := by
            rw [runs, if_pos (by omega)] at e1
            omega
          obtain ⟨s, hs, hs1, hs2⟩ := hy.ins y (by simp)
          exact hx.sep [] x z l rfl hzj.symm hz3.symm s hs ⟨by omega, by omega⟩
      have k1 := key u v a b ha hb h hfrm hjob
      have k2 := key v u b a hb ha (fun t => (h t).symm) hfrm.symm hjob.symm
      have huv : u = v := by
        cases u; cases v; simp only at *; simp only [Slice.mk.injEq]; omega
      subst huv
      rw [ih ha.tail hb.tail (fun t => ?_)]
      rw [runs_tail ha.ord, runs_tail hb.ord, h t]
end Go.Proofs.Ytbnjdlafnejanaa.Sh
namespace Go.Proofs.Ytbnjdlafnejanaa.Sh
def tot (L : List Job) : Int := (L.map Job.min).sum
/-- The jobs that must run from a to b. -/
def inside (J : List Job) (a b : Int) : List Job := J.filter fun x => decide (a ≤ x.rel) && decide (x.due ≤ b)
def need (J : List Job) (a b : Int) : Int := tot (inside J a b)
theorem mem_inside {J : List Job} {a b : Int} {x : Job} : x ∈ inside J a b ↔ x ∈ J ∧ a ≤ x.rel ∧ x.due ≤ b := by
  simp [inside, List.mem_filter]
theorem cnt_any {f : Int → Int} (a b : Int) : ∀ {L : List Job}, L.Pairwise (fun x y => x.id ≠ y.id) →
    cnt (fun t => L.any fun y => isId f y.id t) a b = (L.map fun y => cnt (isId f y.id) a b).sum := by
  intro L
  induction L with
  | nil => intro _; exact cnt_false (fun _ _ _ => rfl)
  | cons y L ih =>
    intro h
    obtain ⟨h1, h2⟩ := List.pairwise_cons.1 h
    rw [List.map_cons, List.sum_cons, ← ih h2]
    by_cases hb : a ≤ b
    · refine cnt_or b hb (fun t _ _ => ⟨by simp, ?_⟩)
      cases hy : isId f y.id t with
      | false => rfl
      | true =>
        rw [Bool.true_and, List.any_eq_false]
        intro z hz
        have := h1 z hz
        simp only [isId, decide_eq_true_eq] at hy ⊢
        omega
    · rw [cnt_nil _ (by omega), cnt_nil _ (by omega), cnt_nil _ (by omega)]; rfl
theorem sum_le_sum {α : Type} {f g : α → Int} : ∀ {L : List α}, (∀ x ∈ L, f x ≤ g x) → (L.map f).sum ≤ (L.map g).sum := by
  intro L
  induction L with
  | nil => intro _; exact Int.le_refl _
  | cons a L ih =>
    intro h
    rw [List.map_cons, List.sum_cons, List.map_cons, List.sum_cons]
    have := h a (by simp)
    have := ih (fun x hx => h x (by simp [hx]))
    omega
theorem sum_lt_sum {α : Type} {f g : α → Int} : ∀ {L : List α}, (∀ x ∈ L, f x ≤ g x) → (∃ x ∈ L, f x < g x) → (L.map f).sum < (L.map g).sum := by
  intro L
  induction L with
  | nil => intro _ ⟨x, hx, _⟩; cases hx
  | cons a L ih =>
    intro h ⟨x, hx, hlt⟩
    rw [List.map_cons, List.sum_cons, List.map_cons, List.sum_cons]
    have h1 := h a (by simp)
    have h2 := sum_le_sum (L := L) (fun x hx => h x (by simp [hx]))
    rcases List.mem_cons.1 hx with rfl | hx
    · omega
    · have := ih (fun x hx => h x (by simp [hx])) ⟨x, hx, hlt⟩
      omega
theorem inside_nod {J : List Job} (h : J.Pairwise (fun x y => x.id ≠ y.id)) (a b : Int) : (inside J a b).Pairwise (fun x y => x.id ≠ y.id) :=
  List.Pairwise.filter _ h
/-- Going back from b as long as P holds. -/
theorem back {P : Int → Prop} : ∀ n : Nat, ∀ b : Int, b.toNat = n → P b → ∃ a, a ≤ b ∧ P a ∧ (a ≤ 0 ∨ ¬ P (a - 1)) := by
  intro n
  induction n with
  | zero => intro b hb hp; exact ⟨b, Int.le_refl b, hp, .inl (by omega)⟩
  | succ n ih =>
    intro b hb hp
    by_cases h : P (b - 1)
    · obtain ⟨a, h1, h2, h3⟩ := ih (b - 1) (by omega) h
      exact ⟨a, by omega, h2, h3⟩
    · exact ⟨b, Int.le_refl b, hp, .inr h⟩
theorem IsV.before_rel {J : List Job} {S : List Shift} {f : Int → Int} (hf : IsV J S f) {x : Job} (hx : x ∈ J) {b : Int} (h : b ≤ x.rel) : cnt (isId f x.id) 0 b = 0 := by
  apply cnt_false
  intro t _ h2
  unfold isId
  rw [decide_eq_false_iff_not]
  intro e
  have := hf.rel t x hx e
  omega
/-- Before its release a job does not run: it may be counted from there on. -/
theorem IsV.cnt_from {J : List Job} {S : List Shift} {f : Int → Int} (hf : IsV J S f) {x : Job} (hx : x ∈ J) {a b : Int} (h : a ≤ x.rel) (ha : 0 ≤ a) (hab : a ≤ b) : cnt (isId f x.id) 0 b = cnt (isId f x.id) a b := by
  rw [cnt_split _ ha b hab, hf.before_rel hx h]; omega
/-- If a job has not run for all its minutes by b, an interval up to b holds too few minutes for the jobs that are not due later than it. -/
theorem IsE.short {J : List Job} {S : List Shift} (hJ : VJ J) (hS : VS S) {f : Int → Int} (hf : IsE J S f) {x : Job} (hx : x ∈ J) {b : Int} (h : cnt (isId f x.id) 0 b < x.min) :
    ∃ a, 0 ≤ a ∧ a ≤ x.rel ∧ cnt (inS S) a b < need J a x.due := by
  have hV := hf.isV hJ
  by_cases hb : b ≤ x.rel
  · refine ⟨x.rel, (hJ.pos x hx).2.1, Int.le_refl _, ?_⟩
    rw [cnt_nil _ hb]
    have h1 : 0 < tot (inside J x.rel x.due) := by
      have : ((inside J x.rel x.due).map fun _ => (0 : Int)).sum < tot (inside J x.rel x.due) := by
        refine sum_lt_sum (fun y hy => ?_) ⟨x, mem_inside.2 ⟨hx, Int.le_refl _, Int.le_refl _⟩, ?_⟩
        · have := (hJ.pos y (mem_inside.1 hy).1).2.2; omega
        · have := (hJ.pos x hx).2.2; omega
      have h0 : ∀ L : List Job, (L.map fun _ => (0 : Int)).sum = 0 := by
        intro L; induction L with
        | nil => rfl
        | cons a L ih => rw [List.map_cons, List.sum_cons, ih]; rfl
      rw [h0] at this
      exact this
    exact h1
  · have hx0 := (hJ.pos x hx).2.1
    obtain ⟨a, h1, h2, h3⟩ := back (P := fun a => ∀ t, a ≤ t → t < b → inS S t = true → ∃ y ∈ J, y.due ≤ x.due ∧ f t = y.id) b.toNat b rfl (fun t h1 h2 => by omega)
    -- a may be below 0: then 0 does as well
    obtain ⟨a, ha0, h1, h2, h3⟩ : ∃ a : Int, 0 ≤ a ∧ a ≤ b ∧ (∀ t, a ≤ t → t < b → inS S t = true → ∃ y ∈ J, y.due ≤ x.due ∧ f t = y.id) ∧ (a = 0 ∨ ¬ (∀ t, a - 1 ≤ t → t < b → inS S t = true → ∃ y ∈ J, y.due ≤ x.due ∧ f t = y.id)) := by
      by_cases ha : 0 < a
      · exact ⟨a, by omega, h1, h2, .inr (h3.resolve_left (by omega))⟩
      · exact ⟨0, Int.le_refl 0, by omega, fun t k1 k2 => h2 t (by omega) k2, .inl rfl⟩
    -- whoever is not due later than x either has run for all its minutes ahead of a, or is released at a or later
    have hD : ∀ y ∈ J, y.due ≤ x.due → cnt (isId f y.id) a b = 0 ∧ cnt (isId f y.id) 0 b = y.min ∨ a ≤ y.rel := by
      intro y hy hyd
      rcases h3 with h3 | h3
      · right; have := (hJ.pos y hy).2.1; omega
      · by_cases hr : a ≤ y.rel
        · exact .inr hr
        · left
          have hgap : inS S (a - 1) = true ∧ ∀ z ∈ J, z.due ≤ x.due → f (a - 1) ≠ z.id := by
            refine Classical.byContradiction fun hc => h3 ?_
            intro t k1 k2 k3
            by_cases k : a ≤ t
            · exact h2 t k k2 k3
            · obtain rfl : t = a - 1 := by omega
              refine Classical.byContradiction fun hc2 => hc ⟨k3, fun z hz hzd he => hc2 ⟨z, hz, hzd, he⟩⟩
          have hfull : ¬ cnt (isId f y.id) 0 (a - 1) < y.min := by
            intro hlt
            obtain ⟨z, hz⟩ := best_exists hJ (f := f) (t := a - 1) ⟨y, hy, by omega, hlt⟩
            have hzf := hf.run (a - 1) z hgap.1 hz
            have hzd : z.due ≤ x.due := by
              rcases hz.2.2 y hy ⟨by omega, hlt⟩ with rfl | hb'
              · exact hyd
              · unfold Bf at hb'; omega
            exact hgap.2 z hz.1 hzd hzf
          have ha1 : 1 ≤ a := by
            have h0 := inS_iff.1 hgap.1
            obtain ⟨s, hs, hs1, _⟩ := h0
            have := (hS.pos s hs).1; omega
          have e1 := cnt_split (isId f y.id) (a := 0) (b := a - 1) (by omega) b (by omega)
          have e2 := cnt_split (isId f y.id) (a := 0) (b := a) (by omega) b (by omega)
          have e3 := cnt_mono_right (isId f y.id) (a := 0) (b := a - 1) (c := a) (by omega)
          have m := hV.most y hy b
          have n1 := cnt_nonneg (isId f y.id) a b
          have n2 := cnt_nonneg (isId f y.id) (a - 1) b
          constructor <;> omega
    have hxr : a ≤ x.rel := by
      rcases hD x hx (Int.le_refl _) with h' | h'
      · omega
      · exact h'
    refine ⟨a, ha0, hxr, ?_⟩
    -- each minute of a shift belongs to one of them
    have hle : cnt (inS S) a b ≤ cnt (fun t => (inside J a x.due).any fun y => isId f y.id t) a b := by
      apply cnt_mono
      intro t k1 k2 k3
      obtain ⟨y, hy, hyd, he⟩ := h2 t k1 k2 k3
      rw [List.any_eq_true]
      refine ⟨y, mem_inside.2 ⟨hy, ?_, hyd⟩, by simp [isId, he]⟩
      rcases hD y hy hyd with h' | h'
      · have := cnt_pos_of (p := isId f y.id) k1 k2 (by simp [isId, he])
        omega
      · exact h'
    rw [cnt_any a b (inside_nod hJ.nod a x.due)] at hle
    refine Int.lt_of_le_of_lt hle (sum_lt_sum (fun y hy => ?_) ⟨x, mem_inside.2 ⟨hx, hxr, Int.le_refl _⟩, ?_⟩)
    · have := hV.most y (mem_inside.1 hy).1 b
      have := cnt_mono_left (isId f y.id) (a := 0) (b := a) (c := b) ha0
      omega
    · have := cnt_mono_left (isId f x.id) (a := 0) (b := a) (c := b) ha0
      omega
/-- What runs from a to b has room there. -/
theorem IsV.fits {J : List Job} {S : List Shift} (hJ : VJ J) {g : Int → Int} (hg : IsV J S g) {L : List Job} (hn : L.Pairwise (fun x y => x.id ≠ y.id)) {a b : Int} (ha : 0 ≤ a)
    (hL : ∀ y ∈ L, y ∈ J ∧ a ≤ y.rel ∧ y.min ≤ cnt (isId g y.id) 0 b) : tot L ≤ cnt (inS S) a b := by
  by_cases hab : a ≤ b
  · have h1 : tot L ≤ (L.map fun y => cnt (isId g y.id) a b).sum := by
      refine sum_le_sum (fun y hy => ?_)
      obtain ⟨k1, k2, k3⟩ := hL y hy
      rw [hg.cnt_from k1 k2 ha hab] at k3
      exact k3
    refine Int.le_trans h1 ?_
    rw [← cnt_any a b hn]
    apply cnt_mono
    intro t _ _ h
    rw [List.any_eq_true] at h
    obtain ⟨y, hy, he⟩ := h
    simp only [isId, decide_eq_true_eq] at he
    have := (hJ.pos y (hL y hy).1).1
    exact hg.out t (by omega)
  · have : L = [] := by
      cases L with
      | nil => rfl
      | cons y L =>
        obtain ⟨k1, k2, k3⟩ := hL y (by simp)
        rw [hg.before_rel k1 (by omega)] at k3
        have := (hJ.pos y k1).2.2
        omega
    subst this
    exact cnt_nonneg _ _ _
/-- More is needed in an interval than it holds. -/
def Over (J : List Job) (S : List Shift) (a b : Int) : Prop := cnt (inS S) a b < need J a b
/-- A job is late: it has not run for all its minutes by its due date. -/
def IsLate (f : Int → Int) (x : Job) : Prop := cnt (isId f x.id) 0 x.due < x.min
theorem IsV.late_of_over {J : List Job} {S : List Shift} (hJ : VJ J) {g : Int → Int} (hg : IsV J S g) {a b : Int} (ha : 0 ≤ a) (h : Over J S a b) : ∃ x ∈ J, IsLate g x := by
  refine Classical.byContradiction fun hc => ?_
  have := hg.fits hJ (inside_nod hJ.nod a b) (a := a) (b := b) ha (fun y hy => by
    obtain ⟨h1, h2, h3⟩ := mem_inside.1 hy
    have k1 : ¬ IsLate g y := fun hl => hc ⟨y, h1, hl⟩
    unfold IsLate at k1
    have k2 := cnt_mono_right (isId g y.id) (a := 0) (b := y.due) (c := b) h3
    exact ⟨h1, h2, by omega⟩)
  unfold Over need at h
  omega
theorem min_rel {L : List Job} (h : L ≠ []) : ∃ y ∈ L, ∀ z ∈ L, y.rel ≤ z.rel := by
  induction L with
  | nil => exact absurd rfl h
  | cons a L ih =>
    by_cases hL : L = []
    · subst hL; exact ⟨a, by simp, fun z hz => by simp at hz; subst hz; exact Int.le_refl _⟩
    · obtain ⟨y, hy, hm⟩ := ih hL
      by_cases hc : a.rel ≤ y.rel
      · refine ⟨a, by simp, fun z hz => ?_⟩
        rcases List.mem_cons.1 hz with rfl | hz
        · exact Int.le_refl _
        · have := hm z hz; omega
      · refine ⟨y, by simp [hy], fun z hz => ?_⟩
        rcases List.mem_cons.1 hz with rfl | hz
        · omega
        · exact hm z hz
theorem IsE.over_of_late {J : List Job} {S : List Shift} (hJ : VJ J) (hS : VS S) {f : Int → Int} (hf : IsE J S f) {x : Job} (hx : x ∈ J) (h : IsLate f x) : ∃ y ∈ J, Over J S y.rel x.due := by
  obtain ⟨a, _, hxr, hlt⟩ := hf.short hJ hS hx (b := x.due) h
  obtain ⟨y, hy, hm⟩ := min_rel (L := inside J a x.due) (by
    intro he
    have : x ∈ inside J a x.due := mem_inside.2 ⟨hx, hxr, Int.le_refl _⟩
    rw [he] at this; cases this)
  obtain ⟨h1, h2, h3⟩ := mem_inside.1 hy
  refine ⟨y, h1, ?_⟩
  have he : inside J y.rel x.due = inside J a x.due := by
    unfold inside
    apply List.filter_congr
    intro z hz
    by_cases hzi : z ∈ inside J a x.due
    · have := hm z hzi
      obtain ⟨k1, k2, k3⟩ := mem_inside.1 hzi
      simp [k2, this]
    · have : ¬ (a ≤ z.rel ∧ z.due ≤ x.due) := fun hk => hzi (mem_inside.2 ⟨hz, hk.1, hk.2⟩)
      rw [Bool.eq_iff_iff]
      simp only [Bool.and_eq_true, decide_eq_true_eq]
      constructor
      · intro hk; exact absurd ⟨by omega, hk.2⟩ this
      · intro hk; exact absurd hk this
  have hc := cnt_mono_left (inS S) (a := a) (b := y.rel) (c := x.due) h2
  unfold Over need
  rw [he]
  unfold need at hlt
  omega
/-- A job is late exactly if there is an overfull interval. -/
theorem IsE.late_iff {J : List Job} {S : List Shift} (hJ : VJ J) (hS : VS S) {f : Int → Int} (hf : IsE J S f) : (∃ x ∈ J, IsLate f x) ↔ ∃ y ∈ J, ∃ x ∈ J, Over J S y.rel x.due := by
  constructor
  · rintro ⟨x, hx, h⟩
    obtain ⟨y, hy, ho⟩ := hf.over_of_late hJ hS hx h
    exact ⟨y, hy, x, hx, ho⟩
  · rintro ⟨y, hy, x, _, h⟩
    exact (hf.isV hJ).late_of_over hJ ((hJ.pos y hy).2.1) h
end Go.Proofs.Ytbnjdlafnejanaa.Sh
namespace Go.Proofs.Ytbnjdlafnejanaa.Sh
/-- f tells who runs by earliest due date ahead of t, and nobody runs from t on. -/
structure Part (J : List Job) (S : List Shift) (t : Int) (f : Int → Int) : Prop where
  out : ∀ u, u < t → inS S u = false → f u = 0
  idle : ∀ u, u < t → (∀ x ∈ J, ¬ Av f x u) → f u = 0
  run : ∀ u x, u < t → inS S u = true → Best J f u x → f u = x.id
  rest : ∀ u, t ≤ u → f u = 0
theorem Part.start (J : List Job) {S : List Shift} (hS : VS S) : Part J S 0 (runs []) :=
  ⟨fun _ _ _ => rfl, fun _ _ _ => rfl, fun u x h1 h2 _ => absurd h2 (by rw [inS_neg hS h1]; simp), fun _ _ => rfl⟩
theorem Part.wait {J : List Job} {S : List Shift} {t t' : Int} {f : Int → Int} (h : Part J S t f) (ht : t ≤ t')
    (hw : ∀ u, t ≤ u → u < t' → inS S u = false ∨ ∀ x ∈ J, ¬ Av f x u) : Part J S t' f := by
  refine ⟨?_, ?_, ?_, fun u hu => h.rest u (by omega)⟩
  · intro u hu hi
    by_cases hc : u < t
    · exact h.out u hc hi
    · exact h.rest u (by omega)
  · intro u hu hi
    by_cases hc : u < t
    · exact h.idle u hc hi
    · exact h.rest u (by omega)
  · intro u x hu hi hb
    by_cases hc : u < t
    · exact h.run u x hc hi hb
    · rcases hw u (by omega) hu with h1 | h1
      · rw [hi] at h1; cases h1
      · exact absurd hb.2.1 (h1 x hb.1)
/-- f, but v from a to b. -/
def upd (f : Int → Int) (a b v : Int) (t : Int) : Int := if a ≤ t ∧ t < b then v else f t
theorem upd_below {f : Int → Int} {a b v u : Int} (h : u < a) : upd f a b v u = f u := by unfold upd; rw [if_neg (by omega)]
theorem cnt_upd_below {f : Int → Int} {a b v id u : Int} (h : u ≤ a) : cnt (isId (upd f a b v) id) 0 u = cnt (isId f id) 0 u :=
  cnt_congr' (fun t _ h2 => by unfold isId; rw [upd_below (by omega)])
theorem cnt_upd_self {f : Int → Int} {a b v u : Int} (h0 : 0 ≤ a) (h1 : a ≤ u) (h2 : u ≤ b) : cnt (isId (upd f a b v) v) 0 u = cnt (isId f v) 0 a + (u - a) := by
  rw [cnt_split _ h0 u h1, cnt_upd_below (Int.le_refl a), cnt_true (p := isId (upd f a b v) v) u h1]
  intro t k1 k2
  unfold isId upd
  rw [if_pos (by omega)]; simp
theorem cnt_upd_other {f : Int → Int} {a b v id u : Int} (h0 : 0 ≤ a) (h1 : a ≤ u) (h2 : u ≤ b) (hne : v ≠ id) : cnt (isId (upd f a b v) id) 0 u = cnt (isId f id) 0 a := by
  rw [cnt_split _ h0 u h1, cnt_upd_below (Int.le_refl a), cnt_false (p := isId (upd f a b v) id) (a := a) (b := u)]
  · omega
  · intro t k1 k2
    unfold isId upd
    rw [if_pos (by omega)]; simpa using hne
theorem Part.go {J : List Job} {S : List Shift} {t t' : Int} {f : Int → Int} {x : Job} (h : Part J S t f) (h0 : 0 ≤ t) (ht : t ≤ t') (hb : Best J f t x)
    (hi : ∀ u, t ≤ u → u < t' → inS S u = true) (hr : ∀ y ∈ J, y.rel ≤ t ∨ t' ≤ y.rel) (hl : t' - t ≤ x.min - cnt (isId f x.id) 0 t) :
    Part J S t' (upd f t t' x.id) := by
  have hlow : ∀ u, u ≤ t → ∀ v, 0 ≤ v → v < u → upd f t t' x.id v = f v := fun u hu v _ hv => upd_below (by omega)
  have hbest : ∀ u, t ≤ u → u < t' → Best J (upd f t t' x.id) u x := by
    intro u h1 h2
    refine ⟨hb.1, ⟨by have := hb.2.1.1; omega, ?_⟩, ?_⟩
    · rw [cnt_upd_self h0 h1 (by omega)]; omega
    · intro y hy ha
      refine hb.2.2 y hy ⟨?_, ?_⟩
      · have := ha.1
        rcases hr y hy with h3 | h3 <;> omega
      · have k1 := ha.2
        have k2 := cnt_mono_right (isId (upd f t t' x.id) y.id) (a := 0) (b := t) (c := u) h1
        rw [cnt_upd_below (Int.le_refl t)] at k2
        omega
  refine ⟨?_, ?_, ?_, ?_⟩
  · intro u hu hiu
    by_cases hc : u < t
    · rw [upd_below hc]; exact h.out u hc hiu
    · rw [hi u (by omega) hu] at hiu; cases hiu
  · intro u hu hiu
    by_cases hc : u < t
    · rw [upd_below hc]
      exact h.idle u hc (fun y hy ha => hiu y hy ((Av.congr (hlow u (by omega))).2 ha))
    · exact absurd (hbest u (by omega) hu).2.1 (hiu x hb.1)
  · intro u y hu hiu hy
    by_cases hc : u < t
    · rw [upd_below hc]
      exact h.run u y hc hiu ((Best.congr (hlow u (by omega))).1 hy)
    · have := (hbest u (by omega) hu).unique hy
      subst this
      unfold upd
      rw [if_pos (by omega)]
  · intro u hu
    unfold upd
    by_cases hc : u < t
    · omega
    · by_cases hc2 : t ≤ u ∧ u < t'
      · omega
      · rw [if_neg hc2]; exact h.rest u (by omega)
theorem Part.done {J : List Job} {S : List Shift} {t : Int} {f : Int → Int} (h : Part J S t f) (hd : ∀ u, t ≤ u → inS S u = false) : IsE J S f := by
  refine ⟨?_, ?_, ?_⟩
  · intro u hu
    by_cases hc : u < t
    · exact h.out u hc hu
    · exact h.rest u (by omega)
  · intro u hu
    by_cases hc : u < t
    · exact h.idle u hc hu
    · exact h.rest u (by omega)
  · intro u x hi hb
    by_cases hc : u < t
    · exact h.run u x hc hi hb
    · rw [hd u (by omega)] at hi; cases hi
theorem Part.cnt_later {J : List Job} {S : List Shift} {t t' : Int} {f : Int → Int} (h : Part J S t f) (h0 : 0 ≤ t) (ht : t ≤ t') {id : Int} (hid : 1 ≤ id) : cnt (isId f id) 0 t' = cnt (isId f id) 0 t := by
  rw [cnt_split _ h0 t' ht, cnt_false (p := isId f id) (a := t) (b := t')]
  · omega
  · intro u h1 _
    unfold isId
    rw [h.rest u h1]; simp; omega
theorem runs_append {a b : List Slice} {t : Int} : runs (a ++ b) t = if (∃ u ∈ a, u.frm ≤ t ∧ t < u.to) then runs a t else runs b t := by
  induction a with
  | nil => simp
  | cons u a ih =>
    rw [List.cons_append, runs, runs]
    by_cases hc : u.frm ≤ t ∧ t < u.to
    · rw [if_pos hc, if_pos hc, if_pos ⟨u, by simp, hc⟩]
    · rw [if_neg hc, if_neg hc, ih]
      by_cases he : ∃ v ∈ a, v.frm ≤ t ∧ t < v.to
      · rw [if_pos he, if_pos (by obtain ⟨v, hv, hh⟩ := he; exact ⟨v, by simp [hv], hh⟩)]
      · rw [if_neg he, if_neg]
        rintro ⟨v, hv, hh⟩
        rcases List.mem_cons.1 hv with rfl | hv
        · exact hc hh
        · exact he ⟨v, hv, hh⟩
theorem runs_snoc {a : List Slice} {j t t' : Int} (h : ∀ u ∈ a, u.to ≤ t) (v : Int) : runs (a ++ [⟨j, t, t'⟩]) v = upd (runs a) t t' j v := by
  rw [runs_append]
  unfold upd
  by_cases hv : t ≤ v ∧ v < t'
  · rw [if_neg (by rintro ⟨u, hu, h1⟩; have := h u hu; omega), if_pos hv, runs, if_pos hv]
  · rw [if_neg hv]
    by_cases he : ∃ u ∈ a, u.frm ≤ v ∧ v < u.to
    · rw [if_pos he]
    · rw [if_neg he, runs, if_neg hv, runs_none (fun u hu h1 => he ⟨u, hu, h1⟩)]; rfl
theorem runs_grow {a : List Slice} {j b t t' : Int} (hb : b ≤ t) (ht : t ≤ t') (h : ∀ u ∈ a, u.to ≤ b) (v : Int) : runs (a ++ [⟨j, b, t'⟩]) v = upd (runs (a ++ [⟨j, b, t⟩])) t t' j v := by
  rw [runs_snoc h]
  unfold upd
  rw [runs_snoc h]
  unfold upd
  by_cases h1 : b ≤ v ∧ v < t' <;> by_cases h2 : t ≤ v ∧ v < t' <;> by_cases h3 : b ≤ v ∧ v < t <;> simp [h1, h2, h3] <;> omega
theorem WF.nil (S : List Shift) : WF S [] := ⟨fun _ h => absurd h (by simp), List.Pairwise.nil, fun _ h => absurd h (by simp), fun p u v q e => absurd e (by simp)⟩
theorem split_snoc {p q a : List Slice} {u v w : Slice} (e : a ++ [w] = p ++ u :: v :: q) : (v = w ∧ a = p ++ [u]) ∨ (∃ q', q = q' ++ [w] ∧ a = p ++ u :: v :: q') := by
  rcases List.eq_nil_or_concat q with rfl | ⟨q', x, rfl⟩
  · left
    have e' : a ++ [w] = (p ++ [u]) ++ [v] := by simpa using e
    have := List.append_inj' e' rfl
    exact ⟨by have := this.2; simp at this; exact this.symm, this.1⟩
  · right
    have e' : a ++ [w] = (p ++ u :: v :: q') ++ [x] := by simpa using e
    have := List.append_inj' e' rfl
    have h2 : w = x := by simpa using this.2
    exact ⟨q', by rw [h2]; simp, this.1⟩
/-- A slice behind the others. -/
theorem WF.snoc {S : List Shift} {a : List Slice} (h : WF S a) {j t t' : Int} (hj : 1 ≤ j) (ht : t < t') (he : ∀ u ∈ a, u.to ≤ t) (hi : ∃ s ∈ S, s.frm ≤ t ∧ t' ≤ s.to)
    (hs : ∀ u ∈ a.getLast?, u.job = j → u.to = t → ∀ s ∈ S, ¬ (s.frm < t ∧ t < s.to)) : WF S (a ++ [⟨j, t, t'⟩]) := by
  refine ⟨?_, ?_, ?_, ?_⟩
  · intro u hu
    rcases List.mem_append.1 hu with hu | hu
    · exact h.pos u hu
    · simp at hu; subst hu; exact ⟨hj, ht⟩
  · rw [List.pairwise_append]
    refine ⟨h.ord, by simp, ?_⟩
    intro u hu v hv
    simp at hv; subst hv
    exact he u hu
  · intro u hu
    rcases List.mem_append.1 hu with hu | hu
    · exact h.ins u hu
    · simp at hu; subst hu; exact hi
  · intro p u v q e h1 h2
    rcases split_snoc e with ⟨rfl, e2⟩ | ⟨q', _, e2⟩
    · refine hs u ?_ h1 h2
      rw [e2]; simp
    · exact h.sep p u v q' e2 h1 h2
/-- The last slice made longer. -/
theorem WF.grow {S : List Shift} {a : List Slice} {j b t t' : Int} (h : WF S (a ++ [⟨j, b, t⟩])) (ht : t ≤ t') (hi : ∃ s ∈ S, s.frm ≤ b ∧ t' ≤ s.to) : WF S (a ++ [⟨j, b, t'⟩]) := by
  have ho := List.pairwise_append.1 h.ord
  have hl := h.pos ⟨j, b, t⟩ (by simp)
  refine ⟨?_, ?_, ?_, ?_⟩
  · intro u hu
    rcases List.mem_append.1 hu with hu | hu
    · exact h.pos u (by simp [hu])
    · simp at hu; subst hu; exact ⟨hl.1, by have := hl.2; simp only at this ⊢; omega⟩
  · rw [List.pairwise_append]
    refine ⟨ho.1, by simp, ?_⟩
    intro u hu v hv
    simp at hv; subst hv
    exact ho.2.2 u hu ⟨j, b, t⟩ (by simp)
  · intro u hu
    rcases List.mem_append.1 hu with hu | hu
    · exact h.ins u (by simp [hu])
    · simp at hu; subst hu; exact hi
  · intro p u v q e h1 h2
    rcases split_snoc e with ⟨rfl, e2⟩ | ⟨q', rfl, e2⟩
    · exact h.sep p u ⟨j, b, t⟩ [] (by rw [e2]; simp) h1 h2
    · exact h.sep p u v (q' ++ [⟨j, b, t⟩]) (by rw [e2]; simp) h1 h2
/-- What the closure tells: who runs at t (its index, or -1), and when the next job is released. -/
structure Told (J : List Job) (left : List Int) (t to : Int) (b n : Int) : Prop where
  le : n ≤ to
  lt : t < to → t < n
  rel : ∀ y ∈ J, y.rel ≤ t ∨ n ≤ y.rel
  why : n = to ∨ ∃ y ∈ J, n = y.rel
  none : b < 0 → b = -1 ∧ ∀ i (h : i < J.length) (hl : i < left.length), ¬ (J[i].rel ≤ t ∧ 0 < left[i])
  some : 0 ≤ b → ∃ i : Nat, b = i ∧ ∃ (h : i < J.length) (hl : i < left.length), J[i].rel ≤ t ∧ 0 < left[i] ∧
    ∀ k (hk : k < J.length) (hkl : k < left.length), J[k].rel ≤ t → 0 < left[k] → k = i ∨ Bf J[i] J[k]
/-- What holds within shift s at t. -/
structure MInv (J : List Job) (S : List Shift) (s : Shift) (t : Int) (left : List Int) (first : Nat) (out : List Slice) : Prop where
  part : Part J S t (runs out)
  len : left.length = J.length
  rest : ∀ i (h : i < J.length) (hl : i < left.length), left[i] = J[i].min - cnt (isId (runs out) J[i].id) 0 t
  wf : WF S out
  ends : ∀ u ∈ out, u.to ≤ t
  old : ∀ u ∈ out.take first, u.to ≤ s.frm
  new : ∀ u ∈ out.drop first, s.frm ≤ u.frm
  first : first ≤ out.length
  mem : s ∈ S
  at0 : s.frm ≤ t
  at1 : t ≤ s.to
  sum : (out.length : Int) + left.sum ≤ tot J
  nonneg : ∀ v ∈ left, 0 ≤ v
theorem Told.av {J : List Job} {left : List Int} {t : Int} {f : Int → Int} (hl : ∀ i (h : i < J.length) (hl : i < left.length), left[i] = J[i].min - cnt (isId f J[i].id) 0 t) {i : Nat} (h : i < J.length) (hl' : i < left.length) :
    Av f J[i] t ↔ J[i].rel ≤ t ∧ 0 < left[i] := by
  have := hl i h hl'
  unfold Av
  constructor <;> intro k <;> exact ⟨k.1, by have := k.2; omega⟩
theorem sum_set (l : List Int) (i : Nat) (h : i < l.length) (v : Int) : (l.set i v).sum = l.sum - l[i] + v := by
  induction l generalizing i with
  | nil => cases h
  | cons a l ih =>
    cases i with
    | zero => simp; omega
    | succ i =>
      simp only [List.set_cons_succ, List.sum_cons, List.getElem_cons_succ]
      rw [ih i (by simpa using h)]; omega
theorem sum_nonneg (m : List Int) (hm : ∀ x ∈ m, 0 ≤ x) : 0 ≤ m.sum := by
  induction m with
  | nil => exact Int.le_refl _
  | cons b m ihm => rw [List.sum_cons]; have := hm b (by simp); have := ihm (fun x hx => hm x (by simp [hx])); omega
theorem MInv.wait {J : List Job} {S : List Shift} {s : Shift} {t : Int} {left : List Int} {first : Nat} {out : List Slice} (hJ : VJ J) (hS : VS S) (h : MInv J S s t left first out)
    (ht : t < s.to) {b n : Int} (hT : Told J left t s.to b n) (hb : b < 0) : MInv J S s n left first out := by
  have h0 : 0 ≤ t := by have := (hS.pos s h.mem).1; have := h.at0; omega
  have hn := hT.lt ht
  have hp : Part J S n (runs out) := h.part.wait (by omega) (by
    intro u h1 h2
    right
    intro x hx ha
    obtain ⟨i, hi, rfl⟩ := List.getElem_of_mem hx
    refine (hT.none hb).2 i hi (by rw [h.len]; exact hi) ((Told.av h.rest hi (by rw [h.len]; exact hi)).1 ⟨?_, ?_⟩)
    · have := ha.1
      rcases hT.rel _ hx with h3 | h3 <;> omega
    · have := ha.2
      have := cnt_mono_right (isId (runs out) J[i].id) (a := 0) h1
      omega)
  refine ⟨hp, h.len, ?_, h.wf, fun u hu => by have := h.ends u hu; omega, h.old, h.new, h.first, h.mem, by have := h.at0; omega, hT.le, h.sum, h.nonneg⟩
  intro i hi hl
  rw [h.rest i hi hl, h.part.cnt_later (t' := n) h0 (by omega) ((hJ.pos _ (List.getElem_mem hi)).1)]
/-- What a round that runs a job needs, and what it does to who runs and to what is left. -/
theorem MInv.run {J : List Job} {S : List Shift} {s : Shift} {t : Int} {left : List Int} {first : Nat} {out : List Slice} (hJ : VJ J) (hS : VS S) (h : MInv J S s t left first out)
    (ht : t < s.to) {n : Int} {i : Nat} (hT : Told J left t s.to i n) (hi : i < J.length) (hl : i < left.length) {n' : Int} (hn : n' = min n (t + left[i])) :
    t < n' ∧ n' ≤ s.to ∧ n' ≤ t + left[i] ∧ Part J S n' (upd (runs out) t n' J[i].id) ∧
    (∀ k (hk : k < J.length) (hkl : k < (left.set i (left[i] - (n' - t))).length), (left.set i (left[i] - (n' - t)))[k] = J[k].min - cnt (isId (upd (runs out) t n' J[i].id) J[k].id) 0 n') ∧
    (left.set i (left[i] - (n' - t))).sum = left.sum - (n' - t) ∧ (∀ v ∈ left.set i (left[i] - (n' - t)), 0 ≤ v) := by
  have h0 : 0 ≤ t := by have := (hS.pos s h.mem).1; have := h.at0; omega
  have hlt := hT.lt ht
  have hle := hT.le
  obtain ⟨i', hii, hi', hl', hrel, hpos, hbest⟩ := hT.some (by omega)
  obtain rfl : i = i' := by omega
  have hn1 : t < n' := by omega
  have hbe : Best J (runs out) t J[i] := by
    refine ⟨List.getElem_mem hi, (Told.av h.rest hi hl).2 ⟨hrel, hpos⟩, ?_⟩
    intro y hy ha
    obtain ⟨k, hk, rfl⟩ := List.getElem_of_mem hy
    obtain ⟨a1, a2⟩ := (Told.av h.rest hk (by rw [h.len]; exact hk)).1 ha
    rcases hbest k hk (by rw [h.len]; exact hk) a1 a2 with rfl | hb
    · exact .inl rfl
    · exact .inr hb
  have hrest := h.rest i hi hl
  refine ⟨hn1, by omega, by omega, ?_, ?_, ?_, ?_⟩
  · refine h.part.go h0 (by omega) hbe ?_ ?_ (by omega)
    · intro u h1 h2
      exact inS_iff.2 ⟨s, h.mem, by have := h.at0; omega, by omega⟩
    · intro y hy
      rcases hT.rel y hy with h3 | h3
      · exact .inl h3
      · exact .inr (by omega)
  · intro k hk hkl
    by_cases hki : i = k
    · subst hki
      rw [List.getElem_set_self, cnt_upd_self h0 (by omega) (Int.le_refl _)]
      omega
    · rw [List.getElem_set_ne hki, cnt_upd_other h0 (by omega) (Int.le_refl _), h.rest k hk (by rw [h.len]; exact hk)]
      intro he
      have hp := List.pairwise_iff_getElem.1 hJ.nod
      rcases Nat.lt_or_gt_of_ne hki with h1 | h1
      · exact hp i k hi hk h1 he
      · exact hp k i hk hi h1 he.symm
  · rw [sum_set left i hl]; omega
  · intro v hv
    rcases List.mem_or_eq_of_mem_set hv with h1 | h1
    · exact h.nonneg v h1
    · subst h1; omega
theorem MInv.snoc {J : List Job} {S : List Shift} {s : Shift} {t : Int} {left : List Int} {first : Nat} {out : List Slice} (hJ : VJ J) (hS : VS S) (h : MInv J S s t left first out)
    (ht : t < s.to) {n : Int} {i : Nat} (hT : Told J left t s.to i n) (hi : i < J.length) (hl : i < left.length) {n' : Int} (hn : n' = min n (t + left[i]))
    (hm : ∀ u ∈ out.getLast?, first < out.length → u.job = J[i].id → u.to ≠ t) :
    MInv J S s n' (left.set i (left[i] - (n' - t))) first (out ++ [⟨J[i].id, t, n'⟩]) := by
  obtain ⟨h1, h2, _, h4, h5, h6, h7⟩ := h.run hJ hS ht hT hi hl hn
  have hf : runs (out ++ [⟨J[i].id, t, n'⟩]) = upd (runs out) t n' J[i].id := funext (runs_snoc h.ends)
  have hat := h.at0
  refine ⟨by rw [hf]; exact h4, by simpa using h.len, by rw [hf]; exact h5, ?_, ?_, ?_, ?_, ?_, h.mem, by omega, h2, ?_, h7⟩
  · refine h.wf.snoc (hJ.pos _ (List.getElem_mem hi)).1 h1 h.ends ⟨s, h.mem, hat, h2⟩ ?_
    intro u hu hj he s' hs' hc
    by_cases hlt : first < out.length
    · exact hm u hu hlt hj he
    · -- nothing in this shift as yet: t is its begin
      have hu' : u ∈ out := by
        rcases List.eq_nil_or_concat out with rfl | ⟨a, x, rfl⟩
        · simp at hu
        · simp at hu; subst hu; simp
      have h9 := h.old u (by rw [List.take_of_length_le (by omega)]; exact hu')
      have : t = s.frm := by omega
      have hp := hS.ord
      obtain ⟨k, hk, rfl⟩ := List.getElem_of_mem h.mem
      obtain ⟨k', hk', rfl⟩ := List.getElem_of_mem hs'
      have hq := List.pairwise_iff_getElem.1 hp
      rcases Nat.lt_trichotomy k k' with h10 | h10 | h10
      · have := hq k k' hk hk' h10
        have := (hS.pos _ h.mem).2; omega
      · subst h10; omega
      · have := hq k' k hk' hk h10; omega
  · intro u hu
    rcases List.mem_append.1 hu with hu | hu
    · have := h.ends u hu; omega
    · simp at hu; subst hu; exact Int.le_refl _
  · intro u hu
    rw [List.take_append_of_le_length h.first] at hu
    exact h.old u hu
  · intro u hu
    rw [List.drop_append_of_le_length h.first] at hu
    rcases List.mem_append.1 hu with hu | hu
    · exact h.new u hu
    · simp at hu; subst hu; exact hat
  · have := h.first; simp; omega
  · have := h.sum
    rw [h6]; simp; omega
theorem MInv.grow {J : List Job} {S : List Shift} {s : Shift} {t : Int} {left : List Int} {first : Nat} {a : List Slice} {u : Slice} (hJ : VJ J) (hS : VS S) (h : MInv J S s t left first (a ++ [u]))
    (ht : t < s.to) {n : Int} {i : Nat} (hT : Told J left t s.to i n) (hi : i < J.length) (hl : i < left.length) {n' : Int} (hn : n' = min n (t + left[i]))
    (hf : first ≤ a.length) (hj : u.job = J[i].id) (hu : u.to = t) :
    MInv J S s n' (left.set i (left[i] - (n' - t))) first (a ++ [⟨u.job, u.frm, n'⟩]) := by
  obtain ⟨h1, h2, _, h4, h5, h6, h7⟩ := h.run hJ hS ht hT hi hl hn
  obtain ⟨j, b, e⟩ := u
  simp only at hj hu ⊢
  subst hu
  subst hj
  have hle : ∀ v ∈ a, v.to ≤ b := fun v hv => (List.pairwise_append.1 h.wf.ord).2.2 v hv ⟨J[i].id, b, e⟩ (by simp)
  have hbe := (h.wf.pos ⟨J[i].id, b, e⟩ (by simp)).2
  simp only at hbe
  have hr : runs (a ++ [⟨J[i].id, b, n'⟩]) = upd (runs (a ++ [⟨J[i].id, b, e⟩])) e n' J[i].id := funext (runs_grow (by omega) (by omega) hle)
  have hat := h.at0
  have hnew := h.new ⟨J[i].id, b, e⟩ (by rw [List.drop_append_of_le_length hf]; simp)
  simp only at hnew
  refine ⟨by rw [hr]; exact h4, by simpa using h.len, by rw [hr]; exact h5, ?_, ?_, ?_, ?_, ?_, h.mem, by omega, h2, ?_, h7⟩
  · exact h.wf.grow (by omega) ⟨s, h.mem, hnew, h2⟩
  · intro v hv
    rcases List.mem_append.1 hv with hv | hv
    · have := hle v hv; omega
    · simp at hv; subst hv; exact Int.le_refl _
  · intro v hv
    rw [List.take_append_of_le_length hf] at hv
    exact h.old v (by rw [List.take_append_of_le_length hf]; exact hv)
  · intro v hv
    rw [List.drop_append_of_le_length hf] at hv
    rcases List.mem_append.1 hv with hv | hv
    · exact h.new v (by rw [List.drop_append_of_le_length hf]; simp [hv])
    · simp at hv; subst hv; exact hnew
  · simp; omega
  · have := h.sum
    rw [h6]; simp at this ⊢; omega
/-- The end of the shift ahead of the k-th one. -/
def fin (S : List Shift) (k : Nat) : Int := if k = 0 then 0 else (S[k - 1]?.map Shift.to).getD 0
theorem fin_succ {S : List Shift} {k : Nat} (h : k < S.length) : fin S (k + 1) = S[k].to := by
  unfold fin; simp [h]
theorem fin_nonneg {S : List Shift} (hS : VS S) (k : Nat) : 0 ≤ fin S k := by
  unfold fin
  split
  · exact Int.le_refl _
  · by_cases h : k - 1 < S.length
    · have := hS.pos _ (List.getElem_mem h)
      simp [h]; omega
    · simp [h]
theorem fin_le {S : List Shift} (hS : VS S) {k : Nat} (h : k < S.length) : fin S k ≤ S[k].frm := by
  unfold fin
  have h0 := (hS.pos _ (List.getElem_mem h)).1
  split
  · exact h0
  · have hq := List.pairwise_iff_getElem.1 hS.ord (k - 1) k (by omega) h (by omega)
    rw [List.getElem?_eq_getElem (by omega)]; exact hq
theorem gap {S : List Shift} (hS : VS S) {k : Nat} {u : Int} (h : fin S k ≤ u) (hu : ∀ h : k < S.length, u < S[k].frm) (hk : k ≤ S.length) : inS S u = false := by
  rw [Bool.eq_false_iff]
  intro hc
  obtain ⟨s, hs, h1, h2⟩ := inS_iff.1 hc
  obtain ⟨j, hj, rfl⟩ := List.getElem_of_mem hs
  have hq := List.pairwise_iff_getElem.1 hS.ord
  by_cases hjk : j < k
  · have e : fin S k = S[k - 1].to := by
      unfold fin; rw [if_neg (by omega), List.getElem?_eq_getElem (by omega)]; rfl
    by_cases hj1 : j = k - 1
    · subst hj1; omega
    · have := hq j (k - 1) hj (by omega) (by omega)
      have := (hS.pos _ (List.getElem_mem (show k - 1 < S.length by omega))).2
      omega
  · have := hu (by omega)
    by_cases hj1 : j = k
    · subst hj1; omega
    · have h3 := hq k j (by omega) hj (by omega)
      have := (hS.pos _ (List.getElem_mem (show k < S.length by omega))).2
      omega
/-- What holds ahead of the k-th shift. -/
structure OInv (J : List Job) (S : List Shift) (k : Nat) (left : List Int) (out : List Slice) : Prop where
  part : Part J S (fin S k) (runs out)
  len : left.length = J.length
  rest : ∀ i (h : i < J.length) (hl : i < left.length), left[i] = J[i].min - cnt (isId (runs out) J[i].id) 0 (fin S k)
  wf : WF S out
  ends : ∀ u ∈ out, u.to ≤ fin S k
  sum : (out.length : Int) + left.sum ≤ tot J
  nonneg : ∀ v ∈ left, 0 ≤ v
theorem OInv.start {J : List Job} {S : List Shift} (hJ : VJ J) (hS : VS S) : OInv J S 0 (J.map Job.min) [] := by
  refine ⟨Part.start J hS, by simp, ?_, WF.nil S, fun _ h => absurd h (by simp), by simp [tot], ?_⟩
  · intro i h hl
    rw [cnt_nil _ (by simp [fin])]; simp
  · intro v hv
    obtain ⟨x, hx, rfl⟩ := List.mem_map.1 hv
    have := (hJ.pos x hx).2.2; omega
theorem OInv.enter {J : List Job} {S : List Shift} {k : Nat} {left : List Int} {out : List Slice} (hJ : VJ J) (hS : VS S) (h : OInv J S k left out) (hk : k < S.length) :
    MInv J S S[k] S[k].frm left out.length out := by
  have hle := fin_le hS hk
  refine ⟨h.part.wait hle ?_, h.len, ?_, h.wf, ?_, ?_, ?_, Nat.le_refl _, List.getElem_mem hk, Int.le_refl _, ?_, h.sum, h.nonneg⟩
  · intro u h1 h2
    exact .inl (gap hS h1 (fun _ => h2) (by omega))
  · intro i hi hl
    rw [h.rest i hi hl, h.part.cnt_later (t' := S[k].frm) (fin_nonneg hS k) hle ((hJ.pos _ (List.getElem_mem hi)).1)]
  · intro u hu; have := h.ends u hu; omega
  · intro u hu; have := h.ends u (List.mem_of_mem_take hu); omega
  · intro u hu; simp at hu
  · have := (hS.pos _ (List.getElem_mem hk)).2; omega
theorem MInv.leave {J : List Job} {S : List Shift} {k : Nat} {left : List Int} {first : Nat} {out : List Slice} (hk : k < S.length) (h : MInv J S S[k] S[k].to left first out) : OInv J S (k + 1) left out := by
  have e := fin_succ hk
  exact ⟨by rw [e]; exact h.part, h.len, by rw [e]; exact h.rest, h.wf, by rw [e]; exact h.ends, h.sum, h.nonneg⟩
/-- What Make returns. -/
structure Made (J : List Job) (S : List Shift) (out : List Slice) : Prop where
  ise : IsE J S (runs out)
  wf : WF S out
theorem OInv.done {J : List Job} {S : List Shift} {left : List Int} {out : List Slice} (hS : VS S) (h : OInv J S S.length left out) : Made J S out :=
  ⟨h.part.done (fun _ hu => gap hS hu (fun hc => absurd hc (Nat.lt_irrefl _)) (Nat.le_refl _)), h.wf⟩
/-- There is no other one. -/
theorem Made.unique {J : List Job} {S : List Shift} (hJ : VJ J) (hS : VS S) {a b : List Slice} (ha : Made J S a) (hb : Made J S b) : a = b :=
  ha.wf.unique hb.wf (ha.ise.unique hJ hS hb.ise)
end Go.Proofs.Ytbnjdlafnejanaa.Sh
namespace Go.Proofs.Ytbnjdlafnejanaa.Sh
/-- A minute of a shift in which nobody runs. -/
def free (S : List Shift) (f : Int → Int) (t : Int) : Bool := inS S t && decide (f t = 0)
/-- The first n of the numbers from r on that have p. -/
def takes (p : Int → Bool) (r n : Int) (t : Int) : Bool := p t && decide (r ≤ t) && decide (cnt p r t < n)
theorem cnt_takes {p : Int → Bool} {r n : Int} (hn : 0 ≤ n) : ∀ t, r ≤ t → cnt (takes p r n) r t = min (cnt p r t) n := by
  apply ivl_ind
  · rw [cnt_nil _ (Int.le_refl r), cnt_nil _ (Int.le_refl r)]; omega
  · intro t ht ih
    rw [cnt_succ _ ht, cnt_succ _ ht, ih]
    have := cnt_nonneg p r t
    unfold takes
    by_cases hp : p t = true
    · by_cases hc : cnt p r t < n
      · simp [hp, ht, hc]; omega
      · simp [hp, hc]; omega
    · simp [hp]
theorem cnt_takes0 {p : Int → Bool} {r n : Int} (hn : 0 ≤ n) (hr : 0 ≤ r) (t : Int) (ht : r ≤ t) : cnt (takes p r n) 0 t = min (cnt p r t) n := by
  rw [cnt_split _ hr t ht, cnt_takes hn t ht, cnt_false (p := takes p r n) (a := 0) (b := r)]
  · omega
  · intro u _ h2
    unfold takes
    simp; omega
/-- One job more, that goes behind the others. -/
theorem IsE.add {K : List Job} {S : List Shift} {f f' : Int → Int} {x : Job} (hK : VJ K) (hx : VJ (x :: K)) (hf : IsE K S f) (hb : ∀ y ∈ K, Bf y x)
    (he : ∀ t, f' t = if takes (free S f) x.rel x.min t then x.id else f t) : IsE (x :: K) S f' := by
  have px := hx.pos x (by simp)
  have hne : ∀ y ∈ K, x.id ≠ y.id := (List.pairwise_cons.1 hx.nod).1
  have hfx : ∀ t, f t ≠ x.id := by
    intro t h
    obtain ⟨y, hy, h2⟩ := (hf.isV hK).job t (by omega)
    exact hne y hy (by omega)
  have hty : ∀ t, takes (free S f) x.rel x.min t = true → inS S t = true ∧ f t = 0 ∧ x.rel ≤ t ∧ cnt (free S f) x.rel t < x.min := by
    intro t h
    simp only [takes, free, Bool.and_eq_true, decide_eq_true_eq] at h
    exact ⟨h.1.1.1, h.1.1.2, h.1.2, h.2⟩
  have hcy : ∀ y ∈ K, ∀ t, cnt (isId f' y.id) 0 t = cnt (isId f y.id) 0 t := by
    intro y hy t
    apply cnt_congr'
    intro u _ _
    have h1 := hne y hy
    have h2 := (hK.pos y hy).1
    unfold isId
    rw [he u]
    by_cases hc : takes (free S f) x.rel x.min u = true
    · rw [if_pos hc]
      have := (hty u hc).2.1
      rw [decide_eq_decide]; omega
    · rw [if_neg hc]
  have hcx : ∀ t, x.rel ≤ t → cnt (isId f' x.id) 0 t = min (cnt (free S f) x.rel t) x.min := by
    intro t ht
    rw [← cnt_takes0 (by omega) px.2.1 t ht]
    apply cnt_congr'
    intro u _ _
    unfold isId
    rw [he u]
    by_cases hc : takes (free S f) x.rel x.min u = true
    · rw [if_pos hc, hc]; simp
    · rw [if_neg hc]
      simp only [Bool.not_eq_true] at hc
      rw [hc]
      simpa using hfx u
  have hay : ∀ y ∈ K, ∀ t, Av f' y t ↔ Av f y t := by
    intro y hy t; unfold Av; rw [hcy y hy t]
  have hax : ∀ t, Av f' x t ↔ x.rel ≤ t ∧ cnt (free S f) x.rel t < x.min := by
    intro t
    unfold Av
    constructor
    · rintro ⟨h1, h2⟩; rw [hcx t h1] at h2; exact ⟨h1, by omega⟩
    · rintro ⟨h1, h2⟩; rw [hcx t h1]; exact ⟨h1, by omega⟩
  refine ⟨?_, ?_, ?_⟩
  · intro t ht
    rw [he t, if_neg]
    · exact hf.out t ht
    · intro hc; have := (hty t hc).1; rw [ht] at this; cases this
  · intro t ht
    rw [he t, if_neg]
    · exact hf.idle t (fun y hy h => ht y (by simp [hy]) ((hay y hy t).2 h))
    · intro hc
      have := hty t hc
      exact ht x (by simp) ((hax t).2 this.2.2)
  · intro t z hi hz
    rcases List.mem_cons.1 hz.1 with rfl | hzK
    · have h0 : f t = 0 := by
        refine hf.idle t (fun y hy h => ?_)
        have h1 := hb y hy
        rcases hz.2.2 y (by simp [hy]) ((hay y hy t).2 h) with h2 | h2
        · exact hne y hy (by rw [h2])
        · unfold Bf at h1 h2; omega
      rw [he t, if_pos]
      have := (hax t).1 hz.2.1
      simp [takes, free, hi, h0, this]
    · have h1 : f t = z.id := hf.run t z hi ⟨hzK, (hay z hzK t).1 hz.2.1, fun y hy h => hz.2.2 y (by simp [hy]) ((hay y hy t).2 h)⟩
      rw [he t, if_neg]
      · exact h1
      · intro hc
        have := (hty t hc).2.1
        have := (hK.pos z hzK).1
        omega
theorem IsE.nil (S : List Shift) : IsE [] S (fun _ => 0) := ⟨fun _ _ => rfl, fun _ _ => rfl, fun _ _ _ h => absurd h.1 (by simp)⟩
theorem Av.mem_congr {J K : List Job} (h : ∀ x, x ∈ J ↔ x ∈ K) {S : List Shift} {f : Int → Int} (hf : IsE J S f) : IsE K S f := by
  refine ⟨hf.out, fun t ht => hf.idle t (fun x hx => ht x ((h x).1 hx)), fun t x hi hb => hf.run t x hi ⟨(h x).2 hb.1, hb.2.1, fun y hy => hb.2.2 y ((h y).1 hy)⟩⟩
/-- t is in the interior of no shift. -/
def NI (S : List Shift) (t : Int) : Prop := ∀ s ∈ S, ¬ (s.frm < t ∧ t < s.to)
/-- One interval lies ahead of another one, and they touch only where shifts do. -/
def Ah (S : List Shift) (a b : Shift) : Prop := a.to ≤ b.frm ∧ (a.to = b.frm → NI S b.frm)
structure FI (S : List Shift) (F : List Shift) : Prop where
  pos : ∀ s ∈ F, s.frm < s.to
  ins : ∀ a ∈ F, ∃ s ∈ S, s.frm ≤ a.frm ∧ a.to ≤ s.to
  ord : F.Pairwise (Ah S)
theorem FI.start {S : List Shift} (hS : VS S) : FI S S := by
  refine ⟨fun s hs => (hS.pos s hs).2, fun a ha => ⟨a, ha, Int.le_refl _, Int.le_refl _⟩, ?_⟩
  have hq := List.pairwise_iff_getElem.1 hS.ord
  rw [List.pairwise_iff_getElem]
  intro i j hi hj hij
  refine ⟨hq i j hi hj hij, ?_⟩
  intro _ s hs hc
  obtain ⟨k, hk, rfl⟩ := List.getElem_of_mem hs
  have hk0 := (hS.pos _ hs).2
  have hj0 := (hS.pos _ (List.getElem_mem hj)).2
  rcases Nat.lt_trichotomy k j with h | h | h
  · have := hq k j hk hj h; omega
  · subst h; omega
  · have := hq j k hj hk h; omega
theorem FI.tail {S F : List Shift} {a : Shift} (h : FI S (a :: F)) : FI S F :=
  ⟨fun s hs => h.pos s (by simp [hs]), fun s hs => h.ins s (by simp [hs]), (List.pairwise_cons.1 h.ord).2⟩
/-- Slices that a job takes of intervals, and the intervals that are left. -/
def place (id r : Int) : Int → List Shift → List Slice × List Shift
  | _, [] => ([], [])
  | n, a :: F =>
    let from_ := max a.frm r
    let to_ := min a.to (from_ + n)
    if n = 0 ∨ a.to ≤ from_ then ((place id r n F).1, a :: (place id r n F).2)
    else (⟨id, from_, to_⟩ :: (place id r (n - (to_ - from_)) F).1,
      ((if a.frm < from_ then [⟨a.frm, from_⟩] else []) ++ (if to_ < a.to then [⟨to_, a.to⟩] else [])) ++ (place id r (n - (to_ - from_)) F).2)
/-- t lies in one of the slices. -/
def inL (L : List Slice) (t : Int) : Prop := ∃ u ∈ L, u.frm ≤ t ∧ t < u.to
theorem inS_cons {a : Shift} {F : List Shift} {t : Int} : inS (a :: F) t = true ↔ (a.frm ≤ t ∧ t < a.to) ∨ inS F t = true := by
  rw [inS_iff, inS_iff]
  constructor
  · rintro ⟨s, hs, h⟩
    rcases List.mem_cons.1 hs with rfl | hs
    · exact .inl h
    · exact .inr ⟨s, hs, h⟩
  · rintro (h | ⟨s, hs, h⟩)
    · exact ⟨a, by simp, h⟩
    · exact ⟨s, by simp [hs], h⟩
theorem inS_append {E F : List Shift} {t : Int} : inS (E ++ F) t = true ↔ inS E t = true ∨ inS F t = true := by
  rw [inS_iff, inS_iff, inS_iff]
  constructor
  · rintro ⟨s, hs, h⟩
    rcases List.mem_append.1 hs with hs | hs
    · exact .inl ⟨s, hs, h⟩
    · exact .inr ⟨s, hs, h⟩
  · rintro (⟨s, hs, h⟩ | ⟨s, hs, h⟩)
    · exact ⟨s, by simp [hs], h⟩
    · exact ⟨s, by simp [hs], h⟩
theorem FI.after {S F : List Shift} {a : Shift} (h : FI S (a :: F)) {t : Int} (ht : inS F t = true) : a.to ≤ t := by
  obtain ⟨s, hs, h1, _⟩ := inS_iff.1 ht
  have := ((List.pairwise_cons.1 h.ord).1 s hs).1
  omega
/-- Of an interval and those behind it: how many minutes there are from r up to t. -/
theorem cnt_cons {S F : List Shift} {a : Shift} (h : FI S (a :: F)) {r : Int} : ∀ t, r ≤ t → cnt (inS (a :: F)) r t = max 0 (min t a.to - max a.frm r) + cnt (inS F) r t := by
  have pa := h.pos a (by simp)
  apply ivl_ind
  · rw [cnt_nil _ (Int.le_refl r), cnt_nil _ (Int.le_refl r)]; omega
  · intro t ht ih
    rw [cnt_succ _ ht, cnt_succ _ ht, ih]
    by_cases hF : inS F t = true
    · have h1 := h.after hF
      rw [if_pos hF, if_pos (inS_cons.2 (.inr hF))]; omega
    · rw [if_neg hF]
      by_cases ha : a.frm ≤ t ∧ t < a.to
      · rw [if_pos (inS_cons.2 (.inl ha))]; omega
      · rw [if_neg (fun hc => (inS_cons.1 hc).elim ha hF)]; omega
/-- ahead of what F begins with nothing of F is counted -/
theorem cnt_ahead {S F : List Shift} {a : Shift} (h : FI S (a :: F)) {r t : Int} (ht : t ≤ a.to) : cnt (inS F) r t = 0 := by
  apply cnt_false
  intro u _ h2
  rw [Bool.eq_false_iff]
  intro hc
  have := h.after hc
  omega
structure Placed (S F : List Shift) (id r n : Int) (L : List Slice) (R : List Shift) : Prop where
  job : ∀ u ∈ L, u.job = id ∧ u.frm < u.to
  cov : ∀ t, inL L t ↔ inS F t = true ∧ r ≤ t ∧ cnt (inS F) r t < n
  rest : ∀ t, inS R t = true ↔ inS F t = true ∧ ¬ inL L t
  fi : FI S R
  sub : ∀ u ∈ L, ∃ a ∈ F, a.frm ≤ u.frm ∧ u.to ≤ a.to
  subR : ∀ b ∈ R, ∃ a ∈ F, a.frm ≤ b.frm ∧ b.to ≤ a.to
  ord : L.Pairwise (fun u v => u.to ≤ v.frm ∧ (u.to = v.frm → NI S v.frm))
theorem inL_cons {u : Slice} {L : List Slice} {t : Int} : inL (u :: L) t ↔ (u.frm ≤ t ∧ t < u.to) ∨ inL L t := by
  unfold inL
  constructor
  · rintro ⟨v, hv, h⟩
    rcases List.mem_cons.1 hv with rfl | hv
    · exact .inl h
    · exact .inr ⟨v, hv, h⟩
  · rintro (h | ⟨v, hv, h⟩)
    · exact ⟨u, by simp, h⟩
    · exact ⟨v, by simp [hv], h⟩
theorem place_ok {S : List Shift} (id r : Int) : ∀ (F : List Shift) (n : Int), 0 ≤ n → FI S F → Placed S F id r n (place id r n F).1 (place id r n F).2 := by
  intro F
  induction F with
  | nil =>
    intro n _ h
    refine ⟨fun _ hu => absurd hu (by simp [place]), ?_, ?_, ⟨fun _ hu => absurd hu (by simp [place]), fun _ hu => absurd hu (by simp [place]), by simp [place]⟩, fun _ hu => absurd hu (by simp [place]), fun _ hu => absurd hu (by simp [place]), by simp [place]⟩
    · intro t; simp [place, inL, inS]
    · intro t; simp [place, inS]
  | cons a F ih =>
    intro n hn h
    have pa := h.pos a (by simp)
    have oa := (List.pairwise_cons.1 h.ord).1
    have hFt := h.tail
    simp only [place]
    by_cases hc : n = 0 ∨ a.to ≤ max a.frm r
    · rw [if_pos hc]
      have P := ih n hn hFt
      refine ⟨P.job, ?_, ?_, ?_, ?_, ?_, P.ord⟩
      · intro t
        rw [P.cov t]
        constructor
        · rintro ⟨h1, h2, h3⟩
          refine ⟨inS_cons.2 (.inr h1), h2, ?_⟩
          rw [cnt_cons h t h2]; have := cnt_nonneg (inS F) r t; omega
        · rintro ⟨h1, h2, h3⟩
          rw [cnt_cons h t h2] at h3
          have h4 := cnt_nonneg (inS F) r t
          rcases inS_cons.1 h1 with h5 | h5
          · omega
          · exact ⟨h5, h2, by omega⟩
      · intro t
        rw [inS_cons, inS_cons, P.rest t]
        constructor
        · rintro (h1 | ⟨h1, h2⟩)
          · refine ⟨.inl h1, fun hh => ?_⟩
            have := h.after ((P.cov t).1 hh).1
            omega
          · exact ⟨.inr h1, h2⟩
        · rintro ⟨h1 | h1, h2⟩
          · exact .inl h1
          · exact .inr ⟨h1, h2⟩
      · refine ⟨?_, ?_, ?_⟩
        · intro s hs
          rcases List.mem_cons.1 hs with rfl | hs
          · exact pa
          · exact P.fi.pos s hs
        · intro s hs
          rcases List.mem_cons.1 hs with rfl | hs
          · exact h.ins s (by simp)
          · exact P.fi.ins s hs
        · rw [List.pairwise_cons]
          refine ⟨?_, P.fi.ord⟩
          intro b hb
          obtain ⟨c, hc', h1, h2⟩ := P.subR b hb
          have h3 := oa c hc'
          have h4 := P.fi.pos b hb
          refine ⟨by have := h3.1; omega, fun e => ?_⟩
          have : b.frm = c.frm := by have := h3.1; omega
          rw [this]; exact h3.2 (by omega)
      · intro u hu
        obtain ⟨c, hc', h1⟩ := P.sub u hu
        exact ⟨c, by simp [hc'], h1⟩
      · intro u hu
        rcases List.mem_cons.1 hu with rfl | hu
        · exact ⟨u, by simp, Int.le_refl _, Int.le_refl _⟩
        · obtain ⟨c, hc', h1⟩ := P.subR u hu
          exact ⟨c, by simp [hc'], h1⟩
    · rw [if_neg hc]
      have hn0 : 0 < n := by omega
      have hft : max a.frm r < a.to := by omega
      generalize hfe : max a.frm r = fr at hft hc ⊢
      generalize hte : min a.to (fr + n) = to at ⊢
      have hlt : fr < to := by omega
      have P := ih (n - (to - fr)) (by omega) hFt
      have hsub0 : ∀ u ∈ (place id r (n - (to - fr)) F).1, a.to ≤ u.frm ∧ (a.to = u.frm → NI S u.frm) := by
        intro u hu
        obtain ⟨c, hc', h1, h2⟩ := P.sub u hu
        have h3 := oa c hc'
        refine ⟨by have := h3.1; omega, fun e => ?_⟩
        have : u.frm = c.frm := by have := h3.1; omega
        rw [this]; exact h3.2 (by omega)
      have hsubR0 : ∀ u ∈ (place id r (n - (to - fr)) F).2, a.to ≤ u.frm ∧ (a.to = u.frm → NI S u.frm) := by
        intro u hu
        obtain ⟨c, hc', h1, h2⟩ := P.subR u hu
        have h3 := oa c hc'
        refine ⟨by have := h3.1; omega, fun e => ?_⟩
        have : u.frm = c.frm := by have := h3.1; omega
        rw [this]; exact h3.2 (by omega)
      -- the pieces
      have hpm : ∀ b, b ∈ ((if a.frm < fr then [(⟨a.frm, fr⟩ : Shift)] else []) ++ (if to < a.to then [⟨to, a.to⟩] else [])) ↔ (a.frm < fr ∧ b = ⟨a.frm, fr⟩) ∨ (to < a.to ∧ b = ⟨to, a.to⟩) := by
        intro b
        rw [List.mem_append]
        by_cases k1 : a.frm < fr <;> by_cases k2 : to < a.to <;> simp [k1, k2]
      have hpi : ∀ t, inS ((if a.frm < fr then [(⟨a.frm, fr⟩ : Shift)] else []) ++ (if to < a.to then [⟨to, a.to⟩] else [])) t = true ↔ (a.frm ≤ t ∧ t < fr) ∨ (to ≤ t ∧ t < a.to) := by
        intro t
        rw [inS_iff]
        constructor
        · rintro ⟨s, hs, h1⟩
          rcases (hpm s).1 hs with ⟨_, rfl⟩ | ⟨_, rfl⟩
          · exact .inl h1
          · exact .inr h1
        · rintro (h1 | h1)
          · exact ⟨⟨a.frm, fr⟩, (hpm _).2 (.inl ⟨by omega, rfl⟩), h1⟩
          · exact ⟨⟨to, a.to⟩, (hpm _).2 (.inr ⟨by omega, rfl⟩), h1⟩
      have hcov : ∀ t, inL (⟨id, fr, to⟩ :: (place id r (n - (to - fr)) F).1) t ↔ inS (a :: F) t = true ∧ r ≤ t ∧ cnt (inS (a :: F)) r t < n := by
        intro t
        rw [inL_cons, P.cov t, inS_cons]
        simp only
        constructor
        · rintro (⟨h1, h2⟩ | ⟨h1, h2, h3⟩)
          · refine ⟨.inl ⟨by omega, by omega⟩, by omega, ?_⟩
            rw [cnt_cons h t (by omega), cnt_ahead h (by omega)]; omega
          · have := h.after h1
            refine ⟨.inr h1, h2, ?_⟩
            rw [cnt_cons h t h2]; have := cnt_nonneg (inS F) r t; omega
        · rintro ⟨h1, h2, h3⟩
          rw [cnt_cons h t h2] at h3
          have h4 := cnt_nonneg (inS F) r t
          rcases h1 with h1 | h1
          · left; omega
          · right
            have := h.after h1
            exact ⟨h1, h2, by omega⟩
      refine ⟨?_, hcov, ?_, ?_, ?_, ?_, ?_⟩
      · intro u hu
        rcases List.mem_cons.1 hu with rfl | hu
        · exact ⟨rfl, hlt⟩
        · exact P.job u hu
      · intro t
        rw [inS_append, hpi t, P.rest t, inS_cons, inL_cons]
        simp only
        constructor
        · rintro (h1 | ⟨h1, h2⟩)
          · refine ⟨.inl (by omega), ?_⟩
            rintro (h3 | ⟨u, hu, h3⟩)
            · omega
            · have := (hsub0 u hu).1; omega
          · have := h.after h1
            refine ⟨.inr h1, ?_⟩
            rintro (h3 | h3)
            · omega
            · exact h2 h3
        · rintro ⟨h1 | h1, h2⟩
          · left
            refine Classical.byContradiction fun hc2 => h2 (.inl ?_)
            omega
          · exact .inr ⟨h1, fun h3 => h2 (.inr h3)⟩
      · refine ⟨?_, ?_, ?_⟩
        · intro s hs
          rcases List.mem_append.1 hs with hs | hs
          · rcases (hpm s).1 hs with ⟨h1, rfl⟩ | ⟨h1, rfl⟩
            · exact h1
            · exact h1
          · exact P.fi.pos s hs
        · intro s hs
          obtain ⟨s', hs', h1, h2⟩ := h.ins a (by simp)
          rcases List.mem_append.1 hs with hs | hs
          · rcases (hpm s).1 hs with ⟨k1, rfl⟩ | ⟨k1, rfl⟩
            · exact ⟨s', hs', h1, by simp only; omega⟩
            · exact ⟨s', hs', by simp only; omega, h2⟩
          · exact P.fi.ins s hs
        · rw [List.pairwise_append]
          refine ⟨?_, P.fi.ord, ?_⟩
          · by_cases k1 : a.frm < fr <;> by_cases k2 : to < a.to <;> simp [k1, k2, Ah]
            constructor <;> omega
          · intro b hb c hc'
            have h1 := hsubR0 c hc'
            rcases (hpm b).1 hb with ⟨k1, rfl⟩ | ⟨k1, rfl⟩
            · exact ⟨by simp only; omega, fun e => by simp only at e; omega⟩
            · exact h1
      · intro u hu
        rcases List.mem_cons.1 hu with rfl | hu
        · exact ⟨a, by simp, by simp only; omega, by simp only; omega⟩
        · obtain ⟨c, hc', h1⟩ := P.sub u hu
          exact ⟨c, by simp [hc'], h1⟩
      · intro u hu
        rcases List.mem_append.1 hu with hu | hu
        · rcases (hpm u).1 hu with ⟨k1, rfl⟩ | ⟨k1, rfl⟩
          · exact ⟨a, by simp, Int.le_refl _, by simp only; omega⟩
          · exact ⟨a, by simp, by simp only; omega, Int.le_refl _⟩
        · obtain ⟨c, hc', h1⟩ := P.subR u hu
          exact ⟨c, by simp [hc'], h1⟩
      · rw [List.pairwise_cons]
        refine ⟨?_, P.ord⟩
        intro u hu
        have h1 := hsub0 u hu
        exact ⟨by simp only; omega, fun e => h1.2 (by simp only at e; omega)⟩
end Go.Proofs.Ytbnjdlafnejanaa.Sh
namespace Go.Proofs.Ytbnjdlafnejanaa.Sh
def Apart (u v : Slice) : Prop := u.to ≤ v.frm ∨ v.to ≤ u.frm
theorem runs_disj {a : List Slice} (hd : a.Pairwise Apart) {u : Slice} (hu : u ∈ a) {t : Int} (h1 : u.frm ≤ t) (h2 : t < u.to) : runs a t = u.job := by
  induction a with
  | nil => cases hu
  | cons v a ih =>
    obtain ⟨k1, k2⟩ := List.pairwise_cons.1 hd
    rw [runs]
    rcases List.mem_cons.1 hu with rfl | hu
    · rw [if_pos ⟨h1, h2⟩]
    · rw [if_neg (by rcases k1 u hu with h | h <;> omega)]
      exact ih k2 hu
/-- What holds behind some jobs: K are done, F are the intervals that are left. -/
structure RInv (J : List Job) (S : List Shift) (K : List Job) (F : List Shift) (out : List Slice) : Prop where
  vk : VJ K
  sub : ∀ x ∈ K, x ∈ J
  prio : ∀ y ∈ K, ∀ z ∈ J, z ∉ K → Bf y z
  ise : IsE K S (runs out)
  fi : FI S F
  free : ∀ t, inS F t = free S (runs out) t
  disj : out.Pairwise Apart
  pos : ∀ u ∈ out, 1 ≤ u.job ∧ u.frm < u.to
  ins : ∀ u ∈ out, ∃ s ∈ S, s.frm ≤ u.frm ∧ u.to ≤ s.to
  sep : ∀ u ∈ out, ∀ v ∈ out, u.job = v.job → u.to = v.frm → NI S v.frm
  jobs : ∀ u ∈ out, ∃ x ∈ K, u.job = x.id
theorem RInv.start (J : List Job) {S : List Shift} (hS : VS S) : RInv J S [] S [] := by
  refine ⟨⟨fun _ h => absurd h (by simp), List.Pairwise.nil⟩, fun _ h => absurd h (by simp), fun _ h => absurd h (by simp), IsE.nil S, FI.start hS, ?_, List.Pairwise.nil, fun _ h => absurd h (by simp), fun _ h => absurd h (by simp), fun _ h => absurd h (by simp), fun _ h => absurd h (by simp)⟩
  intro t; simp [Sh.free, runs]
theorem RInv.step {J : List Job} {S : List Shift} {K : List Job} {F : List Shift} {out : List Slice} (hJ : VJ J) (h : RInv J S K F out)
    {x : Job} (hx : x ∈ J) (hn : x ∉ K) (hb : ∀ z ∈ J, z ∉ K → z = x ∨ Bf x z) :
    RInv J S (x :: K) (place x.id x.rel x.min F).2 (out ++ (place x.id x.rel x.min F).1) := by
  have px := hJ.pos x hx
  have hne : ∀ y ∈ K, x.id ≠ y.id := fun y hy e => hn (by rw [hJ.inj x hx y (h.sub y hy) e]; exact hy)
  have vk' : VJ (x :: K) := ⟨fun y hy => by
    rcases List.mem_cons.1 hy with rfl | hy
    · exact px
    · exact h.vk.pos y hy, List.pairwise_cons.2 ⟨hne, h.vk.nod⟩⟩
  have hbk : ∀ y ∈ K, Bf y x := fun y hy => h.prio y hy x hx hn
  have hff : inS F = Sh.free S (runs out) := funext h.free
  have P := place_ok (S := S) x.id x.rel F x.min (by omega) h.fi
  generalize hL : (place x.id x.rel x.min F).1 = L at P ⊢
  generalize hR : (place x.id x.rel x.min F).2 = R at P ⊢
  have hcov : ∀ t, inL L t ↔ takes (Sh.free S (runs out)) x.rel x.min t = true := by
    intro t
    rw [P.cov t, hff]
    simp [takes, and_assoc]
  have hfree : ∀ t, inL L t → runs out t = 0 := by
    intro t ht
    have := ((P.cov t).1 ht).1
    rw [h.free t] at this
    simp only [Sh.free, Bool.and_eq_true, decide_eq_true_eq] at this
    exact this.2
  have hdL : L.Pairwise Apart := P.ord.imp (fun h => .inl h.1)
  have hnone : ∀ t, inL L t → ¬ ∃ u ∈ out, u.frm ≤ t ∧ t < u.to := by
    rintro t ht ⟨u, hu, h1, h2⟩
    have := runs_disj h.disj hu h1 h2
    have := hfree t ht
    have := (h.pos u hu).1
    omega
  have hruns : ∀ t, runs (out ++ L) t = if takes (Sh.free S (runs out)) x.rel x.min t then x.id else runs out t := by
    intro t
    rw [runs_append]
    by_cases hc : inL L t
    · rw [if_neg (hnone t hc), if_pos ((hcov t).1 hc)]
      obtain ⟨u, hu, h1, h2⟩ := hc
      rw [runs_disj hdL hu h1 h2]
      exact (P.job u hu).1
    · rw [if_neg (fun hh => hc ((hcov t).2 hh))]
      split
      · rfl
      · rename_i hno
        rw [runs_none (fun u hu h1 => hc ⟨u, hu, h1⟩), runs_none (fun u hu h1 => hno ⟨u, hu, h1⟩)]
  have hmemL : ∀ u ∈ L, ∃ a ∈ F, a.frm ≤ u.frm ∧ u.to ≤ a.to := P.sub
  refine ⟨vk', ?_, ?_, h.ise.add h.vk vk' hbk hruns, P.fi, ?_, ?_, ?_, ?_, ?_, ?_⟩
  · intro y hy
    rcases List.mem_cons.1 hy with rfl | hy
    · exact hx
    · exact h.sub y hy
  · intro y hy z hz hzn
    rcases List.mem_cons.1 hy with rfl | hy
    · rcases hb z hz (fun hh => hzn (by simp [hh])) with rfl | h2
      · exact absurd (by simp) hzn
      · exact h2
    · exact h.prio y hy z hz (fun hh => hzn (by simp [hh]))
  · intro t
    rw [Bool.eq_iff_iff, P.rest t, h.free t]
    simp only [Sh.free, Bool.and_eq_true, decide_eq_true_eq]
    rw [hruns t]
    constructor
    · rintro ⟨⟨h1, h2⟩, h3⟩
      refine ⟨h1, ?_⟩
      rw [if_neg (fun hh => h3 ((hcov t).2 hh))]; exact h2
    · rintro ⟨h1, h2⟩
      by_cases hc : takes (Sh.free S (runs out)) x.rel x.min t = true
      · rw [if_pos hc] at h2; omega
      · rw [if_neg hc] at h2
        exact ⟨⟨h1, h2⟩, fun hh => hc ((hcov t).1 hh)⟩
  · rw [List.pairwise_append]
    refine ⟨h.disj, hdL, ?_⟩
    intro u hu v hv
    unfold Apart
    refine Classical.byContradiction fun hc => ?_
    have pu := (h.pos u hu).2
    have pv := (P.job v hv).2
    exact hnone (max u.frm v.frm) ⟨v, hv, by omega, by omega⟩ ⟨u, hu, by omega, by omega⟩
  · intro u hu
    rcases List.mem_append.1 hu with hu | hu
    · exact h.pos u hu
    · have := P.job u hu
      exact ⟨by omega, this.2⟩
  · intro u hu
    rcases List.mem_append.1 hu with hu | hu
    · exact h.ins u hu
    · obtain ⟨a, ha, h1, h2⟩ := hmemL u hu
      obtain ⟨s, hs, h3, h4⟩ := h.fi.ins a ha
      exact ⟨s, hs, by omega, by omega⟩
  · intro u hu v hv hj he
    rcases List.mem_append.1 hu with hu | hu <;> rcases List.mem_append.1 hv with hv | hv
    · exact h.sep u hu v hv hj he
    · obtain ⟨y, hy, h1⟩ := h.jobs u hu
      exact absurd (by have := (P.job v hv).1; omega) (hne y hy)
    · obtain ⟨y, hy, h1⟩ := h.jobs v hv
      exact absurd (by have := (P.job u hu).1; omega) (hne y hy)
    · obtain ⟨i, hi, rfl⟩ := List.getElem_of_mem hu
      obtain ⟨k, hk, rfl⟩ := List.getElem_of_mem hv
      have hq := List.pairwise_iff_getElem.1 P.ord
      have pi := (P.job _ hu).2
      have pk := (P.job _ hv).2
      rcases Nat.lt_trichotomy i k with h1 | h1 | h1
      · exact (hq i k hi hk h1).2 he
      · subst h1; omega
      · have := (hq k i hk hi h1).1; omega
  · intro u hu
    rcases List.mem_append.1 hu with hu | hu
    · obtain ⟨y, hy, h1⟩ := h.jobs u hu
      exact ⟨y, by simp [hy], h1⟩
    · exact ⟨x, by simp, (P.job u hu).1⟩
/-- All jobs are done, and the slices are put in order. -/
theorem RInv.done {J : List Job} {S : List Shift} {K : List Job} {F : List Shift} {out b : List Slice} (h : RInv J S K F out) (hK : ∀ x ∈ J, x ∈ K)
    (hb : b.Perm out) (ho : b.Pairwise (fun u v => u.frm ≤ v.frm)) : Made J S b := by
  have hdb : b.Pairwise Apart := (hb.pairwise_iff (fun h => h.elim .inr .inl)).2 h.disj
  have hr : runs b = runs out := by
    funext t
    by_cases hc : ∃ u ∈ out, u.frm ≤ t ∧ t < u.to
    · obtain ⟨u, hu, h1, h2⟩ := hc
      rw [runs_disj h.disj hu h1 h2, runs_disj hdb (hb.mem_iff.2 hu) h1 h2]
    · rw [runs_none (fun u hu h1 => hc ⟨u, hu, h1⟩), runs_none (fun u hu h1 => hc ⟨u, hb.mem_iff.1 hu, h1⟩)]
  refine ⟨?_, ?_, ?_, ?_, ?_⟩
  · rw [hr]
    exact Av.mem_congr (fun x => ⟨h.sub x, hK x⟩) h.ise
  · exact fun u hu => h.pos u (hb.mem_iff.1 hu)
  · rw [List.pairwise_iff_getElem] at ho hdb ⊢
    intro i k hi hk hik
    have h1 := ho i k hi hk hik
    have h2 := (h.pos _ (hb.mem_iff.1 (List.getElem_mem hi))).2
    have h3 := (h.pos _ (hb.mem_iff.1 (List.getElem_mem hk))).2
    rcases hdb i k hi hk hik with h4 | h4 <;> omega
  · exact fun u hu => h.ins u (hb.mem_iff.1 hu)
  · intro p u v q e h1 h2
    exact h.sep u (hb.mem_iff.1 (by rw [e]; simp)) v (hb.mem_iff.1 (by rw [e]; simp)) h1 h2
/-- For how many minutes it has run. -/
def ran (id : Int) : List Slice → Int
  | [] => 0
  | u :: a => (if u.job = id then u.to - u.frm else 0) + ran id a
/-- The end of its last slice. -/
def lastTo (id : Int) : Int → List Slice → Int
  | d, [] => d
  | d, u :: a => lastTo id (if u.job = id then u.to else d) a
/-- When a job ends, -1 if it does not. -/
def endOf (x : Job) (a : List Slice) : Int := if ran x.id a < x.min then -1 else lastTo x.id (-1) a
theorem ran_append (id : Int) (a b : List Slice) : ran id (a ++ b) = ran id a + ran id b := by
  induction a with
  | nil => simp [ran]
  | cons u a ih => simp only [List.cons_append, ran, ih]; omega
theorem lastTo_append (id d : Int) (a b : List Slice) : lastTo id d (a ++ b) = lastTo id (lastTo id d a) b := by
  induction a generalizing d with
  | nil => rfl
  | cons u a ih => simp only [List.cons_append, lastTo, ih]
theorem snoc_ind {α : Type} {P : List α → Prop} (h0 : P []) (hs : ∀ a u, P a → P (a ++ [u])) : ∀ a, P a := by
  have : ∀ n : Nat, ∀ a : List α, a.length = n → P a := by
    intro n
    induction n with
    | zero => intro a ha; rw [List.length_eq_zero_iff.1 ha]; exact h0
    | succ n ih =>
      intro a ha
      rcases List.eq_nil_or_concat a with rfl | ⟨b, u, rfl⟩
      · exact h0
      · rw [List.concat_eq_append]; exact hs b u (ih b (by simpa using ha))
  exact fun a => this a.length a rfl
/-- Slices in order, each with a minute at least, from 0 on. -/
structure Ord (a : List Slice) : Prop where
  pos : ∀ u ∈ a, 1 ≤ u.job ∧ 0 ≤ u.frm ∧ u.frm < u.to
  ord : a.Pairwise (fun u v => u.to ≤ v.frm)
theorem Ord.init {a : List Slice} {u : Slice} (h : Ord (a ++ [u])) : Ord a ∧ ∀ v ∈ a, v.to ≤ u.frm := by
  have ho := List.pairwise_append.1 h.ord
  exact ⟨⟨fun v hv => h.pos v (by simp [hv]), ho.1⟩, fun v hv => ho.2.2 v hv u (by simp)⟩
theorem WF.toOrd {S : List Shift} (hS : VS S) {a : List Slice} (h : WF S a) : Ord a := by
  refine ⟨fun u hu => ?_, h.ord⟩
  obtain ⟨s, hs, h1, _⟩ := h.ins u hu
  have := (hS.pos s hs).1
  have := h.pos u hu
  exact ⟨this.1, by omega, this.2⟩
theorem ran_cnt {id : Int} (hid : 1 ≤ id) : ∀ a : List Slice, Ord a → ∀ T, 0 ≤ T → (∀ u ∈ a, u.to ≤ T) → cnt (isId (runs a) id) 0 T = ran id a := by
  apply snoc_ind
  · intro _ T _ _
    rw [ran]
    apply cnt_false
    intro t _ _
    exact decide_eq_false (show ¬ ((0 : Int) = id) by omega)
  · intro a u ih h T hT hle
    obtain ⟨h1, h2⟩ := h.init
    have pu := h.pos u (by simp)
    have hr : runs (a ++ [u]) = upd (runs a) u.frm u.to u.job := by
      funext t
      obtain ⟨j, f, e⟩ := u
      exact runs_snoc h2 t
    have huT := hle u (by simp)
    rw [hr, ran_append, ← ih h1 u.frm pu.2.1 h2, ran, ran]
    rw [cnt_split _ (b := u.to) (by omega) T huT, cnt_false (p := isId (upd (runs a) u.frm u.to u.job) id) (a := u.to) (b := T)]
    · by_cases hj : u.job = id
      · subst hj
        rw [if_pos rfl, cnt_upd_self pu.2.1 (by omega) (Int.le_refl _)]; omega
      · rw [if_neg hj, cnt_upd_other pu.2.1 (by omega) (Int.le_refl _) hj]; omega
    · intro t k1 _
      unfold isId upd
      rw [if_neg (by omega), runs_none (fun v hv hc => by have := h2 v hv; omega)]
      simp; omega
/-- The last slice of a job that has one. -/
theorem lastTo_mem {id d : Int} : ∀ a : List Slice, (∃ u ∈ a, u.job = id ∧ lastTo id d a = u.to ∧ ∃ p q, a = p ++ u :: q ∧ ∀ v ∈ q, v.job ≠ id) ∨ ((∀ u ∈ a, u.job ≠ id) ∧ lastTo id d a = d) := by
  apply snoc_ind
  · right; exact ⟨fun _ h => absurd h (by simp), rfl⟩
  · intro a u ih
    rw [lastTo_append]
    simp only [lastTo]
    by_cases hj : u.job = id
    · left
      rw [if_pos hj]
      exact ⟨u, by simp, hj, rfl, a, [], by simp, fun _ h => absurd h (by simp)⟩
    · rw [if_neg hj]
      rcases ih with ⟨v, hv, h1, h2, p, q, h3, h4⟩ | ⟨h1, h2⟩
      · left
        refine ⟨v, by simp [hv], h1, h2, p, q ++ [u], by rw [h3]; simp, ?_⟩
        intro w hw
        rcases List.mem_append.1 hw with hw | hw
        · exact h4 w hw
        · simp at hw; subst hw; exact hj
      · right
        refine ⟨fun w hw => ?_, h2⟩
        rcases List.mem_append.1 hw with hw | hw
        · exact h1 w hw
        · simp at hw; subst hw; exact hj
theorem ran_none {id : Int} : ∀ {a : List Slice}, (∀ u ∈ a, u.job ≠ id) → ran id a = 0 := by
  intro a
  induction a with
  | nil => intro _; rfl
  | cons u a ih => intro h; rw [ran, if_neg (h u (by simp)), ih (fun v hv => h v (by simp [hv]))]; rfl
/-- A job ends by T exactly if it has run for all its minutes by then. -/
theorem end_iff {x : Job} (hx : 1 ≤ x.id ∧ 1 ≤ x.min) {a : List Slice} (h : Ord a) (hm : ∀ t, cnt (isId (runs a) x.id) 0 t ≤ x.min) (T : Int) :
    (0 ≤ endOf x a ∧ endOf x a ≤ T) ↔ x.min ≤ cnt (isId (runs a) x.id) 0 T := by
  -- a time behind all slices
  obtain ⟨B, hB0, hB⟩ : ∃ B : Int, 0 ≤ B ∧ ∀ u ∈ a, u.to ≤ B := by
    clear h hm
    induction a with
    | nil => exact ⟨0, Int.le_refl 0, fun _ h => absurd h (by simp)⟩
    | cons u a ih =>
      obtain ⟨B, h1, h2⟩ := ih
      refine ⟨max B u.to, by omega, fun v hv => ?_⟩
      rcases List.mem_cons.1 hv with rfl | hv
      · omega
      · have := h2 v hv; omega
  have hr := ran_cnt hx.1 a h B hB0 hB
  unfold endOf
  by_cases hc : ran x.id a < x.min
  · rw [if_pos hc]
    constructor
    · rintro ⟨h1, _⟩; omega
    · intro h1
      have := cnt_mono_right (isId (runs a) x.id) (a := 0) (b := T) (c := max T B) (by omega)
      have := ran_cnt hx.1 a h (max T B) (by omega) (fun u hu => by have := hB u hu; omega)
      omega
  · rw [if_neg hc]
    rcases lastTo_mem (id := x.id) (d := -1) a with ⟨u, hu, h1, h2, p, q, h3, h4⟩ | ⟨h1, _⟩
    · rw [h2]
      have pu := h.pos u hu
      constructor
      · rintro ⟨_, k2⟩
        -- all has been run by u.to
        have h0 : cnt (isId (runs a) x.id) T (max T B) = 0 := by
          apply cnt_false
          intro t k3 _
          unfold isId
          rw [decide_eq_false_iff_not]
          intro he
          obtain ⟨v, hv, k5, k6, k7⟩ := runs_some (a := a) (t := t) (by omega)
          rw [h3] at hv
          rcases List.mem_append.1 hv with hv | hv
          · have ho := List.pairwise_append.1 (by have := h.ord; rw [h3] at this; exact this)
            have := ho.2.2 v hv u (by simp)
            omega
          · rcases List.mem_cons.1 hv with rfl | hv
            · omega
            · exact h4 v hv (by omega)
        have h5 := cnt_split (isId (runs a) x.id) (a := 0) (b := T) (by omega) (max T B) (by omega)
        have h6 := ran_cnt hx.1 a h (max T B) (by omega) (fun u hu => by have := hB u hu; omega)
        omega
      · intro k1
        refine ⟨by omega, ?_⟩
        refine Classical.byContradiction fun k2 => ?_
        have k3 := cnt_succ (isId (runs a) x.id) (a := 0) (b := u.to - 1) (by omega)
        have k4 : isId (runs a) x.id (u.to - 1) = true := by
          unfold isId
          rw [runs_mem h.ord hu (by omega) (by omega)]
          simpa using h1
        rw [if_pos k4] at k3
        have k5 := hm (u.to - 1 + 1)
        have k6 := cnt_mono_right (isId (runs a) x.id) (a := 0) (b := T) (c := u.to - 1) (by omega)
        omega
    · have := ran_none h1
      omega
/-- Late: as the document says it, and as it is counted. -/
theorem late_iff {x : Job} (hx : 1 ≤ x.id ∧ 1 ≤ x.min) {a : List Slice} (h : Ord a) (hm : ∀ t, cnt (isId (runs a) x.id) 0 t ≤ x.min) :
    (endOf x a < 0 ∨ x.due < endOf x a) ↔ IsLate (runs a) x := by
  have := end_iff hx h hm x.due
  unfold IsLate
  omega
end Go.Proofs.Ytbnjdlafnejanaa.Sh
namespace Go.Proofs.Ytbnjdlafnejanaa.Sh
/-- The minutes of shifts from a to b, shift by shift. -/
def supply (S : List Shift) (a b : Int) : Int := (S.map fun s => max 0 (min s.to b - max s.frm a)).sum
theorem supply_fi {S : List Shift} (a b : Int) : ∀ F : List Shift, FI S F → supply F a b = cnt (inS F) a b := by
  intro F
  induction F with
  | nil => intro _; exact (cnt_false (fun _ _ _ => rfl)).symm
  | cons s F ih =>
    intro h
    have e : supply (s :: F) a b = max 0 (min s.to b - max s.frm a) + supply F a b := rfl
    rw [e, ih h.tail]
    by_cases hab : a ≤ b
    · rw [cnt_cons h b hab]; omega
    · rw [cnt_nil _ (by omega), cnt_nil _ (by omega)]; omega
theorem supply_eq {S : List Shift} (hS : VS S) (a b : Int) : supply S a b = cnt (inS S) a b := supply_fi a b S (FI.start hS)
theorem over_iff {J : List Job} {S : List Shift} (hS : VS S) {a b : Int} : Over J S a b ↔ 0 < need J a b - supply S a b := by
  rw [supply_eq hS]; unfold Over; omega
/-- An interval that is better than what has been found, and overfull. -/
def excStep (ov : Int → Int → Bool) (st : Int × Int × Bool) (p : Int × Int) : Int × Int × Bool :=
  if (!st.2.2 || decide (p.2 < st.2.1) || (decide (p.2 = st.2.1) && decide (st.1 < p.1))) && ov p.1 p.2 then (p.1, p.2, true) else st
structure Exc (ov : Int → Int → Bool) (L : List (Int × Int)) (st : Int × Int × Bool) : Prop where
  none : st.2.2 = false → st.1 = 0 ∧ st.2.1 = 0 ∧ ∀ p ∈ L, ov p.1 p.2 = false
  some : st.2.2 = true → (st.1, st.2.1) ∈ L ∧ ov st.1 st.2.1 = true ∧ ∀ p ∈ L, ov p.1 p.2 = true → st.2.1 < p.2 ∨ st.2.1 = p.2 ∧ p.1 ≤ st.1
theorem Exc.start (ov : Int → Int → Bool) : Exc ov [] (0, 0, false) := ⟨fun _ => ⟨rfl, rfl, fun _ h => absurd h (by simp)⟩, fun h => absurd h (by simp)⟩
theorem Exc.step {ov : Int → Int → Bool} {L : List (Int × Int)} {st : Int × Int × Bool} (h : Exc ov L st) (p : Int × Int) : Exc ov (L ++ [p]) (excStep ov st p) := by
  obtain ⟨f, t, b⟩ := st
  obtain ⟨x, y⟩ := p
  have h1 := h.none
  have h2 := h.some
  unfold excStep
  simp only at h1 h2 ⊢
  by_cases hov : ov x y = true
  · cases b with
    | false =>
      simp only [hov, Bool.not_false, Bool.true_or, Bool.and_self, if_true]
      refine ⟨fun h => by simp at h, fun _ => ⟨by simp, hov, ?_⟩⟩
      intro q hq hqo
      rcases List.mem_append.1 hq with hq | hq
      · have := (h1 rfl).2.2 q hq
        rw [hqo] at this; cases this
      · simp at hq; subst hq; simp
    | true =>
      obtain ⟨k1, k2, k3⟩ := h2 rfl
      by_cases hc : y < t ∨ (y = t ∧ f < x)
      · rw [if_pos (by simp [hov]; omega)]
        refine ⟨fun h => by simp at h, fun _ => ⟨by simp, hov, ?_⟩⟩
        intro q hq hqo
        rcases List.mem_append.1 hq with hq | hq
        · have := k3 q hq hqo
          simp only; omega
        · simp at hq; subst hq; simp
      · rw [if_neg (by simp [hov]; omega)]
        refine ⟨fun h => by simp at h, fun _ => ⟨by simp [k1], k2, ?_⟩⟩
        intro q hq hqo
        rcases List.mem_append.1 hq with hq | hq
        · exact k3 q hq hqo
        · simp at hq; subst hq; simp only; omega
  · simp only [Bool.not_eq_true] at hov
    rw [hov, Bool.and_false]
    simp only [Bool.false_eq_true, if_false]
    refine ⟨fun h => ?_, fun h => ?_⟩
    · obtain ⟨k1, k2, k3⟩ := h1 h
      refine ⟨k1, k2, fun q hq => ?_⟩
      rcases List.mem_append.1 hq with hq | hq
      · exact k3 q hq
      · simp at hq; subst hq; exact hov
    · obtain ⟨k1, k2, k3⟩ := h2 h
      refine ⟨by simp [k1], k2, fun q hq hqo => ?_⟩
      rcases List.mem_append.1 hq with hq | hq
      · exact k3 q hq hqo
      · simp at hq; subst hq; simp only at hqo; rw [hov] at hqo; cases hqo
theorem Exc.fold {ov : Int → Int → Bool} : ∀ (M L : List (Int × Int)) (st : Int × Int × Bool), Exc ov L st → Exc ov (L ++ M) (M.foldl (excStep ov) st) := by
  intro M
  induction M with
  | nil => intro L st h; simpa using h
  | cons p M ih =>
    intro L st h
    have := ih (L ++ [p]) _ (h.step p)
    simpa using this
theorem Exc.unique {ov : Int → Int → Bool} {L M : List (Int × Int)} (hm : ∀ p, p ∈ L ↔ p ∈ M) {s t : Int × Int × Bool} (hs : Exc ov L s) (ht : Exc ov M t) : s = t := by
  obtain ⟨f, t', b⟩ := s
  obtain ⟨g, u, c⟩ := t
  have s1 := hs.none; have s2 := hs.some; have t1 := ht.none; have t2 := ht.some
  simp only at s1 s2 t1 t2
  cases b <;> cases c
  · have := s1 rfl; have := t1 rfl
    simp only [Prod.mk.injEq, and_true]; omega
  · obtain ⟨k1, k2, _⟩ := t2 rfl
    have := (s1 rfl).2.2 _ ((hm _).2 k1)
    simp only at this; rw [k2] at this; cases this
  · obtain ⟨k1, k2, _⟩ := s2 rfl
    have := (t1 rfl).2.2 _ ((hm _).1 k1)
    simp only at this; rw [k2] at this; cases this
  · obtain ⟨k1, k2, k3⟩ := t2 rfl
    obtain ⟨l1, l2, l3⟩ := s2 rfl
    have a1 := k3 _ ((hm _).1 l1) l2
    have a2 := l3 _ ((hm _).2 k1) k2
    simp only at a1 a2
    simp only [Prod.mk.injEq, and_true]; omega
/-- The slice u is valid behind the slices p. -/
def okAt (J : List Job) (S : List Shift) (p : List Slice) (u : Slice) : Prop :=
  ∃ x ∈ J, x.id = u.job ∧ u.frm < u.to ∧ x.rel ≤ u.frm ∧ (∃ s ∈ S, s.frm ≤ u.frm ∧ u.to ≤ s.to) ∧ (∀ v ∈ p.getLast?, v.to ≤ u.frm) ∧ ran x.id (p ++ [u]) ≤ x.min
/-- What Check returns. -/
def Chk (J : List Job) (S : List Shift) (a : List Slice) (at_ e : Int) : Prop :=
  ((∀ i (h : i < a.length), okAt J S (a.take i) a[i]) ∧ at_ = 0 ∧ e = 0) ∨
  ∃ (i : Nat) (h : i < a.length), (∀ k (hk : k < i), okAt J S (a.take k) a[k]) ∧ ¬ okAt J S (a.take i) a[i] ∧ at_ = i ∧ e = 302
theorem Chk.unique {J : List Job} {S : List Shift} {a : List Slice} {m e n f : Int} (h : Chk J S a m e) (h' : Chk J S a n f) : m = n ∧ e = f := by
  rcases h with ⟨h1, h2, h3⟩ | ⟨i, hi, h1, h2, h3, h4⟩ <;> rcases h' with ⟨k1, k2, k3⟩ | ⟨j, hj, k1, k2, k3, k4⟩
  · omega
  · exact absurd (h1 j hj) k2
  · exact absurd (k1 i hi) h2
  · rcases Nat.lt_trichotomy i j with h | h | h
    · exact absurd (k1 i h) h2
    · subst h; omega
    · exact absurd (h1 j h) k2
/-- A valid schedule. -/
def Sched (J : List Job) (S : List Shift) (a : List Slice) : Prop := ∀ i (h : i < a.length), okAt J S (a.take i) a[i]
theorem Sched.init {J : List Job} {S : List Shift} {a : List Slice} {u : Slice} (h : Sched J S (a ++ [u])) : Sched J S a ∧ okAt J S a u := by
  constructor
  · intro i hi
    have := h i (by simp; omega)
    rw [List.take_append_of_le_length (by omega), List.getElem_append_left hi] at this
    exact this
  · have := h a.length (by simp)
    rw [List.take_append_of_le_length (Nat.le_refl _), List.take_length] at this
    simpa using this
theorem Sched.snoc {J : List Job} {S : List Shift} {a : List Slice} {u : Slice} (h : Sched J S a) (hu : okAt J S a u) : Sched J S (a ++ [u]) := by
  intro i hi
  by_cases hc : i < a.length
  · rw [List.take_append_of_le_length (by omega), List.getElem_append_left hc]
    exact h i hc
  · obtain rfl : i = a.length := by simp at hi; omega
    rw [List.take_append_of_le_length (Nat.le_refl _), List.take_length]
    simpa using hu
theorem Sched.ord {J : List Job} {S : List Shift} (hJ : VJ J) (hS : VS S) : ∀ a : List Slice, Sched J S a → Ord a ∧ (∀ u ∈ a, ∀ v ∈ a.getLast?, u.to ≤ v.to) := by
  apply snoc_ind
  · intro _; exact ⟨⟨fun _ h => absurd h (by simp), List.Pairwise.nil⟩, fun _ h => absurd h (by simp)⟩
  · intro a u ih h
    obtain ⟨h1, x, hx, k1, k2, k3, ⟨s, hs, k4, k5⟩, k6, k7⟩ := h.init
    obtain ⟨o, ol⟩ := ih h1
    have hlast : ∀ v ∈ a, v.to ≤ u.frm := by
      intro v hv
      rcases List.eq_nil_or_concat a with rfl | ⟨b, w, rfl⟩
      · cases hv
      · have := ol v hv w (by simp)
        have := k6 w (by simp)
        omega
    refine ⟨⟨?_, ?_⟩, ?_⟩
    · intro v hv
      rcases List.mem_append.1 hv with hv | hv
      · exact o.pos v hv
      · simp at hv; subst hv
        have := (hS.pos s hs).1
        have := (hJ.pos x hx).1
        omega
    · rw [List.pairwise_append]
      refine ⟨o.ord, by simp, ?_⟩
      intro v hv w hw
      simp at hw; subst hw
      exact hlast v hv
    · intro v hv w hw
      simp at hw; subst hw
      rcases List.mem_append.1 hv with hv | hv
      · have := hlast v hv; omega
      · simp at hv; subst hv; exact Int.le_refl _
theorem Sched.mem {J : List Job} {S : List Shift} {a : List Slice} (h : Sched J S a) {u : Slice} (hu : u ∈ a) : ∃ x ∈ J, x.id = u.job ∧ u.frm < u.to ∧ x.rel ≤ u.frm ∧ ∃ s ∈ S, s.frm ≤ u.frm ∧ u.to ≤ s.to := by
  obtain ⟨i, hi, rfl⟩ := List.getElem_of_mem hu
  obtain ⟨x, hx, k1, k2, k3, k4, _, _⟩ := h i hi
  exact ⟨x, hx, k1, k2, k3, k4⟩
theorem Sched.ran_le {J : List Job} {S : List Shift} (hJ : VJ J) {x : Job} (hx : x ∈ J) : ∀ a : List Slice, Sched J S a → ran x.id a ≤ x.min := by
  apply snoc_ind
  · intro _; have := (hJ.pos x hx).2.2; simp only [ran]; omega
  · intro a u ih h
    obtain ⟨h1, y, hy, k1, k2, k3, k4, k6, k7⟩ := h.init
    by_cases hc : u.job = x.id
    · have := hJ.inj x hx y hy (by omega)
      subst this
      exact k7
    · rw [ran_append, ran, if_neg hc, ran]
      have := ih h1
      omega
theorem cnt_le_ran {id : Int} (hid : 1 ≤ id) {a : List Slice} (h : Ord a) (t : Int) : cnt (isId (runs a) id) 0 t ≤ ran id a := by
  obtain ⟨B, hB0, hB⟩ : ∃ B : Int, 0 ≤ B ∧ ∀ u ∈ a, u.to ≤ B := by
    clear h
    induction a with
    | nil => exact ⟨0, Int.le_refl 0, fun _ h => absurd h (by simp)⟩
    | cons u a ih =>
      obtain ⟨B, h1, h2⟩ := ih
      refine ⟨max B u.to, by omega, fun v hv => ?_⟩
      rcases List.mem_cons.1 hv with rfl | hv
      · omega
      · have := h2 v hv; omega
  rw [← ran_cnt hid a h (max t B) (by omega) (fun u hu => by have := hB u hu; omega)]
  exact cnt_mono_right _ (by omega)
theorem Sched.isV {J : List Job} {S : List Shift} (hJ : VJ J) (hS : VS S) {a : List Slice} (h : Sched J S a) : IsV J S (runs a) := by
  have ho := (Sched.ord hJ hS a h).1
  refine ⟨?_, ?_, ?_, ?_⟩
  · intro t ht
    obtain ⟨u, hu, k1, k2, k3⟩ := runs_some ht
    obtain ⟨x, hx, l1, l2, l3, s, hs, l4, l5⟩ := h.mem hu
    exact inS_iff.2 ⟨s, hs, by omega, by omega⟩
  · intro t x hx he
    have := (hJ.pos x hx).1
    obtain ⟨u, hu, k1, k2, k3⟩ := runs_some (a := a) (t := t) (by omega)
    obtain ⟨y, hy, l1, l2, l3, _⟩ := h.mem hu
    have := hJ.inj x hx y hy (by omega)
    subst this; omega
  · intro x hx t
    exact Int.le_trans (cnt_le_ran (hJ.pos x hx).1 ho t) (Sched.ran_le hJ hx a h)
  · intro t ht
    obtain ⟨u, hu, k1, k2, k3⟩ := runs_some ht
    obtain ⟨x, hx, l1, _⟩ := h.mem hu
    exact ⟨x, hx, by omega⟩
theorem IsV.ran_le {J : List Job} {S : List Shift} (hJ : VJ J) {a : List Slice} (hv : IsV J S (runs a)) (ho : Ord a) {x : Job} (hx : x ∈ J) : ran x.id a ≤ x.min := by
  obtain ⟨B, hB0, hB⟩ : ∃ B : Int, 0 ≤ B ∧ ∀ u ∈ a, u.to ≤ B := by
    clear hv ho
    induction a with
    | nil => exact ⟨0, Int.le_refl 0, fun _ h => absurd h (by simp)⟩
    | cons u a ih =>
      obtain ⟨B, h1, h2⟩ := ih
      refine ⟨max B u.to, by omega, fun v hv => ?_⟩
      rcases List.mem_cons.1 hv with rfl | hv
      · omega
      · have := h2 v hv; omega
  rw [← ran_cnt (hJ.pos x hx).1 a ho B hB0 hB]
  exact hv.most x hx B
theorem ran_nonneg {id : Int} : ∀ {a : List Slice}, (∀ u ∈ a, u.frm < u.to) → 0 ≤ ran id a := by
  intro a
  induction a with
  | nil => intro _; exact Int.le_refl _
  | cons u a ih =>
    intro h
    have := ih (fun v hv => h v (by simp [hv]))
    have := h u (by simp)
    rw [ran]; split <;> omega
/-- What Make returns is a valid schedule. -/
theorem Made.sched {J : List Job} {S : List Shift} (hJ : VJ J) (hS : VS S) {a : List Slice} (h : Made J S a) : Sched J S a := by
  have hV := h.ise.isV hJ
  have ho := h.wf.toOrd hS
  intro i hi
  have hm := List.getElem_mem hi
  have pu := h.wf.pos _ hm
  have hr := runs_mem ho.ord hm (Int.le_refl _) pu.2
  obtain ⟨x, hx, hxe⟩ := hV.job a[i].frm (by omega)
  refine ⟨x, hx, by omega, pu.2, hV.rel _ x hx hxe, h.wf.ins _ hm, ?_, ?_⟩
  · intro v hv
    rw [List.getLast?_eq_getElem?] at hv
    obtain ⟨hk, hv⟩ := List.getElem?_eq_some_iff.1 (Option.mem_def.1 hv)
    simp only [List.getElem_take] at hv
    subst hv
    have hl : (List.take i a).length = min i a.length := List.length_take
    exact List.pairwise_iff_getElem.1 ho.ord _ i (by omega) hi (by omega)
  · have e : a = (a.take i ++ [a[i]]) ++ a.drop (i + 1) := by
      rw [List.append_assoc, List.singleton_append, ← List.drop_eq_getElem_cons hi, List.take_append_drop]
    have k := hV.ran_le hJ ho hx
    rw [e, ran_append] at k
    have := ran_nonneg (id := x.id) (a := a.drop (i + 1)) (fun u hu => (h.wf.pos u (List.mem_of_mem_drop hu)).2)
    omega
/-- With a job fewer, or whatever: what is not overfull does not become so. -/
theorem need_sub {J K : List Job} (hpos : ∀ x ∈ J, 0 ≤ x.min) (h : K.Sublist J) (a b : Int) : need K a b ≤ need J a b := by
  unfold need inside tot
  induction h with
  | slnil => exact Int.le_refl _
  | cons x _ ih =>
    have ih := ih (fun y hy => hpos y (by simp [hy]))
    have := hpos x (by simp)
    rw [List.filter_cons]
    split
    · rw [List.map_cons, List.sum_cons]; omega
    · exact ih
  | cons_cons x _ ih =>
    have ih := ih (fun y hy => hpos y (by simp [hy]))
    rw [List.filter_cons, List.filter_cons]
    split
    · rw [List.map_cons, List.sum_cons, List.map_cons, List.sum_cons]; omega
    · exact ih
end Go.Proofs.Ytbnjdlafnejanaa.Sh
namespace Go.Proofs.Ytbnjdlafnejanaa.Sh
theorem perm_of_ids : ∀ {J T : List Job}, J.Pairwise (fun x y => x.id ≠ y.id) → T.Pairwise (fun x y => x.id ≠ y.id) → (∀ x, x ∈ J ↔ x ∈ T) → J.Perm T := by
  intro J
  induction J with
  | nil =>
    intro T _ _ h
    cases T with
    | nil => exact List.Perm.nil
    | cons x T => exact absurd ((h x).2 (by simp)) (by simp)
  | cons x J ih =>
    intro T hJ hT h
    obtain ⟨T1, T2, rfl⟩ := List.append_of_mem ((h x).1 (by simp))
    obtain ⟨j1, j2⟩ := List.pairwise_cons.1 hJ
    have hp : (T1 ++ x :: T2).Perm (x :: (T1 ++ T2)) := List.perm_middle
    have hT' := (hp.pairwise_iff (R := fun x y : Job => x.id ≠ y.id) (fun h e => h e.symm)).1 hT
    obtain ⟨t1, t2⟩ := List.pairwise_cons.1 hT'
    refine List.Perm.trans (List.Perm.cons x (ih j2 t2 (fun y => ?_))) hp.symm
    constructor
    · intro hy
      have := hp.mem_iff.1 ((h y).1 (by simp [hy]))
      rcases List.mem_cons.1 this with rfl | hh
      · exact absurd rfl (j1 y hy)
      · exact hh
    · intro hy
      have := (h y).2 (hp.mem_iff.2 (by simp [hy]))
      rcases List.mem_cons.1 this with rfl | hh
      · exact absurd rfl (t1 y hy)
      · exact hh
theorem tot_perm {J T : List Job} (h : J.Perm T) : tot J = tot T := by
  unfold tot
  induction h with
  | nil => rfl
  | cons x _ ih => simp only [List.map_cons, List.sum_cons, ih]
  | swap x y l => simp only [List.map_cons, List.sum_cons]; omega
  | trans _ _ h1 h2 => exact h1.trans h2
theorem need_perm {J T : List Job} (h : J.Perm T) (a b : Int) : need J a b = need T a b := tot_perm (h.filter _)
theorem VJ.perm {J T : List Job} (hJ : VJ J) (h : J.Perm T) : VJ T :=
  ⟨fun x hx => hJ.pos x (h.mem_iff.2 hx), (h.pairwise_iff (R := fun x y : Job => x.id ≠ y.id) (fun h e => h e.symm)).1 hJ.nod⟩
theorem Made.perm {J T : List Job} {S : List Shift} {a : List Slice} (h : Made J S a) (hp : J.Perm T) : Made T S a :=
  ⟨Av.mem_congr (fun _ => hp.mem_iff) h.ise, h.wf⟩
def Job.mv (d : Int) (x : Job) : Job := ⟨x.id, x.rel + d, x.due + d, x.min⟩
def Shift.mv (d : Int) (s : Shift) : Shift := ⟨s.frm + d, s.to + d⟩
def Slice.mv (d : Int) (u : Slice) : Slice := ⟨u.job, u.frm + d, u.to + d⟩
theorem inS_mv (S : List Shift) (d t : Int) : inS (S.map (Shift.mv d)) t = inS S (t - d) := by
  rw [Bool.eq_iff_iff, inS_iff, inS_iff]
  constructor
  · rintro ⟨s, hs, h1, h2⟩
    obtain ⟨r, hr, rfl⟩ := List.mem_map.1 hs
    simp only [Shift.mv] at h1 h2
    exact ⟨r, hr, by omega, by omega⟩
  · rintro ⟨s, hs, h1, h2⟩
    exact ⟨s.mv d, List.mem_map.2 ⟨s, hs, rfl⟩, by simp only [Shift.mv]; omega, by simp only [Shift.mv]; omega⟩
theorem runs_mv (a : List Slice) (d t : Int) : runs (a.map (Slice.mv d)) t = runs a (t - d) := by
  induction a with
  | nil => rfl
  | cons u a ih =>
    simp only [List.map_cons, runs, Slice.mv]
    by_cases h : u.frm + d ≤ t ∧ t < u.to + d
    · rw [if_pos h, if_pos (by omega)]
    · rw [if_neg h, if_neg (by omega)]; exact ih
theorem VJ.mv {J : List Job} (h : VJ J) {d : Int} (hd : 0 ≤ d) : VJ (J.map (Job.mv d)) := by
  refine ⟨?_, ?_⟩
  · intro x hx
    obtain ⟨y, hy, rfl⟩ := List.mem_map.1 hx
    have := h.pos y hy
    simp only [Job.mv]; omega
  · rw [List.pairwise_map]; exact h.nod
theorem VS.mv {S : List Shift} (h : VS S) {d : Int} (hd : 0 ≤ d) : VS (S.map (Shift.mv d)) := by
  refine ⟨?_, ?_⟩
  · intro x hx
    obtain ⟨y, hy, rfl⟩ := List.mem_map.1 hx
    have := h.pos y hy
    simp only [Shift.mv]; omega
  · rw [List.pairwise_map]; exact h.ord.imp (fun h => by simp only [Shift.mv]; omega)
theorem cnt_mv {f : Int → Int} {id d : Int} (hd : 0 ≤ d) (h0 : ∀ t, t < 0 → f t ≠ id) (t : Int) : cnt (isId (fun u => f (u - d)) id) 0 t = cnt (isId f id) 0 (t - d) := by
  by_cases ht : 0 ≤ t
  · rw [← cnt_shift (isId f id) d, show t - d + d = t by omega, show (0 : Int) + d = d by omega]
    by_cases hdt : d ≤ t
    · rw [cnt_split (isId (fun u => f (u - d)) id) hd t hdt, cnt_false (p := isId (fun u => f (u - d)) id) (a := 0) (b := d)]
      · exact Int.zero_add _
      · intro u _ h2
        exact decide_eq_false (h0 (u - d) (by omega))
    · rw [cnt_nil (fun t => isId f id (t - d)) (a := d) (b := t) (by omega)]
      apply cnt_false
      intro u _ h2
      exact decide_eq_false (h0 (u - d) (by omega))
  · rw [cnt_nil _ (by omega), cnt_nil _ (by omega)]
theorem Made.mv {J : List Job} {S : List Shift} (hJ : VJ J) (hS : VS S) {a : List Slice} (h : Made J S a) {d : Int} (hd : 0 ≤ d) :
    Made (J.map (Job.mv d)) (S.map (Shift.mv d)) (a.map (Slice.mv d)) := by
  have hr : runs (a.map (Slice.mv d)) = fun t => runs a (t - d) := funext (runs_mv a d)
  have hneg : ∀ t, t < 0 → runs a t = 0 := fun t ht => h.ise.out t (inS_neg hS ht)
  have hav : ∀ y ∈ J, ∀ t, Av (fun t => runs a (t - d)) (y.mv d) t ↔ Av (runs a) y (t - d) := by
    intro y hy t
    unfold Av
    have hid := (hJ.pos y hy).1
    simp only [Job.mv]
    rw [cnt_mv hd (fun t ht => by rw [hneg t ht]; omega)]
    constructor <;> rintro ⟨h1, h2⟩ <;> exact ⟨by omega, h2⟩
  refine ⟨⟨?_, ?_, ?_⟩, ⟨?_, ?_, ?_, ?_⟩⟩
  · intro t ht
    rw [hr]; rw [inS_mv] at ht
    exact h.ise.out _ ht
  · intro t ht
    rw [hr] at ht ⊢
    exact h.ise.idle _ (fun y hy ha => ht (y.mv d) (List.mem_map.2 ⟨y, hy, rfl⟩) ((hav y hy t).2 ha))
  · intro t x hi hb
    rw [hr] at hb ⊢
    rw [inS_mv] at hi
    obtain ⟨h1, h2, h3⟩ := hb
    obtain ⟨y, hy, rfl⟩ := List.mem_map.1 h1
    refine h.ise.run _ y hi ⟨hy, (hav y hy t).1 h2, ?_⟩
    intro z hz ha
    rcases h3 (z.mv d) (List.mem_map.2 ⟨z, hz, rfl⟩) ((hav z hz t).2 ha) with e | e
    · left
      exact hJ.inj z hz y hy (by have := congrArg Job.id e; exact this)
    · right
      unfold Bf at e ⊢
      simp only [Job.mv] at e; omega
  · intro u hu
    obtain ⟨v, hv, rfl⟩ := List.mem_map.1 hu
    have := h.wf.pos v hv
    simp only [Slice.mv]; omega
  · rw [List.pairwise_map]; exact h.wf.ord.imp (fun h => by simp only [Slice.mv]; omega)
  · intro u hu
    obtain ⟨v, hv, rfl⟩ := List.mem_map.1 hu
    obtain ⟨s, hs, h1, h2⟩ := h.wf.ins v hv
    exact ⟨s.mv d, List.mem_map.2 ⟨s, hs, rfl⟩, by simp only [Slice.mv, Shift.mv]; omega, by simp only [Slice.mv, Shift.mv]; omega⟩
  · intro p u v q e h1 h2 s hs hc
    obtain ⟨r, hrr, rfl⟩ := List.mem_map.1 hs
    obtain ⟨p', l', rfl, rfl, e2⟩ := List.map_eq_append_iff.1 e
    obtain ⟨u', l'', rfl, rfl, e3⟩ := List.map_eq_cons_iff.1 e2
    obtain ⟨v', q', rfl, rfl, rfl⟩ := List.map_eq_cons_iff.1 e3
    simp only [Slice.mv, Shift.mv] at h1 h2 hc
    exact h.wf.sep p' u' v' q' rfl h1 (by omega) r hrr ⟨by omega, by omega⟩
theorem need_mv (J : List Job) (d a b : Int) : need (J.map (Job.mv d)) (a + d) (b + d) = need J a b := by
  unfold need inside tot
  induction J with
  | nil => rfl
  | cons x J ih =>
    have e : (decide (a + d ≤ (x.mv d).rel) && decide ((x.mv d).due ≤ b + d)) = (decide (a ≤ x.rel) && decide (x.due ≤ b)) := by
      rw [Bool.eq_iff_iff]; simp [Job.mv]
    rw [List.map_cons, List.filter_cons, List.filter_cons, e]
    split
    · simp only [List.map_cons, List.sum_cons, ih]; rfl
    · exact ih
theorem supply_mv (S : List Shift) (d a b : Int) : supply (S.map (Shift.mv d)) (a + d) (b + d) = supply S a b := by
  unfold supply
  rw [List.map_map]
  congr 1
  apply List.map_congr_left
  intro s _
  simp only [Function.comp, Shift.mv]; omega
/-- If all jobs end, a shift behind the others changes nothing. -/
theorem Made.more {J : List Job} {S : List Shift} (hJ : VJ J) {a : List Slice} (h : Made J S a) {s : Shift} (hall : ∀ x ∈ J, ¬ IsLate (runs a) x)
    (hS' : VS (S ++ [s])) : Made J (S ++ [s]) a := by
  have hbef : ∀ r ∈ S, r.to ≤ s.frm := fun r hr => (List.pairwise_append.1 hS'.ord).2.2 r hr s (by simp)
  have hV := h.ise.isV hJ
  have hout : ∀ t, s.frm ≤ t → runs a t = 0 := by
    intro t ht
    apply h.ise.out
    rw [Bool.eq_false_iff]; intro hc
    obtain ⟨r, hr, h1, h2⟩ := inS_iff.1 hc
    have := hbef r hr; omega
  have hs0 := (hS'.pos s (by simp)).1
  have hfull : ∀ x ∈ J, ∀ t, s.frm ≤ t → ¬ Av (runs a) x t := by
    intro x hx t ht ha
    have h1 := hall x hx
    unfold IsLate at h1
    have h2 := ha.2
    have hid := (hJ.pos x hx).1
    have e1 : cnt (isId (runs a) x.id) 0 t = cnt (isId (runs a) x.id) 0 s.frm := by
      rw [cnt_split _ hs0 t ht, cnt_false (p := isId (runs a) x.id) (a := s.frm) (b := t)]
      · omega
      · intro u k1 _; exact decide_eq_false (by rw [hout u k1]; omega)
    have e2 : cnt (isId (runs a) x.id) 0 x.due ≤ cnt (isId (runs a) x.id) 0 s.frm := by
      by_cases hc : x.due ≤ s.frm
      · exact cnt_mono_right _ hc
      · rw [cnt_split _ hs0 x.due (by omega), cnt_false (p := isId (runs a) x.id) (a := s.frm) (b := x.due)]
        · omega
        · intro u k1 _; exact decide_eq_false (by rw [hout u k1]; omega)
    omega
  have hinS : ∀ t, t < s.frm → inS (S ++ [s]) t = inS S t := by
    intro t ht
    rw [Bool.eq_iff_iff, inS_append]
    constructor
    · rintro (k | k)
      · exact k
      · obtain ⟨r, hr, h1, _⟩ := inS_iff.1 k
        simp at hr; subst hr; omega
    · exact .inl
  refine ⟨⟨?_, h.ise.idle, ?_⟩, ⟨h.wf.pos, h.wf.ord, ?_, ?_⟩⟩
  · intro t ht
    by_cases hc : t < s.frm
    · rw [hinS t hc] at ht; exact h.ise.out t ht
    · exact hout t (by omega)
  · intro t x hi hb
    by_cases hc : t < s.frm
    · rw [hinS t hc] at hi; exact h.ise.run t x hi hb
    · exact absurd hb.2.1 (hfull x hb.1 t (by omega))
  · intro u hu
    obtain ⟨r, hr, k⟩ := h.wf.ins u hu
    exact ⟨r, by simp [hr], k⟩
  · intro p u v q e h1 h2 r hr hc
    rcases List.mem_append.1 hr with hr | hr
    · exact h.wf.sep p u v q e h1 h2 r hr hc
    · simp at hr; subst hr
      obtain ⟨r', hr', k1, k2⟩ := h.wf.ins v (by rw [e]; simp)
      have := hbef r' hr'
      have := (h.wf.pos v (by rw [e]; simp)).2
      omega
/-- Without one of the jobs nothing that was in time is late. -/
theorem Made.fewer {J K : List Job} {S : List Shift} (hJ : VJ J) (hS : VS S) {a b : List Slice} (h : Made J S a) (hK : VJ K) (hsub : K.Sublist J) (hb : Made K S b)
    (hall : ∀ x ∈ J, ¬ IsLate (runs a) x) : ∀ x ∈ K, ¬ IsLate (runs b) x := by
  intro x hx hl
  obtain ⟨y, hy, ho⟩ := hb.ise.over_of_late hK hS hx hl
  have hn := need_sub (fun z hz => by have := (hJ.pos z hz).2.2; omega) hsub y.rel x.due
  have ho' : Over J S y.rel x.due := by unfold Over at ho ⊢; omega
  obtain ⟨z, hz, hlz⟩ := (h.ise.isV hJ).late_of_over hJ (hK.pos y hy).2.1 ho'
  exact hall z hz hlz
end Go.Proofs.Ytbnjdlafnejanaa.Sh
namespace Go.Proofs.Ytbnjdlafnejanaa.Sh
def insJob (x : Job) : List Job → List Job
  | [] => [x]
  | y :: l => if Bf x y then x :: y :: l else y :: insJob x l
def sortJobs : List Job → List Job
  | [] => []
  | x :: l => insJob x (sortJobs l)
def insSl (u : Slice) : List Slice → List Slice
  | [] => [u]
  | v :: l => if u.frm ≤ v.frm then u :: v :: l else v :: insSl u l
def sortSl : List Slice → List Slice
  | [] => []
  | u :: l => insSl u (sortSl l)
def placeAll : List Job → List Shift → List Slice → List Slice
  | [], _, out => out
  | x :: l, F, out => placeAll l (place x.id x.rel x.min F).2 (out ++ (place x.id x.rel x.min F).1)
/-- The schedule. -/
def makeX (J : List Job) (S : List Shift) : List Slice := sortSl (placeAll (sortJobs J) S [])
theorem insJob_perm (x : Job) (l : List Job) : (insJob x l).Perm (x :: l) := by
  induction l with
  | nil => exact List.Perm.refl _
  | cons y l ih =>
    unfold insJob
    split
    · exact List.Perm.refl _
    · exact (List.Perm.cons y ih).trans (List.Perm.swap x y l)
theorem sortJobs_perm (l : List Job) : (sortJobs l).Perm l := by
  induction l with
  | nil => exact List.Perm.refl _
  | cons x l ih => exact (insJob_perm x _).trans (List.Perm.cons x ih)
theorem insSl_perm (x : Slice) (l : List Slice) : (insSl x l).Perm (x :: l) := by
  induction l with
  | nil => exact List.Perm.refl _
  | cons y l ih =>
    unfold insSl
    split
    · exact List.Perm.refl _
    · exact (List.Perm.cons y ih).trans (List.Perm.swap x y l)
theorem sortSl_perm (l : List Slice) : (sortSl l).Perm l := by
  induction l with
  | nil => exact List.Perm.refl _
  | cons x l ih => exact (insSl_perm x _).trans (List.Perm.cons x ih)
theorem insSl_ord (u : Slice) (l : List Slice) (h : l.Pairwise (fun a b => a.frm ≤ b.frm)) : (insSl u l).Pairwise (fun a b => a.frm ≤ b.frm) := by
  induction l with
  | nil => simp [insSl]
  | cons v l ih =>
    obtain ⟨h1, h2⟩ := List.pairwise_cons.1 h
    unfold insSl
    split
    · rename_i hc
      refine List.pairwise_cons.2 ⟨fun w hw => ?_, h⟩
      rcases List.mem_cons.1 hw with rfl | hw
      · exact hc
      · exact Int.le_trans hc (h1 w hw)
    · rename_i hc
      refine List.pairwise_cons.2 ⟨fun w hw => ?_, ih h2⟩
      rcases List.mem_cons.1 ((insSl_perm u l).mem_iff.1 hw) with rfl | hw
      · omega
      · exact h1 w hw
theorem sortSl_ord (l : List Slice) : (sortSl l).Pairwise (fun a b => a.frm ≤ b.frm) := by
  induction l with
  | nil => exact List.Pairwise.nil
  | cons u l ih => exact insSl_ord u _ ih
theorem bf_trans {x y z : Job} (h : Bf x y) (k : Bf y z) : Bf x z := by unfold Bf at *; omega
theorem bf_total {x y : Job} (h : x.id ≠ y.id) (k : ¬ Bf x y) : Bf y x := by unfold Bf at *; omega
theorem insJob_ord (x : Job) (l : List Job) (hn : ∀ y ∈ l, x.id ≠ y.id) (h : l.Pairwise Bf) : (insJob x l).Pairwise Bf := by
  induction l with
  | nil => simp [insJob]
  | cons v l ih =>
    obtain ⟨h1, h2⟩ := List.pairwise_cons.1 h
    unfold insJob
    split
    · rename_i hc
      refine List.pairwise_cons.2 ⟨fun w hw => ?_, h⟩
      rcases List.mem_cons.1 hw with rfl | hw
      · exact hc
      · exact bf_trans hc (h1 w hw)
    · rename_i hc
      refine List.pairwise_cons.2 ⟨fun w hw => ?_, ih (fun y hy => hn y (by simp [hy])) h2⟩
      rcases List.mem_cons.1 ((insJob_perm x l).mem_iff.1 hw) with rfl | hw
      · exact bf_total (hn v (by simp)) hc
      · exact h1 w hw
theorem sortJobs_ord (l : List Job) (h : l.Pairwise (fun x y => x.id ≠ y.id)) : (sortJobs l).Pairwise Bf := by
  induction l with
  | nil => exact List.Pairwise.nil
  | cons x l ih =>
    obtain ⟨h1, h2⟩ := List.pairwise_cons.1 h
    exact insJob_ord x _ (fun y hy => h1 y ((sortJobs_perm l).mem_iff.1 hy)) (ih h2)
theorem bf_irrefl (x : Job) : ¬ Bf x x := by unfold Bf; omega
theorem placeAll_ok {J : List Job} {S : List Shift} (hJ : VJ J) : ∀ (L K : List Job) (F : List Shift) (out : List Slice), RInv J S K F out → L.Pairwise Bf →
    (∀ x ∈ L, x ∈ J ∧ x ∉ K) → (∀ z ∈ J, z ∉ K → z ∈ L) → ∃ K' F', RInv J S K' F' (placeAll L F out) ∧ ∀ x ∈ J, x ∈ K' := by
  intro L
  induction L with
  | nil =>
    intro K F out h _ _ hall
    exact ⟨K, F, h, fun x hx => Classical.byContradiction fun hc => absurd (hall x hx hc) (by simp)⟩
  | cons x L ih =>
    intro K F out h ho hL hall
    obtain ⟨o1, o2⟩ := List.pairwise_cons.1 ho
    obtain ⟨hx, hn⟩ := hL x (by simp)
    refine ih (x :: K) _ _ (h.step hJ hx hn (fun z hz hzn => ?_)) o2 (fun y hy => ⟨(hL y (by simp [hy])).1, ?_⟩) (fun z hz hzn => ?_)
    · rcases List.mem_cons.1 (hall z hz hzn) with h1 | h1
      · exact .inl h1
      · exact .inr (o1 z h1)
    · intro hc
      rcases List.mem_cons.1 hc with rfl | hc
      · exact bf_irrefl _ (o1 _ hy)
      · exact (hL y (by simp [hy])).2 hc
    · rcases List.mem_cons.1 (hall z hz (fun hc => hzn (by simp [hc]))) with rfl | h1
      · exact absurd (by simp) hzn
      · exact h1
theorem made_makeX {J : List Job} {S : List Shift} (hJ : VJ J) (hS : VS S) : Made J S (makeX J S) := by
  have hp := sortJobs_perm J
  obtain ⟨K', F', h, hK⟩ := placeAll_ok hJ (sortJobs J) [] S [] (RInv.start J hS) (sortJobs_ord J hJ.nod) (fun x hx => ⟨hp.mem_iff.1 hx, by simp⟩) (fun z hz _ => hp.mem_iff.2 hz)
  exact h.done hK (sortSl_perm _) (sortSl_ord _)
theorem Made.eq {J : List Job} {S : List Shift} (hJ : VJ J) (hS : VS S) {a : List Slice} (h : Made J S a) : a = makeX J S := h.unique hJ hS (made_makeX hJ hS)
/-- A job that is not valid, or has the ID of one of p. -/
def badJob (p : List Job) (x : Job) : Bool :=
  (p.any fun y => decide (y.id = x.id)) || decide (x.id < 1) || decide (999999 < x.id) || decide (min x.rel x.due < 0) || decide (1051898399 < max x.rel x.due) || decide (x.min < 1) || decide (100000 < x.min)
/-- The index of the first bad job, -1 if there is none; p: those ahead. -/
def firstJob (p : List Job) : List Job → Int → Int
  | [], _ => -1
  | x :: l, i => if badJob p x then i else firstJob (p ++ [x]) l (i + 1)
/-- The same of shifts; e: the end of the one ahead. -/
def firstShift (e : Int) : List Shift → Int → Int
  | [], _ => -1
  | s :: l, i => if s.frm < e ∨ s.to ≤ s.frm ∨ 1051898399 < s.to then i else firstShift s.to l (i + 1)
/-- The first error of jobs and shifts, with its index. -/
def validX (J : List Job) (S : List Shift) : Int × Int :=
  if 200 < J.length ∨ 200 < S.length then (0, 5)
  else if 0 ≤ firstJob [] J 0 then (firstJob [] J 0, 300)
  else if 0 ≤ firstShift 0 S 0 then (firstShift 0 S 0, 301)
  else (0, 0)
theorem firstJob_ge (p l : List Job) (i : Int) (h0 : 0 ≤ i) : firstJob p l i = -1 ∨ i ≤ firstJob p l i := by
  induction l generalizing p i with
  | nil => exact .inl rfl
  | cons x l ih =>
    unfold firstJob
    split
    · exact .inr (Int.le_refl _)
    · rcases ih (p ++ [x]) (i + 1) (by omega) with h | h
      · exact .inl h
      · exact .inr (by omega)
theorem firstShift_ge (e : Int) (l : List Shift) (i : Int) (h0 : 0 ≤ i) : firstShift e l i = -1 ∨ i ≤ firstShift e l i := by
  induction l generalizing e i with
  | nil => exact .inl rfl
  | cons x l ih =>
    unfold firstShift
    split
    · exact .inr (Int.le_refl _)
    · rcases ih x.to (i + 1) (by omega) with h | h
      · exact .inl h
      · exact .inr (by omega)
/-- Valid jobs, and their bounds. -/
structure BJ (J : List Job) : Prop where
  vj : VJ J
  bd : ∀ x ∈ J, x.id ≤ 999999 ∧ 0 ≤ x.due ∧ x.rel ≤ 1051898399 ∧ x.due ≤ 1051898399 ∧ x.min ≤ 100000
structure BS (S : List Shift) : Prop where
  vs : VS S
  bd : ∀ s ∈ S, s.to ≤ 1051898399
theorem badJob_false {p : List Job} {x : Job} (h : badJob p x = false) : (∀ y ∈ p, y.id ≠ x.id) ∧ 1 ≤ x.id ∧ x.id ≤ 999999 ∧ 0 ≤ x.rel ∧ 0 ≤ x.due ∧ x.rel ≤ 1051898399 ∧ x.due ≤ 1051898399 ∧ 1 ≤ x.min ∧ x.min ≤ 100000 := by
  simp only [badJob, Bool.or_eq_false_iff, List.any_eq_false, decide_eq_true_eq, decide_eq_false_iff_not] at h
  obtain ⟨⟨⟨⟨⟨⟨h1, h2⟩, h3⟩, h4⟩, h5⟩, h6⟩, h7⟩ := h
  exact ⟨h1, by omega, by omega, by omega, by omega, by omega, by omega, by omega, by omega⟩
theorem badJob_true {p : List Job} {x : Job} (h : (∀ y ∈ p, y.id ≠ x.id) ∧ 1 ≤ x.id ∧ x.id ≤ 999999 ∧ 0 ≤ x.rel ∧ 0 ≤ x.due ∧ x.rel ≤ 1051898399 ∧ x.due ≤ 1051898399 ∧ 1 ≤ x.min ∧ x.min ≤ 100000) : badJob p x = false := by
  obtain ⟨h1, h2⟩ := h
  simp only [badJob, Bool.or_eq_false_iff, List.any_eq_false, decide_eq_true_eq, decide_eq_false_iff_not]
  exact ⟨⟨⟨⟨⟨⟨h1, by omega⟩, by omega⟩, by omega⟩, by omega⟩, by omega⟩, by omega⟩
theorem firstJob_none {p l : List Job} {i : Int} (h0 : 0 ≤ i) (hp : BJ p) (h : firstJob p l i = -1) : BJ (p ++ l) := by
  induction l generalizing p i with
  | nil => simpa using hp
  | cons x l ih =>
    unfold firstJob at h
    split at h
    · omega
    · rename_i hb
      have hb := badJob_false (by simpa using hb)
      have hpx : BJ (p ++ [x]) := by
        refine ⟨⟨fun y hy => ?_, ?_⟩, fun y hy => ?_⟩
        · rcases List.mem_append.1 hy with hy | hy
          · exact hp.vj.pos y hy
          · simp at hy; subst hy; omega
        · rw [List.pairwise_append]
          refine ⟨hp.vj.nod, by simp, fun y hy z hz => ?_⟩
          simp at hz; subst hz
          exact hb.1 y hy
        · rcases List.mem_append.1 hy with hy | hy
          · exact hp.bd y hy
          · simp at hy; subst hy; omega
      have := ih (i := i + 1) (by omega) hpx h
      simpa using this
theorem firstShift_none {p l : List Shift} {e i : Int} (h0 : 0 ≤ i) (hp : BS p) (he : 0 ≤ e) (hpe : ∀ s ∈ p, s.to ≤ e) (h : firstShift e l i = -1) : BS (p ++ l) := by
  induction l generalizing p e i with
  | nil => simpa using hp
  | cons x l ih =>
    unfold firstShift at h
    split at h
    · omega
    · rename_i hb
      have hpx : BS (p ++ [x]) := by
        refine ⟨⟨fun y hy => ?_, ?_⟩, fun y hy => ?_⟩
        · rcases List.mem_append.1 hy with hy | hy
          · exact hp.vs.pos y hy
          · simp at hy; subst hy; omega
        · rw [List.pairwise_append]
          refine ⟨hp.vs.ord, by simp, fun y hy z hz => ?_⟩
          simp at hz; subst hz
          have := hpe y hy; omega
        · rcases List.mem_append.1 hy with hy | hy
          · exact hp.bd y hy
          · simp at hy; subst hy; omega
      have := ih (i := i + 1) (e := x.to) (by omega) hpx (by omega) (fun s hs => by
        rcases List.mem_append.1 hs with hs | hs
        · have := hpe s hs; omega
        · simp at hs; subst hs; omega) h
      simpa using this
theorem validX_ok {J : List Job} {S : List Shift} (h : (validX J S).2 = 0) : BJ J ∧ BS S ∧ J.length ≤ 200 ∧ S.length ≤ 200 := by
  unfold validX at h
  split at h
  · simp at h
  · rename_i hl
    split at h
    · simp at h
    · rename_i h1
      split at h
      · simp at h
      · rename_i h2
        have j1 : firstJob [] J 0 = -1 := by rcases firstJob_ge [] J 0 (Int.le_refl 0) with k | k <;> omega
        have s1 : firstShift 0 S 0 = -1 := by rcases firstShift_ge 0 S 0 (Int.le_refl 0) with k | k <;> omega
        have a := firstJob_none (p := []) (Int.le_refl 0) ⟨⟨fun _ h => absurd h (by simp), List.Pairwise.nil⟩, fun _ h => absurd h (by simp)⟩ j1
        have b := firstShift_none (p := []) (Int.le_refl 0) ⟨⟨fun _ h => absurd h (by simp), List.Pairwise.nil⟩, fun _ h => absurd h (by simp)⟩ (Int.le_refl 0) (fun _ h => absurd h (by simp)) s1
        exact ⟨by simpa using a, by simpa using b, by omega, by omega⟩
theorem firstJob_valid {p l : List Job} {i : Int} (h : BJ (p ++ l)) : firstJob p l i = -1 := by
  induction l generalizing p i with
  | nil => rfl
  | cons x l ih =>
    unfold firstJob
    have hx := h.bd x (by simp)
    have hx2 := h.vj.pos x (by simp)
    have hn := List.pairwise_append.1 h.vj.nod
    rw [badJob_true ⟨fun y hy => hn.2.2 y hy x (by simp), by omega, by omega, by omega, by omega, by omega, by omega, by omega, by omega⟩]
    simp only [Bool.false_eq_true, if_false]
    exact ih (by simpa using h)
theorem firstShift_valid {p l : List Shift} {e i : Int} (h : BS (p ++ l)) (he : ∀ s ∈ l, e ≤ s.frm) : firstShift e l i = -1 := by
  induction l generalizing p e i with
  | nil => rfl
  | cons x l ih =>
    unfold firstShift
    have hx := h.bd x (by simp)
    have hx2 := h.vs.pos x (by simp)
    have hx3 := he x (by simp)
    rw [if_neg (by omega)]
    have ho := (List.pairwise_append.1 h.vs.ord).2.1
    exact ih (p := p ++ [x]) (by simpa using h) (fun s hs => (List.pairwise_cons.1 ho).1 s hs)
theorem validX_of {J : List Job} {S : List Shift} (hJ : BJ J) (hS : BS S) (h1 : J.length ≤ 200) (h2 : S.length ≤ 200) : validX J S = (0, 0) := by
  unfold validX
  rw [if_neg (by omega), firstJob_valid (p := []) (by simpa using hJ), if_neg (by omega), firstShift_valid (p := []) (by simpa using hS) (fun s hs => (hS.vs.pos s hs).1), if_neg (by omega)]
end Go.Proofs.Ytbnjdlafnejanaa.Sh
namespace Go.Proofs.Ytbnjdlafnejanaa.Sh
/-- The slice u is valid behind the slices p. -/
def okB (J : List Job) (S : List Shift) (p : List Slice) (u : Slice) : Bool :=
  J.any fun x => decide (x.id = u.job) && decide (u.frm < u.to) && decide (x.rel ≤ u.frm) && (S.any fun s => decide (s.frm ≤ u.frm) && decide (u.to ≤ s.to)) &&
    (match p.getLast? with | none => true | some v => decide (v.to ≤ u.frm)) && decide (ran x.id (p ++ [u]) ≤ x.min)
theorem okB_iff {J : List Job} {S : List Shift} {p : List Slice} {u : Slice} : okB J S p u = true ↔ okAt J S p u := by
  unfold okB okAt
  rw [List.any_eq_true]
  constructor
  · rintro ⟨x, hx, h⟩
    simp only [Bool.and_eq_true, decide_eq_true_eq, List.any_eq_true] at h
    obtain ⟨⟨⟨⟨⟨h1, h2⟩, h3⟩, s, hs, h4, h5⟩, h6⟩, h7⟩ := h
    refine ⟨x, hx, h1, h2, h3, ⟨s, hs, h4, h5⟩, ?_, h7⟩
    intro v hv
    rw [Option.mem_def.1 hv] at h6
    simpa using h6
  · rintro ⟨x, hx, h1, h2, h3, ⟨s, hs, h4, h5⟩, h6, h7⟩
    refine ⟨x, hx, ?_⟩
    simp only [Bool.and_eq_true, decide_eq_true_eq, List.any_eq_true]
    refine ⟨⟨⟨⟨⟨h1, h2⟩, h3⟩, s, hs, h4, h5⟩, ?_⟩, h7⟩
    cases hp : p.getLast? with
    | none => rfl
    | some v => simpa using h6 v (by rw [hp]; exact Option.mem_some.2 rfl)
/-- The first slice that is not valid. -/
def chkFrom (J : List Job) (S : List Shift) (p : List Slice) : List Slice → Int → Int × Int
  | [], _ => (0, 0)
  | u :: l, i => if okB J S p u then chkFrom J S (p ++ [u]) l (i + 1) else (i, 302)
/-- What Check returns. -/
def checkX (J : List Job) (S : List Shift) (a : List Slice) : Int × Int :=
  if 1000 < a.length then (0, 5) else if (validX J S).2 = 0 then chkFrom J S [] a 0 else validX J S
/-- Slices whose numbers are times. -/
def timed (a : List Slice) : Bool := decide (a.length ≤ 1000000) && a.all fun u => decide (0 ≤ u.frm) && decide (u.frm ≤ 1051898399) && decide (0 ≤ u.to) && decide (u.to ≤ 1051898399)
theorem timed_iff {a : List Slice} : timed a = true ↔ a.length ≤ 1000000 ∧ ∀ u ∈ a, 0 ≤ u.frm ∧ u.frm ≤ 1051898399 ∧ 0 ≤ u.to ∧ u.to ≤ 1051898399 := by
  simp [timed, List.all_eq_true, and_assoc]
end Go.Proofs.Ytbnjdlafnejanaa.Sh
namespace Go.Proofs.Ytbnjdlafnejanaa.Sh
/-- What is told of the first k jobs. -/
structure RAt (J : List Job) (left : List Int) (t to : Int) (k : Nat) (b n : Int) : Prop where
  le : n ≤ to
  lt : t < to → t < n
  rel : ∀ i (h : i < J.length), i < k → J[i].rel ≤ t ∨ n ≤ J[i].rel
  why : n = to ∨ ∃ y ∈ J, n = y.rel
  none : b < 0 → b = -1 ∧ ∀ i (h : i < J.length) (hl : i < left.length), i < k → ¬ (J[i].rel ≤ t ∧ 0 < left[i])
  some : 0 ≤ b → ∃ i : Nat, b = i ∧ i < k ∧ ∃ (h : i < J.length) (hl : i < left.length), J[i].rel ≤ t ∧ 0 < left[i] ∧
    ∀ j (hj : j < J.length) (hjl : j < left.length), j < k → J[j].rel ≤ t → 0 < left[j] → j = i ∨ Bf J[i] J[j]
theorem RAt.start (J : List Job) (left : List Int) (t to : Int) : RAt J left t to 0 (-1) to :=
  ⟨Int.le_refl _, fun h => h, fun _ _ h => absurd h (by omega), .inl rfl, fun _ => ⟨rfl, fun _ _ _ h => absurd h (by omega)⟩, fun h => absurd h (by omega)⟩
theorem RAt.bd {J : List Job} {left : List Int} {t to : Int} {k : Nat} {b n : Int} (h : RAt J left t to k b n) : -1 ≤ b ∧ b < k ∧ b < J.length ∧ b < left.length := by
  by_cases hb : b < 0
  · have := (h.none hb).1; omega
  · obtain ⟨i, h1, h2, h3, h4, _⟩ := h.some (by omega); omega
/-- A job that is released later. -/
theorem RAt.later {J : List Job} {left : List Int} {t to : Int} {k : Nat} {b n : Int} (h : RAt J left t to k b n) (hk : k < J.length) (hr : t < J[k].rel) : RAt J left t to (k + 1) b (min n J[k].rel) := by
  refine ⟨by have := h.le; omega, fun ht => by have := h.lt ht; omega, ?_, ?_, ?_, ?_⟩
  · intro i hi hik
    by_cases e : i = k
    · subst e; right; omega
    · rcases h.rel i hi (by omega) with h1 | h1
      · exact .inl h1
      · right; omega
  · by_cases hc : n ≤ J[k].rel
    · rw [show min n J[k].rel = n by omega]; exact h.why
    · right; exact ⟨J[k], List.getElem_mem hk, by omega⟩
  · intro hb
    refine ⟨(h.none hb).1, fun i hi hl hik hc => ?_⟩
    by_cases e : i = k
    · subst e; omega
    · exact (h.none hb).2 i hi hl (by omega) hc
  · intro hb
    obtain ⟨i, h1, h2, h3, h4, h5, h6, h7⟩ := h.some hb
    refine ⟨i, h1, by omega, h3, h4, h5, h6, fun j hj hjl hjk hr' hl' => ?_⟩
    by_cases e : j = k
    · subst e; omega
    · exact h7 j hj hjl (by omega) hr' hl'
/-- A job that is released, and does not go first, or is done. -/
theorem RAt.same {J : List Job} {left : List Int} {t to : Int} {k : Nat} {b n : Int} (h : RAt J left t to k b n) (hk : k < J.length) (hkl : k < left.length) (hr : J[k].rel ≤ t)
    (hn : left[k] ≤ 0 ∨ ∃ i : Nat, b = i ∧ ∃ hi : i < J.length, Bf J[i] J[k]) : RAt J left t to (k + 1) b n := by
  refine ⟨h.le, h.lt, ?_, h.why, ?_, ?_⟩
  · intro i hi hik
    by_cases e : i = k
    · subst e; exact .inl hr
    · exact h.rel i hi (by omega)
  · intro hb
    refine ⟨(h.none hb).1, fun i hi hl hik hc => ?_⟩
    by_cases e : i = k
    · subst e
      rcases hn with h1 | ⟨j, h1, _⟩ <;> omega
    · exact (h.none hb).2 i hi hl (by omega) hc
  · intro hb
    obtain ⟨i, h1, h2, h3, h4, h5, h6, h7⟩ := h.some hb
    refine ⟨i, h1, by omega, h3, h4, h5, h6, fun j hj hjl hjk hr' hl' => ?_⟩
    by_cases e : j = k
    · subst e
      rcases hn with h8 | ⟨i', h8, hi', h9⟩
      · omega
      · obtain rfl : i = i' := by omega
        exact .inr h9
    · exact h7 j hj hjl (by omega) hr' hl'
/-- A job that goes first. -/
theorem RAt.best {J : List Job} {left : List Int} {t to : Int} {k : Nat} {b n : Int} (h : RAt J left t to k b n) (hk : k < J.length) (hkl : k < left.length) (hr : J[k].rel ≤ t) (hl : 0 < left[k])
    (hb : b < 0 ∨ ∃ i : Nat, b = i ∧ ∃ hi : i < J.length, Bf J[k] J[i]) : RAt J left t to (k + 1) k n := by
  refine ⟨h.le, h.lt, ?_, h.why, fun hc => absurd hc (by omega), fun _ => ⟨k, rfl, by omega, hk, hkl, hr, hl, ?_⟩⟩
  · intro i hi hik
    by_cases e : i = k
    · subst e; exact .inl hr
    · exact h.rel i hi (by omega)
  · intro j hj hjl hjk hr' hl'
    by_cases e : j = k
    · exact .inl e
    · right
      rcases hb with h1 | ⟨i, h1, hi, h2⟩
      · exact absurd ⟨hr', hl'⟩ ((h.none h1).2 j hj hjl (by omega))
      · obtain ⟨i', k1, k2, k3, k4, k5, k6, k7⟩ := h.some (by omega)
        obtain rfl : i = i' := by omega
        rcases k7 j hj hjl (by omega) hr' hl' with rfl | h3
        · exact h2
        · exact bf_trans h2 h3
theorem RAt.told {J : List Job} {left : List Int} {t to : Int} {b n : Int} (h : RAt J left t to J.length b n) : Told J left t to b n := by
  refine ⟨h.le, h.lt, ?_, h.why, ?_, ?_⟩
  · intro y hy
    obtain ⟨i, hi, rfl⟩ := List.getElem_of_mem hy
    exact h.rel i hi hi
  · intro hb
    exact ⟨(h.none hb).1, fun i hi hl => (h.none hb).2 i hi hl hi⟩
  · intro hb
    obtain ⟨i, h1, _, h3, h4, h5, h6, h7⟩ := h.some hb
    exact ⟨i, h1, h3, h4, h5, h6, fun k hk hkl => h7 k hk hkl hk⟩
end Go.Proofs.Ytbnjdlafnejanaa.Sh
namespace Go.Proofs.Ytbnjdlafnejanaa.Sh
/-- Somebody runs. -/
def busy (f : Int → Int) (t : Int) : Bool := !decide (f t = 0)
def lenSum : List Slice → Int
  | [] => 0
  | u :: a => u.to - u.frm + lenSum a
theorem lenSum_append (a b : List Slice) : lenSum (a ++ b) = lenSum a + lenSum b := by
  induction a with
  | nil => simp [lenSum]
  | cons u a ih => simp only [List.cons_append, lenSum, ih]; omega
theorem busy_sum : ∀ a : List Slice, Ord a → ∀ T, 0 ≤ T → (∀ u ∈ a, u.to ≤ T) → cnt (busy (runs a)) 0 T = lenSum a := by
  apply snoc_ind
  · intro _ T _ _
    rw [lenSum]
    apply cnt_false
    intro t _ _
    unfold busy
    rw [decide_eq_true (show runs [] t = 0 from rfl)]; rfl
  · intro a u ih h T hT hle
    obtain ⟨h1, h2⟩ := h.init
    have pu := h.pos u (by simp)
    have hr : runs (a ++ [u]) = upd (runs a) u.frm u.to u.job := by
      funext t
      obtain ⟨j, f, e⟩ := u
      exact runs_snoc h2 t
    have huT := hle u (by simp)
    rw [hr, lenSum_append, ← ih h1 u.frm pu.2.1 h2, lenSum, lenSum]
    rw [cnt_split _ (a := 0) (b := u.frm) pu.2.1 T (by omega), cnt_split _ (a := u.frm) (b := u.to) (by omega) T huT]
    rw [cnt_congr' (p := busy (upd (runs a) u.frm u.to u.job)) (q := busy (runs a)) (a := 0) (b := u.frm), cnt_true (p := busy (upd (runs a) u.frm u.to u.job)) u.to (by omega), cnt_false (p := busy (upd (runs a) u.frm u.to u.job)) (a := u.to) (b := T)]
    · intro t k1 _
      unfold busy upd
      rw [if_neg (by omega), runs_none (fun v hv hc => by have := h2 v hv; omega)]
      rfl
    · intro t k1 k2
      unfold busy upd
      rw [if_pos ⟨k1, k2⟩, decide_eq_false (by omega)]; rfl
    · intro t _ k2
      unfold busy
      rw [upd_below k2]
theorem bound_of (a : List Slice) : ∃ B : Int, 0 ≤ B ∧ ∀ u ∈ a, u.to ≤ B := by
  induction a with
  | nil => exact ⟨0, Int.le_refl 0, fun _ h => absurd h (by simp)⟩
  | cons u a ih =>
    obtain ⟨B, h1, h2⟩ := ih
    refine ⟨max B u.to, by omega, fun v hv => ?_⟩
    rcases List.mem_cons.1 hv with rfl | hv
    · omega
    · have := h2 v hv; omega
/-- The minutes that have been run ahead of t. -/
structure UInv (J : List Job) (f : Int → Int) (t : Int) (left : List Int) (ran : Int) : Prop where
  len : left.length = J.length
  rest : ∀ i (h : i < J.length) (hl : i < left.length), left[i] = J[i].min - cnt (isId f J[i].id) 0 t
  ran : ran = cnt (busy f) 0 t
theorem UInv.start (J : List Job) (f : Int → Int) : UInv J f 0 (J.map Job.min) 0 := by
  refine ⟨by simp, ?_, ?_⟩
  · intro i h hl
    rw [cnt_nil _ (Int.le_refl 0)]; simp
  · rw [cnt_nil _ (Int.le_refl 0)]
theorem UInv.skip {J : List Job} (hJ : VJ J) {f : Int → Int} {t t' : Int} {left : List Int} {ran : Int} (h : UInv J f t left ran) (h0 : 0 ≤ t) (ht : t ≤ t') (hf : ∀ u, t ≤ u → u < t' → f u = 0) : UInv J f t' left ran := by
  refine ⟨h.len, ?_, ?_⟩
  · intro i hi hl
    have hid := (hJ.pos _ (List.getElem_mem hi)).1
    rw [h.rest i hi hl, cnt_split _ h0 t' ht, cnt_false (p := isId f J[i].id) (a := t) (b := t')]
    · omega
    · intro u k1 k2
      exact decide_eq_false (by rw [hf u k1 k2]; omega)
  · rw [h.ran, cnt_split _ h0 t' ht, cnt_false (p := busy f) (a := t) (b := t')]
    · omega
    · intro u k1 k2
      unfold busy
      rw [hf u k1 k2]; rfl
theorem UInv.run {J : List Job} (hJ : VJ J) {f : Int → Int} {t : Int} {left : List Int} {ran : Int} (h : UInv J f t left ran) (h0 : 0 ≤ t) {b : Nat} (hb : b < J.length) (hl : b < left.length) (hf : f t = J[b].id) : UInv J f (t + 1) (left.set b (left[b] - 1)) (ran + 1) := by
  have hid := (hJ.pos _ (List.getElem_mem hb)).1
  refine ⟨by rw [List.length_set]; exact h.len, ?_, ?_⟩
  · intro i hi hli
    rw [List.length_set] at hli
    rw [List.getElem_set, cnt_succ _ h0]
    by_cases e : b = i
    · subst e
      rw [if_pos rfl, h.rest b hb hl, if_pos (show isId f J[b].id t = true from decide_eq_true hf)]
      omega
    · rw [if_neg e, h.rest i hi hli, if_neg]
      · omega
      · intro hc
        have hc := of_decide_eq_true hc
        rw [hf] at hc
        have hn := List.pairwise_iff_getElem.1 hJ.nod
        rcases Nat.lt_or_gt_of_ne e with h1 | h1
        · exact hn b i hb hi h1 hc
        · exact hn i b hi hb h1 hc.symm
  · rw [h.ran, cnt_succ _ h0, if_pos]
    unfold busy
    rw [hf, decide_eq_false (by omega)]; rfl
/-- The one that goes first of the first k jobs; -1 if none of them may run. -/
structure BAt (J : List Job) (left : List Int) (t : Int) (k : Nat) (b : Int) : Prop where
  none : b < 0 → b = -1 ∧ ∀ i (h : i < J.length) (hl : i < left.length), i < k → ¬ (J[i].rel ≤ t ∧ 0 < left[i])
  some : 0 ≤ b → ∃ i : Nat, b = i ∧ i < k ∧ ∃ (h : i < J.length) (hl : i < left.length), J[i].rel ≤ t ∧ 0 < left[i] ∧
    ∀ j (hj : j < J.length) (hjl : j < left.length), j < k → J[j].rel ≤ t → 0 < left[j] → j = i ∨ Bf J[i] J[j]
theorem BAt.start (J : List Job) (left : List Int) (t : Int) : BAt J left t 0 (-1) :=
  ⟨fun _ => ⟨rfl, fun _ _ _ h => absurd h (by omega)⟩, fun h => absurd h (by omega)⟩
/-- The k-th one may not run. -/
theorem BAt.no {J : List Job} {left : List Int} {t : Int} {k : Nat} {b : Int} (h : BAt J left t k b) (hk : k < J.length) (hl : k < left.length) (hn : ¬ (J[k].rel ≤ t ∧ 0 < left[k])) : BAt J left t (k + 1) b := by
  refine ⟨fun hb => ?_, fun hb => ?_⟩
  · obtain ⟨h1, h2⟩ := h.none hb
    refine ⟨h1, fun i hi hil hik => ?_⟩
    by_cases e : i = k
    · subst e; exact hn
    · exact h2 i hi hil (by omega)
  · obtain ⟨i, h1, h2, h3, h4, h5, h6, h7⟩ := h.some hb
    refine ⟨i, h1, by omega, h3, h4, h5, h6, fun j hj hjl hjk hr hp => ?_⟩
    by_cases e : j = k
    · subst e; exact absurd ⟨hr, hp⟩ hn
    · exact h7 j hj hjl (by omega) hr hp
/-- The k-th one may run, and goes behind the one found. -/
theorem BAt.behind {J : List Job} {left : List Int} {t : Int} {k : Nat} {b : Nat} (h : BAt J left t k (b : Int)) (hk : k < J.length) (hb : b < J.length) (hn : Bf J[b] J[k]) : BAt J left t (k + 1) (b : Int) := by
  refine ⟨fun hb => by omega, fun hb0 => ?_⟩
  obtain ⟨i, h1, h2, h3, h4, h5, h6, h7⟩ := h.some hb0
  obtain rfl : i = b := by omega
  refine ⟨i, rfl, by omega, h3, h4, h5, h6, fun j hj hjl hjk hr hp => ?_⟩
  by_cases e : j = k
  · subst e; exact .inr hn
  · exact h7 j hj hjl (by omega) hr hp
/-- The k-th one goes first. -/
theorem BAt.first {J : List Job} {left : List Int} {t : Int} {k : Nat} {b : Int} (h : BAt J left t k b) (hk : k < J.length) (hl : k < left.length) (h1 : J[k].rel ≤ t) (h2 : 0 < left[k])
    (hn : ∀ i : Nat, b = i → ∀ hi : i < J.length, Bf J[k] J[i]) : BAt J left t (k + 1) (k : Int) := by
  refine ⟨fun hb => by omega, fun _ => ⟨k, rfl, by omega, hk, hl, h1, h2, fun j hj hjl hjk hr hp => ?_⟩⟩
  by_cases e : j = k
  · exact .inl e
  · by_cases hb : b < 0
    · exact absurd ⟨hr, hp⟩ ((h.none hb).2 j hj hjl (by omega))
    · obtain ⟨i, k1, k2, k3, k4, k5, k6, k7⟩ := h.some (by omega)
      have hki := hn i k1 k3
      rcases k7 j hj hjl (by omega) hr hp with rfl | h8
      · exact .inr hki
      · right; unfold Bf at *; omega
/-- Who runs at t. -/
theorem BAt.tells {J : List Job} {S : List Shift} {f : Int → Int} (hf : IsE J S f) {t : Int} {left : List Int} {ran : Int} (hu : UInv J f t left ran) {b : Int} (h : BAt J left t J.length b) (hi : inS S t = true) :
    (b < 0 ∧ b = -1 ∧ f t = 0) ∨ ∃ i : Nat, b = i ∧ ∃ (h : i < J.length), i < left.length ∧ f t = J[i].id := by
  have hav : ∀ i (hi : i < J.length) (hl : i < left.length), (J[i].rel ≤ t ∧ 0 < left[i]) ↔ Av f J[i] t := by
    intro i hi hl
    unfold Av
    rw [hu.rest i hi hl]
    omega
  by_cases hb : b < 0
  · left
    obtain ⟨h1, h2⟩ := h.none hb
    refine ⟨hb, h1, hf.idle t (fun x hx ha => ?_)⟩
    obtain ⟨i, hi, rfl⟩ := List.getElem_of_mem hx
    have hl : i < left.length := by rw [hu.len]; exact hi
    exact h2 i hi hl hi ((hav i hi hl).2 ha)
  · right
    obtain ⟨i, h1, h2, h3, h4, h5, h6, h7⟩ := h.some (by omega)
    refine ⟨i, h1, h3, h4, hf.run t _ hi ⟨List.getElem_mem h3, (hav i h3 h4).1 ⟨h5, h6⟩, fun y hy ha => ?_⟩⟩
    obtain ⟨j, hj, rfl⟩ := List.getElem_of_mem hy
    have hl : j < left.length := by rw [hu.len]; exact hj
    obtain ⟨k1, k2⟩ := (hav j hj hl).2 ha
    rcases h7 j hj hl hj k1 k2 with rfl | h8
    · exact .inl rfl
    · exact .inr h8
end Go.Proofs.Ytbnjdlafnejanaa.Sh
