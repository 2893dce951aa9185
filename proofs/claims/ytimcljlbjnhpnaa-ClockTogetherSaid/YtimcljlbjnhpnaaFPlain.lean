/- Plain mathematics of chapter 8 (means of numbers, least and greatest dropped); no program in sight. -/
namespace Go.Proofs.Ytimcljlbjnhpnaa.Fta

def bigB : Int := 1099511627776
def far (b v : Int) : Bool := decide (v < -b) || decide (b < v)
def srt (l : List Int) : List Int := l.mergeSort fun x y => decide (x ≤ y)
def cut (l : List Int) : List Int := if 4 ≤ l.length then (l.drop 1).take (l.length - 2) else l

/-- What is kept: the least and the greatest one, and an error. -/
def kept (l : List Int) : Int × Int × Int :=
  if l = [] then (0, 0, 4) else if l.any (far bigB) then (0, 0, 80) else ((cut (srt l)).headD 0, (cut (srt l)).getLastD 0, 0)
def mid (l : List Int) : Int × Int := (((kept l).1 + (kept l).2.1) / 2, (kept l).2.2)

def least : List Int → Int
  | [] => 0
  | a :: l => l.foldl min a
def most : List Int → Int
  | [] => 0
  | a :: l => l.foldl max a
def spread (l : List Int) : Int := if l = [] then 0 else most l - least l
def rkept (l : List Int) : Int × Int × Int :=
  if l = [] then (0, 0, 4) else if least l < -bigB ∨ bigB < most l then (0, 0, 80)
  else (least (if 4 ≤ l.length then (l.erase (least l)).erase (most l) else l), most (if 4 ≤ l.length then (l.erase (least l)).erase (most l) else l), 0)

/-! ### least and most -/
theorem foldl_min_le (l : List Int) : ∀ a : Int, l.foldl min a ≤ a ∧ ∀ x ∈ l, l.foldl min a ≤ x := by
  induction l with
  | nil => intro a; simp
  | cons b l ih =>
    intro a
    have h := ih (min a b)
    simp only [List.foldl_cons, List.mem_cons]
    refine ⟨by omega, ?_⟩
    rintro x (rfl | hx)
    · omega
    · exact h.2 x hx
theorem foldl_min_mem (l : List Int) : ∀ a : Int, l.foldl min a = a ∨ l.foldl min a ∈ l := by
  induction l with
  | nil => intro a; simp
  | cons b l ih =>
    intro a
    simp only [List.foldl_cons, List.mem_cons]
    rcases ih (min a b) with h | h
    · rcases Int.le_total a b with h' | h'
      · left; rw [h]; omega
      · right; left; rw [h]; omega
    · right; right; exact h
theorem foldl_max_le (l : List Int) : ∀ a : Int, a ≤ l.foldl max a ∧ ∀ x ∈ l, x ≤ l.foldl max a := by
  induction l with
  | nil => intro a; simp
  | cons b l ih =>
    intro a
    have h := ih (max a b)
    simp only [List.foldl_cons, List.mem_cons]
    refine ⟨by omega, ?_⟩
    rintro x (rfl | hx)
    · omega
    · exact h.2 x hx
theorem foldl_max_mem (l : List Int) : ∀ a : Int, l.foldl max a = a ∨ l.foldl max a ∈ l := by
  induction l with
  | nil => intro a; simp
  | cons b l ih =>
    intro a
    simp only [List.foldl_cons, List.mem_cons]
    rcases ih (max a b) with h | h
    · rcases Int.le_total a b with h' | h'
      · right; left; rw [h]; omega
      · left; rw [h]; omega
    · right; right; exact h

theorem least_le {l : List Int} : ∀ x ∈ l, least l ≤ x := by
  cases l with
  | nil => simp
  | cons a l =>
    intro x hx
    rcases List.mem_cons.1 hx with rfl | hx
    · exact (foldl_min_le l x).1
    · exact (foldl_min_le l a).2 x hx
theorem least_mem {l : List Int} (h : l ≠ []) : least l ∈ l := by
  cases l with
  | nil => exact absurd rfl h
  | cons a l =>
    rcases foldl_min_mem l a with h | h
    · show l.foldl min a ∈ _; rw [h]; exact List.mem_cons_self
    · exact List.mem_cons_of_mem _ h
theorem le_most {l : List Int} : ∀ x ∈ l, x ≤ most l := by
  cases l with
  | nil => simp
  | cons a l =>
    intro x hx
    rcases List.mem_cons.1 hx with rfl | hx
    · exact (foldl_max_le l x).1
    · exact (foldl_max_le l a).2 x hx
theorem most_mem {l : List Int} (h : l ≠ []) : most l ∈ l := by
  cases l with
  | nil => exact absurd rfl h
  | cons a l =>
    rcases foldl_max_mem l a with h | h
    · show l.foldl max a ∈ _; rw [h]; exact List.mem_cons_self
    · exact List.mem_cons_of_mem _ h

theorem least_eq {l : List Int} {m : Int} (hm : m ∈ l) (h : ∀ x ∈ l, m ≤ x) : least l = m := by
  have h1 := least_le m hm
  have h2 := h _ (least_mem (List.ne_nil_of_mem hm))
  omega
theorem most_eq {l : List Int} {m : Int} (hm : m ∈ l) (h : ∀ x ∈ l, x ≤ m) : most l = m := by
  have h1 := le_most m hm
  have h2 := h _ (most_mem (List.ne_nil_of_mem hm))
  omega

/-! ### sorted lists -/
theorem nil_or_last (l : List Int) : l = [] ∨ ∃ t z, l = t ++ [z] := by
  rcases List.eq_nil_or_concat l with h | ⟨t, z, h⟩
  · exact .inl h
  · exact .inr ⟨t, z, by rw [h, List.concat_eq_append]⟩
theorem last_app (t : List Int) (z : Int) : (t ++ [z]).getLastD 0 = z := by simp
def Srt (l : List Int) : Prop := l.Pairwise (· ≤ ·)
theorem srt_perm (l : List Int) : (srt l).Perm l := List.mergeSort_perm _ _
theorem srt_len (l : List Int) : (srt l).length = l.length := List.length_mergeSort _
theorem srt_srt (l : List Int) : Srt (srt l) := by
  have := List.pairwise_mergeSort (le := fun x y : Int => decide (x ≤ y)) (by intro a b c; simp; omega) (by intro a b; simp; omega) l
  exact this.imp (by simp)
theorem srt_eq {l s : List Int} (hp : s.Perm l) (hs : Srt s) : srt l = s :=
  ((srt_perm l).trans hp.symm).eq_of_pairwise (fun _ _ _ _ h1 h2 => Int.le_antisymm h1 h2) (srt_srt l) hs
theorem srt_congr {l l' : List Int} (h : l.Perm l') : srt l = srt l' := srt_eq ((srt_perm l').trans h.symm) (srt_srt l')

theorem least_of {l s : List Int} (hp : s.Perm l) (hs : Srt s) : least l = s.headD 0 := by
  cases s with
  | nil => have := hp.nil_eq; subst this; rfl
  | cons a s =>
    refine least_eq (hp.mem_iff.1 List.mem_cons_self) fun x hx => ?_
    rcases List.mem_cons.1 (hp.mem_iff.2 hx) with rfl | hx
    · exact Int.le_refl _
    · exact List.rel_of_pairwise_cons hs hx
theorem most_of {l s : List Int} (hp : s.Perm l) (hs : Srt s) : most l = s.getLastD 0 := by
  rcases nil_or_last s with rfl | ⟨t, z, rfl⟩
  · have := hp.nil_eq; subst this; rfl
  · rw [last_app]
    refine most_eq (hp.mem_iff.1 (by simp)) fun x hx => ?_
    have hx := hp.mem_iff.2 hx
    simp only [List.mem_append, List.mem_singleton] at hx
    rcases hx with hx | rfl
    · exact (List.pairwise_append.1 hs).2.2 x hx z (by simp)
    · exact Int.le_refl _

theorem any_far {l : List Int} (h : l ≠ []) (b : Int) : l.any (far b) = decide (least l < -b ∨ b < most l) := by
  rw [Bool.eq_iff_iff]
  simp only [List.any_eq_true, far, Bool.or_eq_true, decide_eq_true_eq]
  constructor
  · rintro ⟨x, hx, h | h⟩
    · left; have := least_le x hx; omega
    · right; have := le_most x hx; omega
  · rintro (h' | h')
    · exact ⟨_, least_mem h, .inl h'⟩
    · exact ⟨_, most_mem h, .inr h'⟩

/-- A long sorted list parts: its first, its middle, its last. -/
theorem three {s : List Int} (h : 2 ≤ s.length) : ∃ a m z, s = a :: (m ++ [z]) ∧ m.length = s.length - 2 := by
  match s, h with
  | a :: t, h =>
    rcases nil_or_last t with rfl | ⟨m, z, rfl⟩
    · simp at h
    · exact ⟨a, m, z, by simp, by simp⟩
theorem cut_mid {a z : Int} {m : List Int} (h : 2 ≤ m.length) : cut (a :: (m ++ [z])) = m := by
  unfold cut
  rw [if_pos (by simp; omega)]
  simp

theorem kept_eq (l : List Int) : kept l = rkept l := by
  unfold kept rkept
  by_cases h0 : l = []
  · simp [h0]
  · rw [if_neg h0, if_neg h0, any_far h0]
    by_cases h1 : least l < -bigB ∨ bigB < most l
    · rw [if_pos (by simpa using h1), if_pos h1]
    · rw [if_neg (by simpa using h1), if_neg h1]
      have hp := srt_perm l
      have hs := srt_srt l
      have hl := srt_len l
      by_cases h4 : 4 ≤ l.length
      · rw [if_pos h4]
        obtain ⟨a, m, z, e, hm⟩ := three (s := srt l) (by omega)
        rw [e] at hp hs hl ⊢
        have ha : least l = a := by rw [least_of hp hs]; rfl
        have hz : most l = z := by
          rw [most_of hp hs]
          have : (a :: (m ++ [z])).getLastD 0 = z := by
            rw [show a :: (m ++ [z]) = (a :: m) ++ [z] by simp, last_app]
          exact this
        have p1 : (m ++ [z]).Perm (l.erase a) := by
          have := hp.erase a
          simpa using this
        have p2 : m.Perm ((l.erase a).erase z) := by
          have h1 : (z :: m).Perm (l.erase a) := (List.perm_append_singleton z m).symm.trans p1
          simpa using h1.erase z
        have hsm : Srt m := (List.pairwise_append.1 (List.Pairwise.of_cons hs)).1
        have hml : 2 ≤ m.length := by simp at hl; omega
        rw [ha, hz, cut_mid hml, least_of p2 hsm, most_of p2 hsm]
      · rw [if_neg h4]
        have hc : cut (srt l) = srt l := by unfold cut; rw [if_neg (by rw [hl]; exact h4)]
        rw [hc, least_of hp hs, most_of hp hs]

/-! ### any order -/
theorem kept_perm {l l' : List Int} (h : l.Perm l') : kept l = kept l' := by
  unfold kept
  have hn : (l = []) = (l' = []) := by
    refine propext ⟨fun e => ?_, fun e => ?_⟩
    · subst e; exact h.nil_eq.symm
    · subst e; exact h.eq_nil
  have ha : l.any (far bigB) = l'.any (far bigB) := h.any_eq
  rw [srt_congr h, ha]
  simp only [hn]
theorem mid_perm {l l' : List Int} (h : l.Perm l') : mid l = mid l' := by unfold mid; rw [kept_perm h]

/-! ### order statistics -/
def cntLe (l : List Int) (x : Int) : Nat := l.countP fun y => decide (y ≤ x)
theorem cntLe_perm {l l' : List Int} (h : l.Perm l') (x : Int) : cntLe l x = cntLe l' x := h.countP_eq _

/-- Of a sorted list the element at i is at most x just when more than i elements are. -/
theorem nth_le {s : List Int} (hs : Srt s) : ∀ {i : Nat} (hi : i < s.length) (x : Int), s[i] ≤ x ↔ i < cntLe s x := by
  induction s with
  | nil => intro i hi; simp at hi
  | cons a s ih =>
    intro i hi x
    have hs' : Srt s := List.Pairwise.of_cons hs
    by_cases hax : a ≤ x
    · have hc : cntLe (a :: s) x = cntLe s x + 1 := by simp [cntLe, hax]
      rw [hc]
      cases i with
      | zero => simp [hax]
      | succ i =>
        have := ih hs' (i := i) (by simpa using hi) x
        simp only [List.getElem_cons_succ]
        omega
    · have hc : cntLe (a :: s) x = 0 := by
        simp only [cntLe, List.countP_eq_zero, decide_eq_true_eq]
        intro y hy
        rcases List.mem_cons.1 hy with rfl | hy
        · exact hax
        · have := List.rel_of_pairwise_cons hs hy; omega
      rw [hc]
      have hai : a ≤ (a :: s)[i] := by
        cases i with
        | zero => simp
        | succ i => exact List.rel_of_pairwise_cons hs (by simp)
      omega

/-- The element at place i of the sorted list, 0 beyond it. -/
def ord (l : List Int) (i : Nat) : Int := (srt l).getD i 0
theorem ord_le {l : List Int} {i : Nat} (hi : i < l.length) (x : Int) : ord l i ≤ x ↔ i < cntLe l x := by
  have hi' : i < (srt l).length := by rw [srt_len]; exact hi
  have := nth_le (srt_srt l) hi' x
  rw [cntLe_perm (srt_perm l)] at this
  rw [← this]
  simp [ord, List.getD_eq_getElem?_getD, hi']
theorem lt_ord {l : List Int} {i : Nat} (hi : i < l.length) (x : Int) : x < ord l i ↔ cntLe l x ≤ i := by
  have := ord_le hi x
  omega

/-- What is kept, by places. -/
theorem kept_ord {l : List Int} (h0 : l ≠ []) (hf : l.any (far bigB) = false) :
    kept l = (if 4 ≤ l.length then ord l 1 else ord l 0, if 4 ≤ l.length then ord l (l.length - 2) else ord l (l.length - 1), 0) := by
  unfold kept
  rw [if_neg h0, if_neg (by simp [hf])]
  have hl := srt_len l
  have hpos : 0 < l.length := List.length_pos_iff.2 h0
  by_cases h4 : 4 ≤ l.length
  · rw [if_pos h4, if_pos h4]
    obtain ⟨a, m, z, e, hm⟩ := three (s := srt l) (by omega)
    have hml : 2 ≤ m.length := by omega
    have ho1 : ord l 1 = m.headD 0 := by
      unfold ord; rw [e]
      cases m with
      | nil => simp at hml
      | cons b m => simp
    have ho2 : ord l (l.length - 2) = m.getLastD 0 := by
      unfold ord; rw [e]
      rcases nil_or_last m with rfl | ⟨t, y, rfl⟩
      · simp at hml
      · have e2 : l.length - 2 = t.length + 1 := by simp at hm; omega
        rw [last_app, e2]
        simp
    rw [e, cut_mid hml, ho1, ho2]
  · rw [if_neg h4, if_neg h4]
    have hc : cut (srt l) = srt l := by unfold cut; rw [if_neg (by rw [hl]; exact h4)]
    rw [hc]
    have ho1 : ord l 0 = (srt l).headD 0 := by unfold ord; cases srt l <;> simp
    have ho2 : ord l (l.length - 1) = (srt l).getLastD 0 := by
      unfold ord
      rw [← hl]
      rcases nil_or_last (srt l) with e | ⟨t, y, e⟩
      · rw [e] at hl; simp at hl; omega
      · rw [e, last_app]; simp
    rw [ho1, ho2]

theorem ord_mono {l : List Int} {i j : Nat} (hij : i ≤ j) (hj : j < l.length) : ord l i ≤ ord l j := by
  rw [ord_le (by omega)]
  have := (ord_le hj (ord l j)).1 (Int.le_refl _)
  omega

/-- Counting is monotone: if each element of l' is at least l's plus d, place by place, then so are the sorted lists' elements. -/
theorem cnt_zip : ∀ {l l' : List Int} {d : Int} (_ : l.length = l'.length) (_ : ∀ i (h : i < l.length) (h' : i < l'.length), l[i] + d ≤ l'[i]) (x : Int), cntLe l' (x + d) ≤ cntLe l x := by
  intro l
  induction l with
  | nil => intro l' d hl h x; cases l' with
    | nil => simp [cntLe]
    | cons b l' => simp at hl
  | cons a l ih =>
    intro l' d hl h x
    cases l' with
    | nil => simp at hl
    | cons b l' =>
      have h0 := h 0 (by simp) (by simp)
      simp only [List.getElem_cons_zero] at h0
      have hr := ih (l' := l') (d := d) (by simpa using hl) (fun i h1 h2 => by have := h (i + 1) (by simp; omega) (by simp; omega); simpa using this) x
      simp only [cntLe, List.countP_cons, decide_eq_true_eq] at hr ⊢
      by_cases hb : b ≤ x + d
      · rw [if_pos hb, if_pos (by omega)]; omega
      · rw [if_neg hb]; omega
theorem ord_ge {l l' : List Int} {d : Int} (hl : l.length = l'.length) (h : ∀ i (h : i < l.length) (h' : i < l'.length), l[i] + d ≤ l'[i]) {i : Nat} (hi : i < l.length) : ord l i + d ≤ ord l' i := by
  have h1 := (ord_le (l := l') (i := i) (by omega) (ord l' i)).1 (Int.le_refl _)
  have h2 := cnt_zip hl h (ord l' i - d)
  rw [show ord l' i - d + d = ord l' i by omega] at h2
  have h3 := (ord_le (l := l) (i := i) hi (ord l' i - d)).2 (by omega)
  omega

/-- The mean is monotone, with a shift. -/
theorem mid_ge {l l' : List Int} {d : Int} (hl : l.length = l'.length) (h : ∀ i (h : i < l.length) (h' : i < l'.length), l[i] + d ≤ l'[i])
    (e : (mid l).2 = 0) (e' : (mid l').2 = 0) : (mid l).1 + d ≤ (mid l').1 := by
  have ok : ∀ {l : List Int}, (mid l).2 = 0 → l ≠ [] ∧ l.any (far bigB) = false := by
    intro l h
    unfold mid kept at h
    by_cases h0 : l = []
    · simp [h0] at h
    · rw [if_neg h0] at h
      by_cases h1 : l.any (far bigB)
      · rw [if_pos h1] at h; simp at h
      · exact ⟨h0, by simpa using h1⟩
  obtain ⟨a0, a1⟩ := ok e
  obtain ⟨b0, b1⟩ := ok e'
  have hpos : 0 < l.length := List.length_pos_iff.2 a0
  unfold mid
  rw [kept_ord a0 a1, kept_ord b0 b1, ← hl]
  by_cases h4 : 4 ≤ l.length
  · simp only [if_pos h4]
    have h1 := ord_ge hl h (i := 1) (by omega)
    have h2 := ord_ge hl h (i := l.length - 2) (by omega)
    omega
  · simp only [if_neg h4]
    have h1 := ord_ge hl h (i := 0) (by omega)
    have h2 := ord_ge hl h (i := l.length - 1) (by omega)
    omega

theorem mid_ok {l : List Int} : (mid l).2 = 0 ↔ l ≠ [] ∧ ∀ x ∈ l, -bigB ≤ x ∧ x ≤ bigB := by
  unfold mid kept
  by_cases h0 : l = []
  · simp [h0]
  · rw [if_neg h0]
    by_cases h1 : l.any (far bigB)
    · rw [if_pos h1]
      simp only [List.any_eq_true, far, Bool.or_eq_true, decide_eq_true_eq] at h1
      obtain ⟨x, hx, h⟩ := h1
      constructor
      · intro h; simp at h
      · rintro ⟨_, h'⟩; have := h' x hx; omega
    · rw [if_neg h1]
      simp only [List.any_eq_true, far, Bool.or_eq_true, decide_eq_true_eq] at h1
      refine ⟨fun _ => ⟨h0, fun x hx => ?_⟩, fun _ => rfl⟩
      have : ¬ (x < -bigB ∨ bigB < x) := fun h => h1 ⟨x, hx, h⟩
      omega

/-- The mean of numbers that are all raised by c. -/
theorem mid_shift (l : List Int) (c : Int) (e : (mid l).2 = 0) (e' : (mid (l.map (· + c))).2 = 0) : (mid (l.map (· + c))).1 = (mid l).1 + c := by
  have h1 := mid_ge (l := l) (l' := l.map (· + c)) (d := c) (by simp) (by intro i h h'; simp) e e'
  have h2 := mid_ge (l := l.map (· + c)) (l' := l) (d := -c) (by simp) (by intro i h h'; simp; omega) e' e
  omega

theorem kept_bd (l : List Int) : -bigB ≤ (kept l).1 ∧ (kept l).1 ≤ bigB ∧ -bigB ≤ (kept l).2.1 ∧ (kept l).2.1 ≤ bigB ∧ ((kept l).2.2 = 0 ∨ (kept l).2.2 = 4 ∨ (kept l).2.2 = 80) := by
  have hB : 0 ≤ bigB := by decide
  by_cases h0 : l = []
  · simp [kept, h0, hB]
  · by_cases h1 : l.any (far bigB)
    · simp [kept, h0, h1, hB]
    · have h1' : l.any (far bigB) = false := by simpa using h1
      rw [kept_ord h0 h1']
      have hpos : 0 < l.length := List.length_pos_iff.2 h0
      have hb : ∀ i, i < l.length → -bigB ≤ ord l i ∧ ord l i ≤ bigB := by
        intro i hi
        have hm : ord l i ∈ srt l := by
          have hi' : i < (srt l).length := by rw [srt_len]; exact hi
          simp only [ord, List.getD_eq_getElem?_getD, List.getElem?_eq_getElem hi', Option.getD_some]
          exact List.getElem_mem hi'
        have hm := (srt_perm l).mem_iff.1 hm
        have h2 : ((mid l).2 = 0) := by unfold mid kept; rw [if_neg h0, if_neg h1]
        exact (mid_ok.1 h2).2 _ hm
      by_cases h4 : 4 ≤ l.length
      · simp only [if_pos h4]
        have ha := hb 1 (by omega)
        have hc := hb (l.length - 2) (by omega)
        exact ⟨ha.1, ha.2, hc.1, hc.2, .inl trivial⟩
      · simp only [if_neg h4]
        have ha := hb 0 (by omega)
        have hc := hb (l.length - 1) (by omega)
        exact ⟨ha.1, ha.2, hc.1, hc.2, .inl trivial⟩

theorem kept_le (l : List Int) : (kept l).1 ≤ (kept l).2.1 := by
  by_cases h0 : l = []
  · simp [kept, h0]
  · by_cases h1 : l.any (far bigB)
    · simp [kept, h0, h1]
    · have h1' : l.any (far bigB) = false := by simpa using h1
      rw [kept_ord h0 h1']
      have hpos : 0 < l.length := List.length_pos_iff.2 h0
      by_cases h4 : 4 ≤ l.length
      · simp only [if_pos h4]; exact ord_mono (by omega) (by omega)
      · simp only [if_neg h4]; exact ord_mono (by omega) (by omega)
theorem mid_within (l : List Int) : (kept l).1 ≤ (mid l).1 ∧ (mid l).1 ≤ (kept l).2.1 := by
  have := kept_le l
  unfold mid
  constructor
  · show _ ≤ ((kept l).1 + (kept l).2.1) / 2
    omega
  · show ((kept l).1 + (kept l).2.1) / 2 ≤ _
    omega

end Go.Proofs.Ytimcljlbjnhpnaa.Fta
