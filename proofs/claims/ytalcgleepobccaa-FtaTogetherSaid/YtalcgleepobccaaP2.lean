/- Plain mathematics of FtaFault: two lists that are nearly the same but for one place. -/
import Derived.Test.YtalcgleepobccaaPlain
namespace Go.Proofs.Ytalcgleepobccaa.Fta

theorem cnt_but : ∀ {a b : List Int} {k : Nat} {x x' : Int} (_ : a.length = b.length)
    (_ : ∀ j (h : j < a.length) (h' : j < b.length), j ≠ k → b[j] ≤ x → a[j] ≤ x'), cntLe b x ≤ cntLe a x' + 1 := by
  intro a
  induction a with
  | nil => intro b k x x' hl h; cases b with
    | nil => simp [cntLe]
    | cons => simp at hl
  | cons a0 a ih =>
    intro b k x x' hl h
    cases b with
    | nil => simp at hl
    | cons b0 b =>
      have hl' : a.length = b.length := by simpa using hl
      have tail : ∀ k', (∀ j (h : j < a.length) (h' : j < b.length), j ≠ k' → b[j] ≤ x → a[j] ≤ x') → cntLe b x ≤ cntLe a x' + 1 := fun k' hk => ih hl' hk
      cases k with
      | zero =>
        have all : ∀ (j : Nat) (h1 : j < a.length) (h2 : j < b.length), b[j] ≤ x → a[j] ≤ x' := fun j h1 h2 hb => by
          have := h (j + 1) (by simp; omega) (by simp; omega) (by omega)
          simpa using this (by simpa using hb)
        have hle : cntLe b x ≤ cntLe a x' := by
          clear ih tail h hl
          induction a generalizing b with
          | nil => cases b with
            | nil => exact Nat.le_refl _
            | cons => simp at hl'
          | cons a1 a ih2 => cases b with
            | nil => simp at hl'
            | cons b1 b =>
              have h0 := all 0 (by simp) (by simp)
              simp only [List.getElem_cons_zero] at h0
              have hr := ih2 (b := b) (by simpa using hl') (fun j h1 h2 hb => by have := all (j + 1) (by simp; omega) (by simp; omega); simpa using this (by simpa using hb))
              simp only [cntLe, List.countP_cons, decide_eq_true_eq] at hr ⊢
              by_cases hb : b1 ≤ x
              · rw [if_pos hb, if_pos (h0 hb)]; omega
              · rw [if_neg hb]; omega
        simp only [cntLe, List.countP_cons, decide_eq_true_eq] at hle ⊢
        split <;> split <;> omega
      | succ k =>
        have h0 := h 0 (by simp) (by simp) (by omega)
        simp only [List.getElem_cons_zero] at h0
        have hr := tail k (fun j h1 h2 hj hb => by have := h (j + 1) (by simp; omega) (by simp; omega) (by omega); simpa using this (by simpa using hb))
        simp only [cntLe, List.countP_cons, decide_eq_true_eq] at hr ⊢
        by_cases hb : b0 ≤ x
        · rw [if_pos hb, if_pos (h0 hb)]; omega
        · rw [if_neg hb]; omega

theorem cnt_const (n : Nat) (c x : Int) : cntLe (List.replicate n c) x = if c ≤ x then n else 0 := by
  simp [cntLe, List.countP_replicate]
theorem cnt_one {a : List Int} {k : Nat} {x : Int} (h : ∀ j (h : j < a.length), j ≠ k → x < a[j]) : cntLe a x ≤ 1 := by
  have := cnt_but (a := List.replicate a.length (x + 1)) (b := a) (k := k) (x := x) (x' := x) (by simp) (fun j h1 h2 hj hb => by have := h j h2 hj; omega)
  rw [cnt_const, if_neg (by omega)] at this
  omega
theorem cnt_all {a : List Int} {k : Nat} {x : Int} (h : ∀ j (h : j < a.length), j ≠ k → a[j] ≤ x) : a.length ≤ cntLe a x + 1 := by
  have := cnt_but (a := a) (b := List.replicate a.length x) (k := k) (x := x) (x' := x) (by simp) (fun j h1 h2 hj _ => h j h1 hj)
  rw [cnt_const, if_pos (by omega)] at this
  exact this

/-- Two lists, place by place up to e the same but for place k, all other numbers from lo to hi: their means are near. -/
theorem fault_half {a b : List Int} {k : Nat} {lo hi e : Int} (hl : a.length = b.length) (h4 : 4 ≤ a.length)
    (ha : ∀ j (h : j < a.length), j ≠ k → lo ≤ a[j] ∧ a[j] ≤ hi) (hb : ∀ j (h : j < b.length), j ≠ k → lo ≤ b[j] ∧ b[j] ≤ hi)
    (he : ∀ j (h : j < a.length) (h' : j < b.length), j ≠ k → a[j] ≤ b[j] + e) (oa : (mid a).2 = 0) (ob : (mid b).2 = 0) :
    2 * ((mid a).1 - (mid b).1) ≤ (hi - lo) + e + 1 := by
  have ok : ∀ {l : List Int}, (mid l).2 = 0 → l ≠ [] ∧ l.any (far bigB) = false := by
    intro l h
    obtain ⟨h1, h2⟩ := mid_ok.1 h
    refine ⟨h1, ?_⟩
    rw [Bool.eq_false_iff]
    intro hf
    simp only [List.any_eq_true, far, Bool.or_eq_true, decide_eq_true_eq] at hf
    obtain ⟨x, hx, hf⟩ := hf
    have := h2 x hx
    omega
  obtain ⟨a0, a1⟩ := ok oa
  obtain ⟨b0, b1⟩ := ok ob
  unfold mid
  rw [kept_ord a0 a1, kept_ord b0 b1, ← hl]
  simp only [if_pos h4]
  have b1lo : lo ≤ ord b 1 := by
    have := (lt_ord (l := b) (i := 1) (by omega) (lo - 1)).2 (cnt_one (k := k) fun j h hj => by have := hb j h hj; omega)
    omega
  have ahi : ord a (a.length - 2) ≤ hi := by
    refine (ord_le (l := a) (i := a.length - 2) (by omega) hi).2 ?_
    have := cnt_all (a := a) (k := k) (x := hi) fun j h hj => (ha j h hj).2
    omega
  have cross : ord a 1 ≤ ord b (a.length - 2) + e := by
    refine (ord_le (l := a) (i := 1) (by omega) _).2 ?_
    have h1 := (ord_le (l := b) (i := a.length - 2) (by omega) (ord b (a.length - 2))).1 (Int.le_refl _)
    have h2 := cnt_but (a := a) (b := b) (k := k) (x := ord b (a.length - 2)) (x' := ord b (a.length - 2) + e) hl (fun j q1 q2 hj hx => by have := he j q1 q2 hj; omega)
    omega
  omega

/-! ### the law's own lists -/
/-- By how much the number at place j is off. -/
def dl (off : List Int) (j : Nat) : Int := if off = [] then 0 else off.getD (j % off.length) 0
/-- The second list when the first i places are done. -/
def bl (l off : List Int) (k i : Nat) : List Int := (List.range l.length).map fun j => if j < i ∧ j ≠ k then l.getD j 0 + dl off j else l.getD j 0
/-- The good numbers of both lists, of the first i places. -/
def gl (l off : List Int) (k i : Nat) : List Int := (List.range i).flatMap fun j => if j = k then [] else [l.getD j 0, l.getD j 0 + dl off j]
/-- The greatest deviation of the first i places. -/
def el (off : List Int) (k : Nat) : Nat → Int
  | 0 => 0
  | i + 1 => if i = k then el off k i else max (max (el off k i) (dl off i)) (-(dl off i))

theorem bl_len (l off : List Int) (k i : Nat) : (bl l off k i).length = l.length := by simp [bl]
theorem bl_zero (l off : List Int) (k : Nat) : bl l off k 0 = l := by
  unfold bl
  apply List.ext_getElem (by simp)
  intro j h1 h2
  simp [List.getD_eq_getElem?_getD, h2]
theorem bl_get (l off : List Int) (k i j : Nat) (h : j < l.length) : (bl l off k i)[j]? = some (if j < i ∧ j ≠ k then l.getD j 0 + dl off j else l.getD j 0) := by
  simp [bl, h]
theorem bl_skip (l off : List Int) (k : Nat) : bl l off k (k + 1) = bl l off k k := by
  unfold bl
  apply List.map_congr_left
  intro j _
  by_cases hj : j = k
  · simp [hj]
  · by_cases h2 : j < k
    · rw [if_pos ⟨by omega, hj⟩, if_pos ⟨h2, hj⟩]
    · rw [if_neg (by omega), if_neg (by omega)]
theorem bl_step (l off : List Int) (k i : Nat) (hi : i < l.length) (hk : i ≠ k) : (bl l off k i).set i (l.getD i 0 + dl off i) = bl l off k (i + 1) := by
  apply List.ext_getElem? 
  intro j
  by_cases hj : j < l.length
  · rw [bl_get _ _ _ _ _ hj, List.getElem?_set]
    by_cases hij : i = j
    · subst hij
      rw [if_pos rfl, if_pos (by rw [bl_len]; exact hi), if_pos ⟨by omega, hk⟩]
    · rw [if_neg hij, bl_get _ _ _ _ _ hj]
      congr 1
      by_cases h2 : j < i ∧ j ≠ k
      · rw [if_pos h2, if_pos ⟨by omega, h2.2⟩]
      · rw [if_neg h2, if_neg (by omega)]
  · rw [List.getElem?_eq_none (by simp [bl_len]; omega), List.getElem?_eq_none (by simp [bl_len]; omega)]
theorem gl_skip (l off : List Int) (k : Nat) : gl l off k (k + 1) = gl l off k k := by
  simp [gl, List.range_succ]
theorem gl_step (l off : List Int) (k i : Nat) (hk : i ≠ k) : gl l off k (i + 1) = gl l off k i ++ [l.getD i 0, l.getD i 0 + dl off i] := by
  simp [gl, List.range_succ, hk]
theorem gl_len (l off : List Int) (k i : Nat) : (gl l off k i).length ≤ 2 * i := by
  induction i with
  | zero => simp [gl]
  | succ i ih =>
    by_cases hk : i = k
    · subst hk; rw [gl_skip]; omega
    · rw [gl_step _ _ _ _ hk]; simp; omega
theorem el_nonneg (off : List Int) (k i : Nat) : 0 ≤ el off k i := by
  induction i with
  | zero => exact Int.le_refl _
  | succ i ih => unfold el; split <;> omega
theorem el_ge (off : List Int) (k i : Nat) : ∀ j, j < i → j ≠ k → dl off j ≤ el off k i ∧ -(dl off j) ≤ el off k i := by
  induction i with
  | zero => intro j hj; omega
  | succ i ih =>
    intro j hj hk
    unfold el
    by_cases h : i = k
    · rw [if_pos h]; exact ih j (by omega) hk
    · rw [if_neg h]
      by_cases hji : j = i
      · subst hji; omega
      · have := ih j (by omega) hk; omega
theorem el_le (off : List Int) (k i : Nat) {D : Int} (hD : 0 ≤ D) (h : ∀ j, -D ≤ dl off j ∧ dl off j ≤ D) : el off k i ≤ D := by
  induction i with
  | zero => exact hD
  | succ i ih =>
    have := h i
    unfold el
    split <;> omega
theorem dl_bd {off : List Int} (h : ∀ x ∈ off, -32768 ≤ x ∧ x ≤ 32767) (j : Nat) : -32768 ≤ dl off j ∧ dl off j ≤ 32767 := by
  unfold dl
  by_cases h0 : off = []
  · rw [if_pos h0]; omega
  · rw [if_neg h0]
    have hp : 0 < off.length := List.length_pos_iff.2 h0
    have hm := Nat.mod_lt j hp
    have : off.getD (j % off.length) 0 ∈ off := by simp [List.getD_eq_getElem?_getD, hm]
    exact h _ this

theorem mem_gl {l off : List Int} {k i j : Nat} (hj : j < i) (hk : j ≠ k) : l.getD j 0 ∈ gl l off k i ∧ l.getD j 0 + dl off j ∈ gl l off k i := by
  unfold gl
  constructor
  · exact List.mem_flatMap.2 ⟨j, List.mem_range.2 hj, by simp [hk]⟩
  · exact List.mem_flatMap.2 ⟨j, List.mem_range.2 hj, by simp [hk]⟩

theorem gl_bd {l off : List Int} {k i : Nat} {D : Int} (hd : ∀ j, -32768 ≤ dl off j ∧ dl off j ≤ 32767) (h : ∀ j, j < i → j ≠ k → -D ≤ l.getD j 0 ∧ l.getD j 0 ≤ D) : ∀ x ∈ gl l off k i, -D - 32768 ≤ x ∧ x ≤ D + 32767 := by
  intro x hx
  obtain ⟨j, hj, hx⟩ := List.mem_flatMap.1 hx
  have hj := List.mem_range.1 hj
  by_cases hk : j = k
  · simp [hk] at hx
  · simp [hk] at hx
    have h1 := h j hj hk
    have h2 := hd j
    simp only [List.getD_eq_getElem?_getD] at h1
    rcases hx with rfl | rfl <;> omega

theorem bl_bd {l off : List Int} {k : Nat} (hd : ∀ j, -32768 ≤ dl off j ∧ dl off j ≤ 32767) (h : ∀ j, j < l.length → j ≠ k → -1099511627776 ≤ l.getD j 0 ∧ l.getD j 0 ≤ 1099511627776)
    (hl : ∀ x ∈ l, -9223372036854775808 ≤ x ∧ x ≤ 9223372036854775807) : ∀ y ∈ bl l off k l.length, -9223372036854775808 ≤ y ∧ y ≤ 9223372036854775807 := by
  intro y hy
  obtain ⟨j, hj, rfl⟩ := List.mem_map.1 hy
  have hj := List.mem_range.1 hj
  by_cases hk : j = k
  · rw [if_neg (by omega)]
    exact hl _ (by simp [List.getD_eq_getElem?_getD, hj])
  · rw [if_pos ⟨hj, hk⟩]
    have h1 := h j hj hk
    have h2 := hd j
    omega
theorem spread_bd {l : List Int} {D : Int} (hD : 0 ≤ D) (h : ∀ x ∈ l, -D ≤ x ∧ x ≤ D) : 0 ≤ spread l ∧ spread l ≤ 2 * D := by
  unfold spread
  by_cases h0 : l = []
  · rw [if_pos h0]; omega
  · rw [if_neg h0]
    have h1 := h _ (least_mem h0)
    have h2 := h _ (most_mem h0)
    have h3 := least_le _ (most_mem h0)
    omega

theorem mid_bd (l : List Int) : -1099511627776 ≤ (mid l).1 ∧ (mid l).1 ≤ 1099511627776 := by
  have h1 := kept_bd l
  have h2 := mid_within l
  unfold bigB at h1
  omega

/-- The law of FtaFault. -/
theorem fault_plain (l off : List Int) (k : Nat) (h4 : 4 ≤ l.length) (mine other : Int)
    (oa : (mid (l.set k mine)).2 = 0) (ob : (mid ((bl l off k l.length).set k other)).2 = 0) :
    2 * max ((mid (l.set k mine)).1 - (mid ((bl l off k l.length).set k other)).1) ((mid ((bl l off k l.length).set k other)).1 - (mid (l.set k mine)).1) ≤ spread (gl l off k l.length) + el off k l.length + 2 := by
  have hne : gl l off k l.length ≠ [] := by
    have hex : ∃ j, j < l.length ∧ j ≠ k := by
      by_cases h0 : k = 0
      · exact ⟨1, by omega, by omega⟩
      · exact ⟨0, by omega, by omega⟩
    obtain ⟨j, hj, hjk⟩ := hex
    exact List.ne_nil_of_mem (mem_gl (l := l) (off := off) hj hjk).1
  unfold spread
  rw [if_neg hne]
  have ea : ∀ j (h : j < (l.set k mine).length), j ≠ k → (l.set k mine)[j] = l.getD j 0 := fun j h hj => by
    rw [List.getElem_set_ne (fun e => hj e.symm)]
    have : j < l.length := by simpa using h
    simp [List.getD_eq_getElem?_getD, this]
  have eb : ∀ j (h : j < ((bl l off k l.length).set k other).length), j ≠ k → ((bl l off k l.length).set k other)[j] = l.getD j 0 + dl off j := fun j h hj => by
    rw [List.getElem_set_ne (fun e => hj e.symm)]
    have hl : j < l.length := by simpa [bl_len] using h
    have := bl_get l off k l.length j hl
    rw [if_pos ⟨hl, hj⟩] at this
    rw [List.getElem?_eq_getElem (by rw [bl_len]; exact hl)] at this
    exact Option.some.inj this
  have ha : ∀ j (h : j < (l.set k mine).length), j ≠ k → least (gl l off k l.length) ≤ (l.set k mine)[j] ∧ (l.set k mine)[j] ≤ most (gl l off k l.length) := fun j h hj => by
    rw [ea j h hj]
    have := (mem_gl (l := l) (off := off) (k := k) (i := l.length) (j := j) (by simpa using h) hj).1
    exact ⟨least_le _ this, le_most _ this⟩
  have hb : ∀ j (h : j < ((bl l off k l.length).set k other).length), j ≠ k → least (gl l off k l.length) ≤ ((bl l off k l.length).set k other)[j] ∧ ((bl l off k l.length).set k other)[j] ≤ most (gl l off k l.length) := fun j h hj => by
    rw [eb j h hj]
    have := (mem_gl (l := l) (off := off) (k := k) (i := l.length) (j := j) (by simpa [bl_len] using h) hj).2
    exact ⟨least_le _ this, le_most _ this⟩
  have hl : (l.set k mine).length = ((bl l off k l.length).set k other).length := by simp [bl_len]
  have hla : (l.set k mine).length = l.length := by simp
  have h1 := fault_half (k := k) (e := el off k l.length) hl (by omega) ha hb (fun j q1 q2 hj => by
    rw [ea j q1 hj, eb j q2 hj]
    have := el_ge off k l.length j (by omega) hj; omega) oa ob
  have h2 := fault_half (k := k) (e := el off k l.length) hl.symm (by omega) hb ha (fun j q1 q2 hj => by
    rw [eb j q1 hj, ea j q2 hj]
    have := el_ge off k l.length j (by omega) hj; omega) ob oa
  omega

end Go.Proofs.Ytalcgleepobccaa.Fta
