/- The plain laws of the library's stable sort: exchanging two parts of a row by turns of equal parts, the search by halves, and the merge of two sorted parts in place: what is sorted stays as it is. The plain laws of the library's stable sort, second part: blocks are sorted one by one, then merged two by two, until there is one. -/
import Derived.Sort.LotA
namespace Go.Proofs.Ytkinhhkodaacjaa
open Go.Sort
variable {α : Type} [Inhabited α]

/-- The row with its part from a to m behind its part from m to b. -/
def rotAt (a m b : Nat) (f : Nat → α) (x : Nat) : α :=
  if a ≤ x ∧ x < a + (b - m) then f (x + (m - a)) else if a + (b - m) ≤ x ∧ x < b then f (x - (b - m)) else f x

def swapUp (d : Array α) (a b : Nat) : Nat → Array α
  | 0 => d
  | n + 1 => swp (swapUp d a b n) (a + n) (b + n)

theorem swapUp_size (d : Array α) (a b n : Nat) : (swapUp d a b n).size = d.size := by
  induction n with
  | zero => rfl
  | succ n ih => rw [swapUp, size_swp, ih]

theorem swapUp_get (d : Array α) (a b n : Nat) (h1 : a + n ≤ b) (h2 : b + n ≤ d.size) (x : Nat) :
    (swapUp d a b n)[x]! = if a ≤ x ∧ x < a + n then d[x + (b - a)]! else if b ≤ x ∧ x < b + n then d[x - (b - a)]! else d[x]! := by
  induction n generalizing x with
  | zero => rw [swapUp, if_neg (by omega), if_neg (by omega)]
  | succ n ih =>
    have ih' := fun x => ih (by omega) (by omega) x
    rw [swapUp, swp_get _ (by rw [swapUp_size]; omega) (by rw [swapUp_size]; omega), ih', ih', ih']
    by_cases e1 : x = b + n
    · subst e1
      rw [if_pos rfl, if_neg (by omega), if_neg (by omega), if_neg (by omega), if_pos (by omega)]
      congr 1; omega
    · rw [if_neg e1]
      by_cases e2 : x = a + n
      · subst e2
        rw [if_pos rfl, if_neg (by omega), if_neg (by omega), if_pos (by omega)]
        congr 1; omega
      · rw [if_neg e2]
        by_cases e3 : a ≤ x ∧ x < a + n
        · rw [if_pos e3, if_pos (by omega)]
        · rw [if_neg e3]
          by_cases e4 : b ≤ x ∧ x < b + n
          · rw [if_pos e4, if_neg (by omega), if_pos (by omega)]
          · rw [if_neg e4, if_neg (by omega), if_neg (by omega)]

theorem swapUp_perm (d : Array α) (a b n lo hi : Nat) (h0 : lo ≤ a) (h1 : a ≤ b) (h2 : b + n ≤ hi) (h3 : hi ≤ d.size) : PermIn lo hi d (swapUp d a b n) := by
  induction n with
  | zero => exact permIn_refl _ _ _
  | succ n ih =>
    exact permIn_trans _ _ _ _ _ (ih (by omega)) (swp_permIn _ _ _ _ _ (by omega) (by omega) (by omega) (by omega) (by rw [swapUp_size]; omega))

omit [Inhabited α] in
theorem rot_id (a m b : Nat) (h : a = m ∨ m = b) (hm : a ≤ m) (hb : m ≤ b) (f : Nat → α) (x : Nat) : rotAt a m b f x = f x := by
  unfold rotAt
  rcases h with h | h
  · subst h
    split
    · congr 1; omega
    · split
      · omega
      · rfl
  · subst h
    split
    · omega
    · split
      · congr 1; omega
      · rfl

theorem rot_stepL (cur : Array α) (m i j : Nat) (hij : j < i) (hi : i ≤ m) (hs : m + j ≤ cur.size) (x : Nat) :
    rotAt (m - (i - j)) m (m + j) (fun y => (swapUp cur (m - i) m j)[y]!) x = rotAt (m - i) m (m + j) (fun y => cur[y]!) x := by
  unfold rotAt
  simp only [swapUp_get cur (m - i) m j (by omega) (by omega)]
  rw [show m + j - m = j by omega]
  by_cases c1 : m - (i - j) ≤ x ∧ x < m - (i - j) + j
  · rw [if_pos c1, if_neg (by omega)]
    by_cases c2 : m - i ≤ x ∧ x < m - i + j
    · omega
    · rw [if_neg c2]
      rw [if_pos (by omega), if_pos (by omega)]
      congr 1; omega
  · rw [if_neg c1]
    by_cases c3 : m - (i - j) + j ≤ x ∧ x < m + j
    · rw [if_pos c3, if_neg (by omega), if_neg (by omega), if_neg (by omega), if_pos (by omega)]
    · rw [if_neg c3]
      by_cases c2 : m - i ≤ x ∧ x < m - i + j
      · rw [if_pos c2, if_pos c2]
      · rw [if_neg c2, if_neg c2, if_neg (by omega), if_neg (by omega)]

theorem rot_stepR (cur : Array α) (m i j : Nat) (hij : i < j) (hi : i ≤ m) (hs : m + j ≤ cur.size) (x : Nat) :
    rotAt (m - i) m (m + (j - i)) (fun y => (swapUp cur (m - i) (m + j - i) i)[y]!) x = rotAt (m - i) m (m + j) (fun y => cur[y]!) x := by
  unfold rotAt
  simp only [swapUp_get cur (m - i) (m + j - i) i (by omega) (by omega)]
  rw [show m + j - m = j by omega, show m + (j - i) - m = j - i by omega]
  by_cases c1 : m - i ≤ x ∧ x < m - i + (j - i)
  · rw [if_pos c1, if_neg (by omega), if_neg (by omega), if_pos (by omega)]
  · rw [if_neg c1]
    by_cases c2 : m - i + (j - i) ≤ x ∧ x < m + (j - i)
    · rw [if_pos c2, if_pos (by omega), if_pos (by omega)]
      congr 1; omega
    · rw [if_neg c2, if_neg (by omega)]
      by_cases c3 : m + j - i ≤ x ∧ x < m + j - i + i
      · rw [if_pos c3, if_neg (by omega), if_pos (by omega)]
        congr 1; omega
      · rw [if_neg c3, if_neg (by omega), if_neg (by omega)]

theorem rot_stepE (cur : Array α) (m i : Nat) (hi : i ≤ m) (hs : m + i ≤ cur.size) (x : Nat) :
    (swapUp cur (m - i) m i)[x]! = rotAt (m - i) m (m + i) (fun y => cur[y]!) x := by
  unfold rotAt
  rw [swapUp_get cur (m - i) m i (by omega) (by omega), show m + i - m = i by omega]
  by_cases c1 : m - i ≤ x ∧ x < m - i + i
  · rw [if_pos c1, if_pos c1]
  · rw [if_neg c1, if_neg c1]
    by_cases c2 : m ≤ x ∧ x < m + i
    · rw [if_pos c2, if_pos (by omega)]; congr 1; omega
    · rw [if_neg c2, if_neg (by omega)]

omit [Inhabited α] in
theorem rot_congr (a m b : Nat) (f g : Nat → α) (h : ∀ x, f x = g x) (x : Nat) : rotAt a m b f x = rotAt a m b g x := by rw [funext h]

def shiftUp (d : Array α) (a : Nat) : Nat → Array α
  | 0 => d
  | n + 1 => swp (shiftUp d a n) (a + n) (a + n + 1)

theorem shiftUp_size (d : Array α) (a n : Nat) : (shiftUp d a n).size = d.size := by
  induction n with
  | zero => rfl
  | succ n ih => rw [shiftUp, size_swp, ih]

theorem shiftUp_get (d : Array α) (a n : Nat) (h : a + n < d.size) (x : Nat) : (shiftUp d a n)[x]! = rotAt a (a + 1) (a + n + 1) (fun y => d[y]!) x := by
  induction n generalizing x with
  | zero => rw [shiftUp]; exact (rot_id _ _ _ (Or.inr rfl) (by omega) (by omega) _ _).symm
  | succ n ih =>
    have ih' := fun x => ih (by omega) x
    rw [shiftUp, swp_get _ (by rw [shiftUp_size]; omega) (by rw [shiftUp_size]; omega), ih', ih', ih']
    unfold rotAt
    by_cases e1 : x = a + n + 1
    · subst e1
      rw [if_pos rfl, if_neg (by omega), if_pos (by omega), if_neg (by omega), if_pos (by omega)]
      congr 1; omega
    · rw [if_neg e1]
      by_cases e2 : x = a + n
      · subst e2
        rw [if_pos rfl, if_neg (by omega), if_neg (by omega), if_pos (by omega)]
        congr 1; omega
      · rw [if_neg e2]
        by_cases e3 : a ≤ x ∧ x < a + n
        · rw [if_pos (by omega), if_pos (by omega)]
        · rw [if_neg (by omega), if_neg (by omega), if_neg (by omega), if_neg (by omega)]

theorem shiftUp_perm (d : Array α) (a n lo hi : Nat) (h0 : lo ≤ a) (h2 : a + n < hi) (h3 : hi ≤ d.size) : PermIn lo hi d (shiftUp d a n) := by
  induction n with
  | zero => exact permIn_refl _ _ _
  | succ n ih =>
    exact permIn_trans _ _ _ _ _ (ih (by omega)) (swp_permIn _ _ _ _ _ (by omega) (by omega) (by omega) (by omega) (by rw [shiftUp_size]; omega))

def shiftDn (d : Array α) (m : Nat) : Nat → Array α
  | 0 => d
  | n + 1 => swp (shiftDn d m n) (m - n) (m - n - 1)

theorem shiftDn_size (d : Array α) (m n : Nat) : (shiftDn d m n).size = d.size := by
  induction n with
  | zero => rfl
  | succ n ih => rw [shiftDn, size_swp, ih]

theorem shiftDn_get (d : Array α) (m n : Nat) (h : m < d.size) (hn : n ≤ m) (x : Nat) : (shiftDn d m n)[x]! = rotAt (m - n) m (m + 1) (fun y => d[y]!) x := by
  induction n generalizing x with
  | zero => rw [shiftDn]; exact (rot_id _ _ _ (Or.inl (by omega)) (by omega) (by omega) _ _).symm
  | succ n ih =>
    have ih' := fun x => ih (by omega) x
    rw [shiftDn, swp_get _ (by rw [shiftDn_size]; omega) (by rw [shiftDn_size]; omega), ih', ih', ih']
    unfold rotAt
    rw [show m + 1 - m = 1 by omega]
    by_cases e1 : x = m - n - 1
    · subst e1
      rw [if_pos rfl, if_pos (by omega), if_pos (by omega)]
      congr 1; omega
    · rw [if_neg e1]
      by_cases e2 : x = m - n
      · subst e2
        rw [if_pos rfl, if_neg (by omega), if_neg (by omega), if_neg (by omega), if_pos (by omega)]
      · rw [if_neg e2]
        by_cases e3 : m - n + 1 ≤ x ∧ x < m + 1
        · rw [if_neg (by omega), if_pos (by omega), if_neg (by omega), if_pos (by omega)]
        · rw [if_neg (by omega), if_neg (by omega), if_neg (by omega), if_neg (by omega)]

theorem shiftDn_perm (d : Array α) (m n lo hi : Nat) (h0 : lo + n ≤ m) (h2 : m < hi) (h3 : hi ≤ d.size) : PermIn lo hi d (shiftDn d m n) := by
  induction n with
  | zero => exact permIn_refl _ _ _
  | succ n ih =>
    exact permIn_trans _ _ _ _ _ (ih (by omega)) (swp_permIn _ _ _ _ _ (by omega) (by omega) (by omega) (by omega) (by rw [shiftDn_size]; omega))

/-- The search by halves. -/
def bsr (p : Nat → Bool) (i j : Nat) : Nat :=
  if i < j then (if p ((i + j) / 2) then bsr p ((i + j) / 2 + 1) j else bsr p i ((i + j) / 2)) else i
termination_by j - i

theorem bsr_ge (p : Nat → Bool) (i j : Nat) (h : j ≤ i) : bsr p i j = i := by rw [bsr, if_neg (by omega)]
theorem bsr_t (p : Nat → Bool) (i j : Nat) (h : i < j) (hp : p ((i + j) / 2) = true) : bsr p i j = bsr p ((i + j) / 2 + 1) j := by rw [bsr, if_pos h, if_pos hp]
theorem bsr_f (p : Nat → Bool) (i j : Nat) (h : i < j) (hp : p ((i + j) / 2) = false) : bsr p i j = bsr p i ((i + j) / 2) := by rw [bsr, if_pos h, if_neg (by rw [hp]; exact Bool.false_ne_true)]

theorem bsr_bd (p : Nat → Bool) : ∀ (n i j : Nat), j - i ≤ n → i ≤ j → i ≤ bsr p i j ∧ bsr p i j ≤ j := by
  intro n
  induction n with
  | zero => intro i j h1 h2; rw [bsr_ge p i j (by omega)]; omega
  | succ n ih =>
    intro i j h1 h2
    by_cases h : i < j
    · cases hp : p ((i + j) / 2) with
      | true => rw [bsr_t p i j h hp]; have := ih ((i + j) / 2 + 1) j (by omega) (by omega); omega
      | false => rw [bsr_f p i j h hp]; have := ih i ((i + j) / 2) (by omega) (by omega); omega
    · rw [bsr_ge p i j (by omega)]; omega

theorem bsr_cut (p : Nat → Bool) : ∀ (n i j : Nat), j - i ≤ n → i ≤ j → (∀ x y, i ≤ x → x ≤ y → y < j → p y = true → p x = true) →
    (∀ x, i ≤ x → x < bsr p i j → p x = true) ∧ (∀ x, bsr p i j ≤ x → x < j → p x = false) := by
  intro n
  induction n with
  | zero => intro i j h1 h2 _; rw [bsr_ge p i j (by omega)]; exact ⟨fun x a b => by omega, fun x a b => by omega⟩
  | succ n ih =>
    intro i j h1 h2 hm
    by_cases h : i < j
    · cases hp : p ((i + j) / 2) with
      | true =>
        rw [bsr_t p i j h hp]
        have := ih ((i + j) / 2 + 1) j (by omega) (by omega) (fun x y a b c => hm x y (by omega) b c)
        refine ⟨fun x a b => ?_, this.2⟩
        by_cases hx : x ≤ (i + j) / 2
        · exact hm x _ a hx (by omega) hp
        · exact this.1 x (by omega) b
      | false =>
        rw [bsr_f p i j h hp]
        have := ih i ((i + j) / 2) (by omega) (by omega) (fun x y a b c => hm x y a b (by omega))
        refine ⟨this.1, fun x a b => ?_⟩
        by_cases hx : x < (i + j) / 2
        · exact this.2 x a hx
        · cases hq : p x with
          | false => rfl
          | true => rw [hm _ x (by omega) (by omega) b hq] at hp; exact absurd hp (by decide)
    · rw [bsr_ge p i j (by omega)]; exact ⟨fun x a b => by omega, fun x a b => by omega⟩

theorem bsr_all (p : Nat → Bool) : ∀ (n i j : Nat), j - i ≤ n → i ≤ j → (∀ x, i ≤ x → x < j → p x = true) → bsr p i j = j := by
  intro n
  induction n with
  | zero => intro i j h1 h2 _; rw [bsr_ge p i j (by omega)]; omega
  | succ n ih =>
    intro i j h1 h2 hm
    by_cases h : i < j
    · rw [bsr_t p i j h (hm _ (by omega) (by omega))]
      exact ih _ j (by omega) (by omega) fun x a b => hm x (by omega) b
    · rw [bsr_ge p i j (by omega)]; omega

theorem bsr_none (p : Nat → Bool) : ∀ (n i j : Nat), j - i ≤ n → i ≤ j → (∀ x, i ≤ x → x < j → p x = false) → bsr p i j = i := by
  intro n
  induction n with
  | zero => intro i j h1 h2 _; rw [bsr_ge p i j (by omega)]
  | succ n ih =>
    intro i j h1 h2 hm
    by_cases h : i < j
    · rw [bsr_f p i j h (hm _ (by omega) (by omega))]
      exact ih i _ (by omega) (by omega) fun x a b => hm x a (by omega)
    · rw [bsr_ge p i j (by omega)]

variable {lt : α → α → Bool}

/-- What one merge does. -/
structure SymP (lt : α → α → Bool) (a m b : Nat) (d d' : Array α) : Prop where
  perm : PermIn a b d d'
  sort : SortedIn lt a m d → SortedIn lt m b d → SortedIn lt a b d'
  stay : SortedIn lt a b d → d' = d

theorem arr_ext {d d' : Array α} (hs : d'.size = d.size) (h : ∀ x : Nat, d'[x]! = d[x]!) : d' = d := by
  apply Array.ext hs
  intro i h1 h2
  have := h i
  rw [getElem!_pos d' i h1, getElem!_pos d i h2] at this
  exact this

theorem SortedIn.sub {a b a' b' : Nat} {d : Array α} (h : SortedIn lt a b d) (ha : a ≤ a') (hb : b' ≤ b) : SortedIn lt a' b' d := fun i j h1 h2 h3 => h i j (by omega) h2 (by omega)

theorem SortedIn.le (hS : SWO lt) {a b : Nat} {d : Array α} (h : SortedIn lt a b d) {i j : Nat} (h1 : a ≤ i) (h2 : i ≤ j) (h3 : j < b) : lt d[j]! d[i]! = false := by
  by_cases e : i = j
  · subst e; exact hS.irrefl _
  · exact h i j h1 (by omega) h3

omit [Inhabited α] in
/-- Not before and then before: not behind. -/
theorem SWO.lt_of {x y z : α} (hS : SWO lt) (h1 : lt x y = true) (h2 : lt x z = false) : lt y z = false := by
  cases h : lt y z with
  | false => rfl
  | true => rw [hS.trans _ _ _ h1 h] at h2; exact absurd h2 (by decide)

omit [Inhabited α] in
theorem SWO.lt_of' {x y z : α} (hS : SWO lt) (h1 : lt x y = true) (h2 : lt z y = false) : lt z x = false := by
  cases h : lt z x with
  | false => rfl
  | true => rw [hS.trans _ _ _ h h1] at h2; exact absurd h2 (by decide)

/-- The first part is one element. -/
theorem sym_a1 (hS : SWO lt) {a b : Nat} {d : Array α} (h2 : a + 1 < b) (hb : b ≤ d.size) {i : Nat} (hi : i = bsr (fun h => lt d[h]! d[a]!) (a + 1) b) :
    SymP lt a (a + 1) b d (shiftUp d a (i - 1 - a)) := by
  have hbd := bsr_bd (fun h => lt d[h]! d[a]!) _ (a + 1) b (Nat.le_refl _) (by omega)
  rw [← hi] at hbd
  obtain ⟨k, rfl⟩ : ∃ k, i = a + k + 1 := ⟨i - 1 - a, by omega⟩
  have ek : a + k + 1 - 1 - a = k := by omega
  rw [ek]
  have hg := fun x => shiftUp_get d a k (by omega) x
  refine ⟨shiftUp_perm d a k a b (by omega) (by omega) hb, ?_, ?_⟩
  · intro _ hs
    have hc := bsr_cut (fun h => lt d[h]! d[a]!) _ (a + 1) b (Nat.le_refl _) (by omega) (fun x y hx hxy hy e => by
      cases h : lt d[x]! d[a]! with
      | true => rfl
      | false => rw [hS.ntrans _ _ _ (SortedIn.le hS hs hx hxy hy) h] at e; exact absurd e (by decide))
    rw [← hi] at hc
    intro x y hax hxy hyb
    rw [hg, hg]
    unfold rotAt
    by_cases y1 : y < a + k
    · rw [if_pos (by omega), if_pos (by omega)]
      exact hs _ _ (by omega) (by omega) (by omega)
    · by_cases y2 : y = a + k
      · subst y2
        rw [if_neg (by omega), if_pos (by omega), if_pos (by omega), show a + k - (a + k + 1 - (a + 1)) = a by omega]
        exact SWO.asymmA hS (hc.1 _ (by omega) (by omega))
      · rw [if_neg (by omega), if_neg (by omega)]
        by_cases x1 : x < a + k
        · rw [if_pos (by omega)]
          exact hs _ _ (by omega) (by omega) (by omega)
        · by_cases x2 : x = a + k
          · subst x2
            rw [if_neg (by omega), if_pos (by omega), show a + k - (a + k + 1 - (a + 1)) = a by omega]
            exact hc.2 _ (by omega) hyb
          · rw [if_neg (by omega), if_neg (by omega)]
            exact hs _ _ (by omega) hxy hyb
  · intro hs
    have hn := bsr_none (fun h => lt d[h]! d[a]!) _ (a + 1) b (Nat.le_refl _) (by omega) (fun x hx hx2 => hs a x (Nat.le_refl _) (by omega) hx2)
    rw [← hi] at hn
    obtain rfl : k = 0 := by omega
    rfl

/-- The second part is one element. -/
theorem sym_b1 (hS : SWO lt) {a m : Nat} {d : Array α} (h1 : a < m) (hb : m + 1 ≤ d.size) {i : Nat} (hi : i = bsr (fun h => !lt d[m]! d[h]!) a m) :
    SymP lt a m (m + 1) d (shiftDn d m (m - i)) := by
  have hbd := bsr_bd (fun h => !lt d[m]! d[h]!) _ a m (Nat.le_refl _) (by omega)
  rw [← hi] at hbd
  have hg := fun x => shiftDn_get d m (m - i) (by omega) (by omega) x
  have ei : m - (m - i) = i := by omega
  rw [ei] at hg
  refine ⟨shiftDn_perm d m (m - i) a (m + 1) (by omega) (by omega) hb, ?_, ?_⟩
  · intro hs _
    have hc := bsr_cut (fun h => !lt d[m]! d[h]!) _ a m (Nat.le_refl _) (by omega) (fun x y hx hxy hy e => by
      have e' : lt d[m]! d[y]! = false := by simpa using e
      show (!lt d[m]! d[x]!) = true
      rw [hS.ntrans _ _ _ e' (SortedIn.le hS hs hx hxy hy)]; rfl)
    rw [← hi] at hc
    have c1 : ∀ x, a ≤ x → x < i → lt d[m]! d[x]! = false := fun x h h' => by simpa using hc.1 x h h'
    have c2 : ∀ x, i ≤ x → x < m → lt d[m]! d[x]! = true := fun x h h' => by simpa using hc.2 x h h'
    intro x y hax hxy hyb
    rw [hg, hg]
    unfold rotAt
    by_cases y1 : y < i
    · rw [if_neg (by omega), if_neg (by omega), if_neg (by omega), if_neg (by omega)]
      exact hs _ _ hax hxy (by omega)
    · by_cases y2 : y = i
      · subst y2
        rw [if_pos (by omega), if_neg (by omega), if_neg (by omega), show y + (m - y) = m by omega]
        exact c1 x hax (by omega)
      · rw [if_neg (by omega), if_pos (by omega), show m + 1 - m = 1 by omega]
        by_cases x1 : x < i
        · rw [if_neg (by omega), if_neg (by omega)]
          exact hs _ _ hax (by omega) (by omega)
        · by_cases x2 : x = i
          · subst x2
            rw [if_pos (by omega), show x + (m - x) = m by omega]
            exact SWO.asymmA hS (c2 _ (by omega) (by omega))
          · rw [if_neg (by omega), if_pos (by omega)]
            exact hs _ _ (by omega) (by omega) (by omega)
  · intro hs
    have hn := bsr_all (fun h => !lt d[m]! d[h]!) _ a m (Nat.le_refl _) (by omega) (fun x hx hx2 => by
      show (!lt d[m]! d[x]!) = true
      rw [hs x m hx hx2 (by omega)]; rfl)
    rw [← hi] at hn
    obtain rfl : i = m := by omega
    rw [Nat.sub_self]
    rfl

/-- Where the search of the merge ends. -/
theorem sym_bd {a m b mid s0 r0 st : Nat} {p : Nat → Bool} (h1 : a < m) (h2 : m < b) (hmid : mid = (a + b) / 2) (hs0 : s0 = if mid < m then mid + m - b else a) (hr0 : r0 = if mid < m then mid else m) (hst : st = bsr p s0 r0) :
    a ≤ s0 ∧ s0 ≤ r0 ∧ s0 ≤ st ∧ st ≤ r0 ∧ r0 ≤ mid ∧ r0 ≤ m ∧ mid + m - st ≤ b ∧ m ≤ mid + m - st ∧ mid ≤ mid + m - st ∧ mid + m ≤ s0 + b := by
  by_cases hm : mid < m
  · rw [if_pos hm] at hs0 hr0
    have := bsr_bd p _ s0 r0 (Nat.le_refl _) (by omega)
    rw [← hst] at this
    omega
  · rw [if_neg hm] at hs0 hr0
    have := bsr_bd p _ s0 r0 (Nat.le_refl _) (by omega)
    rw [← hst] at this
    omega

set_option maxHeartbeats 1000000 in
/-- The merge: the two middle parts change places, then each half is merged. -/
theorem sym_gen (hS : SWO lt) {a m b : Nat} {d d1 d2 d3 : Array α} (h1 : a < m) (h2 : m < b) (hb : b ≤ d.size) {mid s0 r0 st en : Nat} (hmid : mid = (a + b) / 2)
    (hs0 : s0 = if mid < m then mid + m - b else a) (hr0 : r0 = if mid < m then mid else m) (hst : st = bsr (fun c => !lt d[mid + m - 1 - c]! d[c]!) s0 r0) (hen : en = mid + m - st)
    (hp1 : PermIn a b d d1) (hg1 : ∀ x : Nat, d1[x]! = rotAt st m en (fun y => d[y]!) x)
    (h2t : a < st ∧ st < mid → SymP lt a st mid d1 d2) (h2f : ¬ (a < st ∧ st < mid) → d2 = d1)
    (h3t : mid < en ∧ en < b → SymP lt mid en b d2 d3) (h3f : ¬ (mid < en ∧ en < b) → d3 = d2) : SymP lt a m b d d3 := by
  obtain ⟨b1, b2, b3, b4, b5, b6, b7, b8, b9, b10⟩ := sym_bd h1 h2 hmid hs0 hr0 hst
  rw [← hen] at b7 b8 b9
  have hcase : (mid < m ∧ r0 = mid ∧ s0 = mid + m - b) ∨ (m ≤ mid ∧ r0 = m ∧ s0 = a) := by
    by_cases hm : mid < m
    · rw [if_pos hm] at hs0 hr0; exact Or.inl ⟨hm, hr0, hs0⟩
    · rw [if_neg hm] at hs0 hr0; exact Or.inr ⟨by omega, hr0, hs0⟩
  have hp2 : PermIn a mid d1 d2 := by
    by_cases c : a < st ∧ st < mid
    · exact (h2t c).perm
    · rw [h2f c]; exact permIn_refl _ _ _
  have hp3 : PermIn mid b d2 d3 := by
    by_cases c : mid < en ∧ en < b
    · exact (h3t c).perm
    · rw [h3f c]; exact permIn_refl _ _ _
  have z1 := hp1.1
  have z2 := hp2.1
  have z3 := hp3.1
  refine ⟨permIn_trans _ _ _ _ _ (permIn_trans _ _ _ _ _ hp1 (permIn_mono _ _ _ _ _ _ (Nat.le_refl _) (by omega) (by omega) hp2)) (permIn_mono _ _ _ _ _ _ (by omega) (Nat.le_refl _) (by omega) hp3), ?_, ?_⟩
  · intro hL hR
    have hmono : ∀ x y, s0 ≤ x → x ≤ y → y < r0 → (fun c => !lt d[mid + m - 1 - c]! d[c]!) y = true → (fun c => !lt d[mid + m - 1 - c]! d[c]!) x = true := by
      intro x y hx hxy hy e
      have e' : lt d[mid + m - 1 - y]! d[y]! = false := by simpa using e
      show (!lt d[mid + m - 1 - x]! d[x]!) = true
      have q1 : lt d[y]! d[x]! = false := SortedIn.le hS hL (by omega) hxy (by omega)
      have q2 : lt d[mid + m - 1 - x]! d[mid + m - 1 - y]! = false := SortedIn.le hS hR (by omega) (by omega) (by omega)
      rw [hS.ntrans _ _ _ q2 (hS.ntrans _ _ _ e' q1)]; rfl
    have hc := bsr_cut _ _ s0 r0 (Nat.le_refl _) b2 hmono
    rw [← hst] at hc
    have c1 : ∀ x, s0 ≤ x → x < st → lt d[mid + m - 1 - x]! d[x]! = false := fun x h h' => by simpa using hc.1 x h h'
    have c2 : ∀ x, st ≤ x → x < r0 → lt d[mid + m - 1 - x]! d[x]! = true := fun x h h' => by simpa using hc.2 x h h'
    -- the four parts of the row
    have g1 : ∀ x, a ≤ x → x < st → d1[x]! = d[x]! := fun x h h' => by rw [hg1]; unfold rotAt; rw [if_neg (by omega), if_neg (by omega)]
    have g2 : ∀ x, st ≤ x → x < mid → d1[x]! = d[x + (m - st)]! := fun x h h' => by rw [hg1]; unfold rotAt; rw [if_pos (by omega)]
    have g3 : ∀ x, mid ≤ x → x < en → d1[x]! = d[x - (en - m)]! := fun x h h' => by rw [hg1]; unfold rotAt; rw [if_neg (by omega), if_pos (by omega)]
    have g4 : ∀ x, en ≤ x → d1[x]! = d[x]! := fun x h => by rw [hg1]; unfold rotAt; rw [if_neg (by omega), if_neg (by omega)]
    have sA : SortedIn lt a st d1 := fun x y hx hxy hy => by rw [g1 x hx (by omega), g1 y (by omega) hy]; exact hL _ _ hx hxy (by omega)
    have sB : SortedIn lt st mid d1 := fun x y hx hxy hy => by rw [g2 x hx (by omega), g2 y (by omega) hy]; exact hR _ _ (by omega) (by omega) (by omega)
    have sC : SortedIn lt mid en d1 := fun x y hx hxy hy => by rw [g3 x hx (by omega), g3 y (by omega) hy]; exact hL _ _ (by omega) (by omega) (by omega)
    have sD : SortedIn lt en b d1 := fun x y hx hxy hy => by rw [g4 x hx, g4 y (by omega)]; exact hR _ _ (by omega) (by omega) (by omega)
    have cross1 : ∀ x, a ≤ x → x < mid → ∀ y, mid ≤ y → y < b → lt d1[y]! d1[x]! = false := by
      intro x hx hx2 y hy hy2
      by_cases xs : x < st
      · rw [g1 x hx xs]
        by_cases ye : y < en
        · rw [g3 y hy ye]; exact SortedIn.le hS hL hx (by omega) (by omega)
        · rw [g4 y (by omega)]
          -- the greatest of the first against the least of the last
          have q0 : s0 < st := by
            rcases hcase with ⟨_, _, e⟩ | ⟨_, _, e⟩ <;> omega
          have q1 := c1 (st - 1) (by omega) (by omega)
          rw [show mid + m - 1 - (st - 1) = en by omega] at q1
          have q2 : lt d[st - 1]! d[x]! = false := SortedIn.le hS hL hx (by omega) (by omega)
          have q3 : lt d[y]! d[en]! = false := SortedIn.le hS hR (by omega) (by omega) hy2
          exact hS.ntrans _ _ _ q3 (hS.ntrans _ _ _ q1 q2)
      · rw [g2 x (by omega) hx2]
        by_cases ye : y < en
        · rw [g3 y hy ye]
          have q0 : st < r0 := by
            rcases hcase with ⟨_, e, _⟩ | ⟨_, e, _⟩ <;> omega
          have q1 := SWO.asymmA hS (c2 st (Nat.le_refl _) q0)
          rw [show mid + m - 1 - st = en - 1 by omega] at q1
          have q2 : lt d[y - (en - m)]! d[st]! = false := SortedIn.le hS hL (by omega) (by omega) (by omega)
          have q3 : lt d[en - 1]! d[x + (m - st)]! = false := SortedIn.le hS hR (by omega) (by omega) (by omega)
          -- before: strictly
          have q4 := c2 st (Nat.le_refl _) q0
          rw [show mid + m - 1 - st = en - 1 by omega] at q4
          exact hS.ntrans _ _ _ q2 (hS.ntrans _ _ _ q1 q3)
        · rw [g4 y (by omega)]; exact SortedIn.le hS hR (by omega) (by omega) hy2
    have s2 : SortedIn lt a mid d2 := by
      by_cases c : a < st ∧ st < mid
      · exact (h2t c).sort sA sB
      · rw [h2f c]
        by_cases e : a = st
        · rw [e]; exact sB
        · rw [show mid = st by omega]; exact sA
    have k2 : ∀ x, mid ≤ x → d2[x]! = d1[x]! := fun x h => hp2.2.1 x (Or.inr h)
    have k3 : ∀ x, x < mid → d3[x]! = d2[x]! := fun x h => hp3.2.1 x (Or.inl h)
    have s3 : SortedIn lt mid b d3 := by
      by_cases c : mid < en ∧ en < b
      · exact (h3t c).sort (fun x y hx hxy hy => by rw [k2 x hx, k2 y (by omega)]; exact sC x y hx hxy hy) (fun x y hx hxy hy => by rw [k2 x (by omega), k2 y (by omega)]; exact sD x y hx hxy hy)
      · rw [h3f c]
        intro x y hx hxy hy
        rw [k2 x hx, k2 y (by omega)]
        by_cases e : mid = en
        · exact sD x y (by omega) hxy hy
        · exact sC x y hx hxy (by omega)
    have c3 : ∀ x, a ≤ x → x < mid → ∀ y, mid ≤ y → y < b → lt d3[y]! d3[x]! = false := by
      intro x hx hx2
      rw [k3 x hx2]
      refine permIn_all d2 d3 mid b (fun z => lt z d2[x]! = false) (by omega) hp3 ?_
      intro y hy hy2
      rw [k2 y hy]
      exact permIn_all d1 d2 a mid (fun z => lt d1[y]! z = false) (by omega) hp2 (fun x hx hx2 => cross1 x hx hx2 y hy hy2) x hx hx2
    intro x y hx hxy hy
    by_cases ym : y < mid
    · rw [k3 x (by omega), k3 y ym]; exact s2 x y hx hxy ym
    · by_cases xm : x < mid
      · exact c3 x hx xm y (by omega) hy
      · exact s3 x y (by omega) hxy hy
  · intro hs
    have hall : st = r0 := by
      rw [hst]
      refine bsr_all _ _ s0 r0 (Nat.le_refl _) b2 fun x hx hx2 => ?_
      show (!lt d[mid + m - 1 - x]! d[x]!) = true
      rw [SortedIn.le hS hs (by omega) (by omega) (by omega)]; rfl
    have e1 : d1 = d := arr_ext z1 fun x => by
      rw [hg1]
      exact rot_id _ _ _ (by rcases hcase with ⟨_, e, _⟩ | ⟨_, e, _⟩ <;> omega) (by omega) b8 _ _
    have e2 : d2 = d := by
      by_cases c : a < st ∧ st < mid
      · have := (h2t c).stay
        rw [e1] at this
        exact this (SortedIn.sub hs (Nat.le_refl _) (by omega))
      · rw [h2f c, e1]
    by_cases c : mid < en ∧ en < b
    · have := (h3t c).stay
      rw [e2] at this
      exact this (SortedIn.sub hs (by omega) (Nat.le_refl _))
    · rw [h3f c, e2]

end Go.Proofs.Ytkinhhkodaacjaa
namespace Go.Proofs.Ytkinhhkodaacjaa
open Go.Sort
variable {α : Type} [Inhabited α] {lt : α → α → Bool}

theorem insInner_stay (a : Nat) (i : Nat) (d : Array α) (h : a < i → lt d[i]! d[i - 1]! = false) : insInner lt a i d = d := by
  cases i with
  | zero => rfl
  | succ i =>
    rw [insInner]
    by_cases c : a < i + 1
    · have := h c
      rw [Nat.add_sub_cancel] at this
      rw [this]; simp
    · have : decide (i + 1 > a) = false := by simp; omega
      rw [this]; rfl

theorem insOuter_stay (a b : Nat) (d : Array α) (h : SortedIn lt a b d) : ∀ n i, b - i = n → a < i → insOuter lt a b i d = d := by
  intro n
  induction n with
  | zero => intro i hn ha; rw [insOuter, if_neg (by omega)]
  | succ n ih =>
    intro i hn ha
    rw [insOuter, if_pos (by omega), insInner_stay a i d (fun _ => h (i - 1) i (by omega) (by omega) (by omega))]
    exact ih (i + 1) (by omega) (by omega)

theorem ins_stay (a b : Nat) (d : Array α) (h : SortedIn lt a b d) : insertionSort lt d a b = d := insOuter_stay a b d h _ _ rfl (by omega)

/-- Sorted block by block. -/
structure I2 (lt : α → α → Bool) (n bs : Nat) (d dk : Array α) : Prop where
  perm : PermIn 0 n d dk
  blks : ∀ q, SortedIn lt (q * bs) (min ((q + 1) * bs) n) dk
  stay : SortedIn lt 0 n d → dk = d

structure I1 (lt : α → α → Bool) (n q0 : Nat) (d dk : Array α) : Prop where
  perm : PermIn 0 n d dk
  blks : ∀ q, q < q0 → SortedIn lt (q * 20) ((q + 1) * 20) dk
  stay : SortedIn lt 0 n d → dk = d

theorem I1.start (n : Nat) (d : Array α) : I1 lt n 0 d d := ⟨permIn_refl _ _ _, fun _ h => absurd h (Nat.not_lt_zero _), fun _ => rfl⟩

theorem sort_keep {a b a' b' : Nat} {d d' : Array α} (h : PermIn a b d d') (hs : SortedIn lt a' b' d) (ho : b' ≤ a ∨ b ≤ a') : SortedIn lt a' b' d' := fun i j h1 h2 h3 => by
  rw [h.2.1 i (by omega), h.2.1 j (by omega)]
  exact hs i j h1 h2 h3

theorem I1.step (hS : SWO lt) {n q0 : Nat} {d dk : Array α} (hn : n = d.size) (h : I1 lt n q0 d dk) (hb : q0 * 20 + 20 ≤ n) : I1 lt n (q0 + 1) d (insertionSort lt dk (q0 * 20) (q0 * 20 + 20)) := by
  have hz := h.perm.1
  have hi := insertionSort_holds hS dk (q0 * 20) (q0 * 20 + 20) (by omega) (by omega)
  refine ⟨permIn_trans _ _ _ _ _ h.perm (permIn_mono _ _ _ _ _ _ (by omega) hb (by omega) hi.1), fun q hq => ?_, fun hs => ?_⟩
  · by_cases e : q = q0
    · subst e; rw [show (q + 1) * 20 = q * 20 + 20 by omega]; exact hi.2
    · exact sort_keep hi.1 (h.blks q (by omega)) (by omega)
  · have := h.stay hs
    subst this
    exact ins_stay _ _ _ (SortedIn.sub hs (by omega) hb)

theorem I1.done (hS : SWO lt) {n q0 : Nat} {d dk : Array α} (hn : n = d.size) (h : I1 lt n q0 d dk) (ha : q0 * 20 ≤ n) (hb : n < q0 * 20 + 20) : I2 lt n 20 d (insertionSort lt dk (q0 * 20) n) := by
  have hz := h.perm.1
  have hi := insertionSort_holds hS dk (q0 * 20) n ha (by omega)
  refine ⟨permIn_trans _ _ _ _ _ h.perm (permIn_mono _ _ _ _ _ _ (by omega) (Nat.le_refl _) (by omega) hi.1), fun q => ?_, fun hs => ?_⟩
  · by_cases e : q < q0
    · rw [show min ((q + 1) * 20) n = (q + 1) * 20 by omega]
      exact sort_keep hi.1 (h.blks q e) (by omega)
    · by_cases e2 : q = q0
      · subst e2; rw [show min ((q + 1) * 20) n = n by omega]; exact hi.2
      · exact fun i j h1 h2 h3 => by omega
  · have := h.stay hs
    subst this
    exact ins_stay _ _ _ (SortedIn.sub hs (by omega) (Nat.le_refl _))

structure I3 (lt : α → α → Bool) (n bs q0 : Nat) (d dk : Array α) : Prop where
  perm : PermIn 0 n d dk
  big : ∀ q, q < q0 → SortedIn lt (q * (2 * bs)) ((q + 1) * (2 * bs)) dk
  small : ∀ q, 2 * q0 ≤ q → SortedIn lt (q * bs) (min ((q + 1) * bs) n) dk
  stay : SortedIn lt 0 n d → dk = d

theorem I2.start {n bs : Nat} {d dk : Array α} (h : I2 lt n bs d dk) : I3 lt n bs 0 d dk := ⟨h.perm, fun _ h => absurd h (Nat.not_lt_zero _), fun q _ => h.blks q, h.stay⟩

theorem bs_facts (bs q0 : Nat) : 2 * q0 * bs = q0 * (2 * bs) ∧ (2 * q0 + 1) * bs = q0 * (2 * bs) + bs ∧ (2 * q0 + 1 + 1) * bs = q0 * (2 * bs) + 2 * bs ∧ (q0 + 1) * (2 * bs) = q0 * (2 * bs) + 2 * bs ∧
    (∀ q, q < q0 → (q + 1) * (2 * bs) ≤ q0 * (2 * bs)) ∧ (∀ q, 2 * (q0 + 1) ≤ q → q0 * (2 * bs) + 2 * bs ≤ q * bs) ∧ (∀ q, q0 < q → q0 * (2 * bs) + 2 * bs ≤ q * (2 * bs)) := by
  have e : 2 * q0 * bs = q0 * (2 * bs) := by rw [Nat.mul_comm 2 q0, Nat.mul_assoc]
  refine ⟨e, by rw [Nat.add_mul, e]; omega, by rw [Nat.add_mul, Nat.add_mul, e]; omega, by rw [Nat.add_mul]; omega, fun q h => Nat.mul_le_mul_right _ (by omega), fun q h => ?_, fun q h => ?_⟩
  · have := Nat.mul_le_mul_right bs h
    rw [show 2 * (q0 + 1) = 2 * q0 + 2 by omega, Nat.add_mul, e] at this
    exact this
  · have := Nat.mul_le_mul_right (2 * bs) (show q0 + 1 ≤ q from h)
    rw [Nat.add_mul] at this
    omega

theorem I3.step {n bs q0 : Nat} {d dk dk' : Array α} (hn : n = d.size) (h : I3 lt n bs q0 d dk) (hb : q0 * (2 * bs) + 2 * bs ≤ n)
    (hm : SymP lt (q0 * (2 * bs)) (q0 * (2 * bs) + bs) (q0 * (2 * bs) + 2 * bs) dk dk') : I3 lt n bs (q0 + 1) d dk' := by
  obtain ⟨e1, e2, e3, e4, e5, e6, e7⟩ := bs_facts bs q0
  have hz := h.perm.1
  have k0 := h.small (2 * q0) (Nat.le_refl _)
  have k1 := h.small (2 * q0 + 1) (by omega)
  rw [e1, e2, Nat.min_eq_left (by omega)] at k0
  rw [e2, e3, Nat.min_eq_left (by omega)] at k1
  refine ⟨permIn_trans _ _ _ _ _ h.perm (permIn_mono _ _ _ _ _ _ (by omega) hb (by omega) hm.perm), fun q hq => ?_, fun q hq => ?_, fun hs => ?_⟩
  · by_cases e : q = q0
    · subst e; rw [e4]; exact hm.sort k0 k1
    · exact sort_keep hm.perm (h.big q (by omega)) (Or.inl (e5 q (by omega)))
  · exact sort_keep hm.perm (h.small q (by omega)) (Or.inr (e6 q hq))
  · have := h.stay hs
    subst this
    exact hm.stay (SortedIn.sub hs (by omega) hb)

theorem I3.done {n bs q0 : Nat} {d dk dk' : Array α} (hn : n = d.size) (h : I3 lt n bs q0 d dk) (ha : q0 * (2 * bs) ≤ n) (hb : n < q0 * (2 * bs) + 2 * bs)
    (hm : q0 * (2 * bs) + bs < n → SymP lt (q0 * (2 * bs)) (q0 * (2 * bs) + bs) n dk dk') (hm' : ¬ q0 * (2 * bs) + bs < n → dk' = dk) : I2 lt n (2 * bs) d dk' := by
  obtain ⟨e1, e2, e3, e4, e5, e6, e7⟩ := bs_facts bs q0
  have hz := h.perm.1
  have k0 := h.small (2 * q0) (Nat.le_refl _)
  have k1 := h.small (2 * q0 + 1) (by omega)
  rw [e1, e2] at k0
  rw [e2, e3, Nat.min_eq_right (by omega)] at k1
  have hp : PermIn (q0 * (2 * bs)) n dk dk' := by
    by_cases c : q0 * (2 * bs) + bs < n
    · exact (hm c).perm
    · rw [hm' c]; exact permIn_refl _ _ _
  refine ⟨permIn_trans _ _ _ _ _ h.perm (permIn_mono _ _ _ _ _ _ (by omega) (Nat.le_refl _) (by omega) hp), fun q => ?_, fun hs => ?_⟩
  · by_cases e : q < q0
    · have := e5 q e
      rw [Nat.min_eq_left (by omega)]
      exact sort_keep hp (h.big q e) (Or.inl this)
    · by_cases e' : q = q0
      · subst e'
        rw [e4, Nat.min_eq_right (by omega)]
        by_cases c : q * (2 * bs) + bs < n
        · rw [Nat.min_eq_left (by omega)] at k0
          exact (hm c).sort k0 k1
        · rw [hm' c]
          rw [Nat.min_eq_right (by omega)] at k0
          exact k0
      · have := e7 q (by omega)
        exact fun i j h1 h2 h3 => by omega
  · have := h.stay hs
    subst this
    by_cases c : q0 * (2 * bs) + bs < n
    · exact (hm c).stay (SortedIn.sub hs (by omega) (Nat.le_refl _))
    · exact hm' c

theorem I2.sorted {n bs : Nat} {d dk : Array α} (h : I2 lt n bs d dk) (hb : n ≤ bs) : SortedIn lt 0 n dk := by
  have := h.blks 0
  rw [Nat.zero_mul, Nat.zero_add, Nat.one_mul, Nat.min_eq_right hb] at this
  exact this

end Go.Proofs.Ytkinhhkodaacjaa
