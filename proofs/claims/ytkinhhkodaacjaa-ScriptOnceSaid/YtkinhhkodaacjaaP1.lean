/- The order of faults; rising lists. -/
import Derived.Test.YtkinhhkodaacjaaF2
namespace Go.Proofs.Ytkinhhkodaacjaa

def lexC : List Int → List Int → Int
  | x :: xs, y :: ys => if x < y then -1 else if y < x then 1 else lexC xs ys
  | _, _ => 0
theorem lexC_swap : ∀ xs ys : List Int, lexC ys xs = - lexC xs ys
  | [], [] => rfl
  | [], _ :: _ => rfl
  | _ :: _, [] => rfl
  | x :: xs, y :: ys => by
    unfold lexC
    have := lexC_swap xs ys
    by_cases h1 : x < y
    · rw [if_neg (by omega), if_pos h1, if_pos h1]; rfl
    · by_cases h2 : y < x
      · rw [if_pos h2, if_neg h1, if_pos h2]
      · rw [if_neg h2, if_neg h1, if_neg h1, if_neg h2, this]
theorem lexC_eq : ∀ {xs ys : List Int}, xs.length = ys.length → lexC xs ys = 0 → xs = ys
  | [], [], _, _ => rfl
  | [], _ :: _, h, _ => by simp at h
  | _ :: _, [], h, _ => by simp at h
  | x :: xs, y :: ys, h, e => by
    unfold lexC at e
    by_cases h1 : x < y
    · rw [if_pos h1] at e; omega
    · by_cases h2 : y < x
      · rw [if_neg h1, if_pos h2] at e; omega
      · rw [if_neg h1, if_neg h2] at e
        rw [lexC_eq (by simpa using h) e, show x = y by omega]
theorem lexC_self : ∀ xs : List Int, lexC xs xs = 0
  | [] => rfl
  | x :: xs => by unfold lexC; rw [if_neg (by omega), if_neg (by omega), lexC_self xs]
theorem lexC_le : ∀ {xs ys zs : List Int}, xs.length = ys.length → ys.length = zs.length → lexC xs ys ≤ 0 → lexC ys zs ≤ 0 → lexC xs zs ≤ 0
  | [], _, _, _, _, _, _ => by simp [lexC]
  | x :: xs, [], _, h, _, _, _ => by simp at h
  | x :: xs, y :: ys, [], _, h, _, _ => by simp at h
  | x :: xs, y :: ys, z :: zs, h, h', e1, e2 => by
    unfold lexC at e1 e2 ⊢
    have ih := @lexC_le xs ys zs (by simpa using h) (by simpa using h')
    by_cases h1 : x < y <;> by_cases h2 : y < x <;> by_cases h3 : y < z <;> by_cases h4 : z < y <;> by_cases h5 : x < z <;> by_cases h6 : z < x <;> simp_all <;> omega
theorem lexC_lt {xs ys zs : List Int} (h : xs.length = ys.length) (h' : ys.length = zs.length) (e1 : lexC xs ys < 0) (e2 : lexC ys zs ≤ 0) : lexC xs zs < 0 := by
  have h3 := lexC_le h h' (by omega) e2
  rcases Int.lt_or_eq_of_le h3 with h3 | h3
  · exact h3
  · have := lexC_eq (h.trans h') h3
    subst this
    rw [lexC_swap] at e2
    omega
theorem lexC_lt' {xs ys zs : List Int} (h : xs.length = ys.length) (h' : ys.length = zs.length) (e1 : lexC xs ys ≤ 0) (e2 : lexC ys zs < 0) : lexC xs zs < 0 := by
  have h3 := lexC_le h h' e1 (by omega)
  rcases Int.lt_or_eq_of_le h3 with h3 | h3
  · exact h3
  · have := lexC_eq (h.trans h') h3
    subst this
    rw [lexC_swap] at e1
    omega
def keyF (x : Fa) : List Int := [x.r, x.s, x.k, x.n, x.c, x.a, x.b]
theorem keyF_inj {x y : Fa} (h : keyF x = keyF y) : x = y := by
  obtain ⟨k, n, c, r, s, a, b⟩ := x
  obtain ⟨k', n', c', r', s', a', b'⟩ := y
  simp [keyF] at h
  simp [h]
theorem orL_lex (x y : Int) (l : List Int) : orL (cmpI x y :: l) = if x < y then -1 else if y < x then 1 else orL l := by
  show (if cmpI x y = 0 then orL l else cmpI x y) = _
  unfold cmpI
  by_cases h1 : x < y
  · simp [h1]
  · by_cases h2 : y < x
    · simp [h1, h2]
    · simp [h1, h2]
theorem cmpF_lex (x y : Fa) : cmpF x y = lexC (keyF x) (keyF y) := by
  unfold cmpF keyF lexC
  rw [orL_lex]
  simp only [lexC, orL_lex]
  rfl
theorem cmpF_self (x : Fa) : cmpF x x = 0 := by rw [cmpF_lex]; exact lexC_self _
theorem cmpF_eq {x y : Fa} (h : cmpF x y = 0) : x = y := by rw [cmpF_lex] at h; exact keyF_inj (lexC_eq rfl h)
theorem cmpF_swap (x y : Fa) : cmpF y x = - cmpF x y := by rw [cmpF_lex, cmpF_lex]; exact lexC_swap _ _
theorem cmpF_lt {x y z : Fa} (h : cmpF x y < 0) (h' : cmpF y z ≤ 0) : cmpF x z < 0 := by rw [cmpF_lex] at h h' ⊢; exact lexC_lt (ys := keyF y) rfl rfl h h'
theorem cmpF_le {x y z : Fa} (h : cmpF x y ≤ 0) (h' : cmpF y z ≤ 0) : cmpF x z ≤ 0 := by rw [cmpF_lex] at h h' ⊢; exact lexC_le (ys := keyF y) rfl rfl h h'
/-- Rising, each once. -/
def Up (l : List Fa) : Prop := l.Pairwise fun x y => cmpF x y < 0
theorem up_unique : ∀ {l m : List Fa}, Up l → Up m → (∀ x, x ∈ l ↔ x ∈ m) → l = m
  | [], [], _, _, _ => rfl
  | [], y :: m, _, _, h => by have := (h y).2 (by simp); simp at this
  | x :: l, [], _, _, h => by have := (h x).1 (by simp); simp at this
  | x :: l, y :: m, hl, hm, h => by
    have hl' := List.pairwise_cons.1 hl
    have hm' := List.pairwise_cons.1 hm
    have hxy : x = y := by
      rcases List.mem_cons.1 ((h x).1 (by simp)) with e | e
      · exact e
      · rcases List.mem_cons.1 ((h y).2 (by simp)) with e' | e'
        · exact e'.symm
        · have h1 := hm'.1 x e
          have h2 := hl'.1 y e'
          rw [cmpF_swap] at h1
          omega
    subst hxy
    congr 1
    refine up_unique hl'.2 hm'.2 fun z => ?_
    have hz := h z
    constructor
    · intro hzl
      rcases List.mem_cons.1 (hz.1 (List.mem_cons_of_mem _ hzl)) with e | e
      · subst e
        have := hl'.1 z hzl
        rw [cmpF_self] at this
        omega
      · exact e
    · intro hzm
      rcases List.mem_cons.1 (hz.2 (List.mem_cons_of_mem _ hzm)) with e | e
      · subst e
        have := hm'.1 z hzm
        rw [cmpF_self] at this
        omega
      · exact e
/-- With a fault at its place, if it is not there. -/
def putF : List Fa → Fa → List Fa
  | [], f => [f]
  | x :: l, f => if x = f then x :: l else if cmpF f x < 0 then f :: x :: l else x :: putF l f
theorem putF_mem (f : Fa) : ∀ (l : List Fa) (x : Fa), x ∈ putF l f ↔ x = f ∨ x ∈ l
  | [], x => by simp [putF]
  | y :: l, x => by
    unfold putF
    by_cases h : y = f
    · rw [if_pos h]
      subst h
      simp
    · rw [if_neg h]
      by_cases h2 : cmpF f y < 0
      · rw [if_pos h2]; simp
      · rw [if_neg h2]
        have := putF_mem f l x
        simp only [List.mem_cons, this]
        constructor
        · rintro (h | h | h) <;> simp [h]
        · rintro (h | h | h) <;> simp [h]
theorem putF_up (f : Fa) : ∀ {l : List Fa}, Up l → Up (putF l f)
  | [], _ => by simp [putF, Up]
  | y :: l, h => by
    have h' := List.pairwise_cons.1 h
    unfold putF
    by_cases h1 : y = f
    · rw [if_pos h1]; exact h
    · rw [if_neg h1]
      by_cases h2 : cmpF f y < 0
      · rw [if_pos h2]
        refine List.pairwise_cons.2 ⟨fun z hz => ?_, h⟩
        rcases List.mem_cons.1 hz with e | e
        · rw [e]; exact h2
        · exact cmpF_lt h2 (by have := h'.1 z e; omega)
      · rw [if_neg h2]
        refine List.pairwise_cons.2 ⟨fun z hz => ?_, putF_up f h'.2⟩
        rcases (putF_mem f l z).1 hz with e | e
        · subst e
          have hs := cmpF_swap y z
          have : cmpF y z ≠ 0 := fun e => h1 (cmpF_eq e)
          omega
        · exact h'.1 z e
/-- Those of some that hold, in order, each once. -/
def cleanB (p : Fa → Bool) (l : List Fa) : List Fa := (l.filter p).foldl putF []
theorem fold_put : ∀ (l acc : List Fa), Up acc → Up (l.foldl putF acc) ∧ ∀ x, x ∈ l.foldl putF acc ↔ x ∈ acc ∨ x ∈ l
  | [], acc, h => ⟨h, fun x => by simp⟩
  | y :: l, acc, h => by
    obtain ⟨h1, h2⟩ := fold_put l (putF acc y) (putF_up y h)
    refine ⟨h1, fun x => ?_⟩
    rw [List.foldl_cons, h2 x, putF_mem]
    simp only [List.mem_cons]
    constructor
    · rintro ((h | h) | h) <;> simp [h]
    · rintro (h | h | h) <;> simp [h]
theorem cleanB_up (p : Fa → Bool) (l : List Fa) : Up (cleanB p l) := (fold_put _ [] List.Pairwise.nil).1
theorem cleanB_mem (p : Fa → Bool) (l : List Fa) (x : Fa) : x ∈ cleanB p l ↔ x ∈ l ∧ p x = true := by
  have := (fold_put (l.filter p) [] List.Pairwise.nil).2 x
  unfold cleanB
  rw [this]
  simp
theorem cleanB_of {p : Fa → Bool} {l m : List Fa} (hu : Up m) (h : ∀ x, x ∈ m ↔ x ∈ l ∧ p x = true) : m = cleanB p l := up_unique hu (cleanB_up p l) fun x => by rw [h, cleanB_mem]
/-- Without what stands twice beside itself. -/
def compG (p : Fa) : List Fa → List Fa
  | [] => []
  | y :: l => if y = p then compG p l else y :: compG y l
def compL : List Fa → List Fa
  | [] => []
  | x :: l => x :: compG x l
theorem compG_snoc (y : Fa) : ∀ (l : List Fa) (p : Fa), compG p (l ++ [y]) = if (p :: l).getLast? = some y then compG p l else compG p l ++ [y]
  | [], p => by
    simp only [List.nil_append, compG, List.getLast?_singleton, Option.some.injEq]
    by_cases h : y = p
    · rw [if_pos h, if_pos h.symm]
    · rw [if_neg h, if_neg (Ne.symm h)]
  | x :: l, p => by
    have e : (p :: x :: l).getLast? = (x :: l).getLast? := by simp [List.getLast?_cons_cons]
    rw [e]
    simp only [List.cons_append, compG]
    by_cases h : x = p
    · subst h
      rw [if_pos rfl, if_pos rfl]
      exact compG_snoc y l x
    · rw [if_neg h, if_neg h, compG_snoc y l x]
      split <;> simp
theorem compL_snoc (y : Fa) (l : List Fa) : compL (l ++ [y]) = if l.getLast? = some y then compL l else compL l ++ [y] := by
  cases l with
  | nil => rfl
  | cons x l =>
    show x :: compG x (l ++ [y]) = _
    rw [compG_snoc]
    split <;> rfl
theorem compG_mem : ∀ (l : List Fa) (p x : Fa), (x = p ∨ x ∈ compG p l) ↔ (x = p ∨ x ∈ l)
  | [], p, x => by simp [compG]
  | y :: l, p, x => by
    unfold compG
    by_cases h : y = p
    · subst h
      rw [if_pos rfl, compG_mem l y x]
      simp
    · rw [if_neg h]
      have := compG_mem l y x
      simp only [List.mem_cons, this]
theorem compL_mem (l : List Fa) (x : Fa) : x ∈ compL l ↔ x ∈ l := by
  cases l with
  | nil => rfl
  | cons y l => simpa [compL] using compG_mem l y x
theorem compG_up : ∀ (l : List Fa) (p : Fa), (p :: l).Pairwise (fun x y => cmpF x y ≤ 0) → Up (p :: compG p l)
  | [], p, _ => by simp [compG, Up]
  | y :: l, p, h => by
    have h1 := List.pairwise_cons.1 h
    have h2 := List.pairwise_cons.1 h1.2
    unfold compG
    by_cases e : y = p
    · subst e
      rw [if_pos rfl]
      exact compG_up l y h1.2
    · rw [if_neg e]
      have ih := compG_up l y h1.2
      refine List.pairwise_cons.2 ⟨fun z hz => ?_, ih⟩
      have hpy : cmpF p y < 0 := by
        have := h1.1 y (by simp)
        have : cmpF p y ≠ 0 := fun e' => e (cmpF_eq e').symm
        omega
      rcases List.mem_cons.1 hz with e' | e'
      · rw [e']; exact hpy
      · have := (List.pairwise_cons.1 ih).1 z e'
        exact cmpF_lt hpy (by omega)
theorem compL_up {l : List Fa} (h : l.Pairwise (fun x y => cmpF x y ≤ 0)) : Up (compL l) := by
  cases l with
  | nil => exact List.Pairwise.nil
  | cons x l => exact compG_up l x h
theorem compL_len (l : List Fa) : (compL l).length ≤ l.length := by
  have : ∀ (l : List Fa) (p : Fa), (compG p l).length ≤ l.length := by
    intro l
    induction l with
    | nil => intro p; exact Nat.le_refl _
    | cons y l ih => intro p; unfold compG; have h1 := ih p; have h2 := ih y; split <;> simp <;> omega
  cases l with
  | nil => exact Nat.le_refl _
  | cons x l => simpa [compL] using this l x
end Go.Proofs.Ytkinhhkodaacjaa
