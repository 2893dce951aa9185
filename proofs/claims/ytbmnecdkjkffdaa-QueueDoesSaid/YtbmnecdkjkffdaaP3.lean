/- The plain law of sink. -/
import Derived.Test.YtbmnecdkjkffdaaP2
namespace Go.Proofs.Ytbmnecdkjkffdaa
open Go.RowKit

/-- Which of i and one of those below it comes first. -/
def pickL (l : List Ev) (k f : Nat) : Nat := if k < l.length ∧ lessAt l k f = true then k else f
def firstL (l : List Ev) (i : Nat) : Nat := pickL l (2 * i + 2) (pickL l (2 * i + 1) i)
theorem firstL_or (l : List Ev) (i : Nat) : firstL l i = i ∨ (firstL l i = 2 * i + 1 ∧ 2 * i + 1 < l.length) ∨ (firstL l i = 2 * i + 2 ∧ 2 * i + 2 < l.length) := by
  have hp : ∀ k f, pickL l k f = f ∨ (pickL l k f = k ∧ k < l.length) := by
    intro k f
    unfold pickL
    split
    · rename_i h; exact .inr ⟨rfl, h.1⟩
    · exact .inl rfl
  unfold firstL
  rcases hp (2 * i + 2) (pickL l (2 * i + 1) i) with h | h
  · rw [h]
    rcases hp (2 * i + 1) i with h' | h'
    · exact .inl h'
    · exact .inr (.inl h')
  · exact .inr (.inr h)
/-- What sink does to a row. -/
def sinkL (l : List Ev) (i : Nat) : List Ev :=
  if firstL l i ≠ i then sinkL (swapL l i (firstL l i)) (firstL l i) else l
termination_by l.length - i
decreasing_by
  rw [swapL_len]
  have := firstL_or l i
  omega
theorem sinkL_len (l : List Ev) (i : Nat) : (sinkL l i).length = l.length := by
  fun_induction sinkL l i with
  | case1 l i h ih => rw [ih, swapL_len]
  | case2 l i h => rfl
theorem sinkL_perm (l : List Ev) (i : Nat) : (sinkL l i).Perm l := by
  fun_induction sinkL l i with
  | case1 l i h ih => exact ih.trans (swapL_perm _ _ _)
  | case2 l i h => exact List.Perm.refl _
/-- The first of three is behind none of them. -/
theorem firstL_min {l : List Ev} {i : Nat} (hi : i < l.length) : ¬ Lt (ev l i) (ev l (firstL l i)) ∧ (∀ j, 0 < j → j < l.length → (j - 1) / 2 = i → ¬ Lt (ev l j) (ev l (firstL l i))) := by
  have h1 : pickL l (2 * i + 1) i < l.length ∧ ¬ Lt (ev l i) (ev l (pickL l (2 * i + 1) i)) ∧ (2 * i + 1 < l.length → ¬ Lt (ev l (2 * i + 1)) (ev l (pickL l (2 * i + 1) i))) := by
    unfold pickL
    split
    · rename_i h
      exact ⟨h.1, ((lessAt_iff h.1 hi).1 h.2).nlt, fun _ => Lt.irrefl _⟩
    · rename_i h
      exact ⟨hi, Lt.irrefl _, fun hl hlt => h ⟨hl, (lessAt_iff hl hi).2 hlt⟩⟩
  have h2 : ¬ Lt (ev l (pickL l (2 * i + 1) i)) (ev l (firstL l i)) ∧ (2 * i + 2 < l.length → ¬ Lt (ev l (2 * i + 2)) (ev l (firstL l i))) := by
    unfold firstL
    generalize pickL l (2 * i + 1) i = f at *
    unfold pickL
    split
    · rename_i h
      exact ⟨((lessAt_iff h.1 h1.1).1 h.2).nlt, fun _ => Lt.irrefl _⟩
    · rename_i h
      exact ⟨Lt.irrefl _, fun hl hlt => h ⟨hl, (lessAt_iff hl h1.1).2 hlt⟩⟩
  refine ⟨nlt_trans h2.1 h1.2.1, fun j hj0 hj hji => ?_⟩
  have : j = 2 * i + 1 ∨ j = 2 * i + 2 := by omega
  rcases this with rfl | rfl
  · exact nlt_trans h2.1 (h1.2.2 hj)
  · exact h2.2 hj
/-- A heap but for one that may have to go down. -/
def HeapDown (l : List Ev) (i : Nat) : Prop := (∀ j, 0 < j → j < l.length → (j - 1) / 2 ≠ i → ¬ Lt (ev l j) (ev l ((j - 1) / 2))) ∧ (∀ j, 0 < j → j < l.length → (j - 1) / 2 = i → 0 < i → ¬ Lt (ev l j) (ev l ((i - 1) / 2)))
theorem sinkL_heap (l : List Ev) (i : Nat) (hi : i < l.length) (h : HeapDown l i) : Heap (sinkL l i) := by
  fun_induction sinkL l i with
  | case1 l i hne ih =>
    have hf := firstL_or l i
    obtain ⟨m1, m2⟩ := firstL_min hi
    obtain ⟨h1, h2⟩ := h
    have hF : firstL l i < l.length ∧ i < firstL l i ∧ (firstL l i - 1) / 2 = i := by omega
    have hev := fun k => ev_swap hi hF.1 (by omega : i ≠ firstL l i) k
    refine ih (by rw [swapL_len]; exact hF.1) ?_
    generalize firstL l i = f at *
    constructor
    · intro j hj0 hj hjp
      rw [swapL_len] at hj
      rw [hev, hev]
      by_cases e1 : j = i
      · subst e1
        rw [if_pos rfl, if_neg (by omega), if_neg (by omega)]
        exact h2 f (by omega) hF.1 hF.2.2 hj0
      · rw [if_neg e1]
        by_cases e2 : j = f
        · rw [if_pos e2, e2, if_pos hF.2.2]
          exact m1
        · rw [if_neg e2]
          by_cases e3 : (j - 1) / 2 = i
          · rw [if_pos e3]
            exact m2 j hj0 hj e3
          · rw [if_neg e3, if_neg hjp]
            exact h1 j hj0 hj e3
    · intro j hj0 hj hjp hf0
      rw [swapL_len] at hj
      rw [hev, hev, if_neg (by omega : ¬ j = i), if_neg (by omega : ¬ j = f), hF.2.2, if_pos rfl]
      have := h1 j hj0 hj (by omega)
      rwa [hjp] at this
  | case2 l i hne =>
    have hfi : firstL l i = i := by simpa using hne
    obtain ⟨m1, m2⟩ := firstL_min hi
    rw [hfi] at m2
    intro j hj0 hj
    by_cases e : (j - 1) / 2 = i
    · rw [e]; exact m2 j hj0 hj e
    · exact h.1 j hj0 hj e
end Go.Proofs.Ytbmnecdkjkffdaa
