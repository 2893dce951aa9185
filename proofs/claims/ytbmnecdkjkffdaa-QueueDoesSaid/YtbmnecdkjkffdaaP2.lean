/- The plain law of rise: the heap's order. -/
import Derived.Test.YtbmnecdkjkffdaaE5
import Derived.Test.YtbmnecdkjkffdaaP1
namespace Go.Proofs.Ytbmnecdkjkffdaa
open Go.RowKit

def ev (l : List Ev) (j : Nat) : Ev := (l[j]?).getD ⟨0, 0, 0, 0⟩
theorem ev_some {l : List Ev} {j : Nat} (h : j < l.length) : l[j]? = some (ev l j) := by
  unfold ev
  rw [List.getElem?_eq_getElem h]; rfl
theorem lessAt_iff {l : List Ev} {i j : Nat} (hi : i < l.length) (hj : j < l.length) : lessAt l i j = true ↔ Lt (ev l i) (ev l j) := by
  unfold lessAt
  rw [ev_some hi, ev_some hj]
  exact ltE_iff _ _
theorem swap_eq {l : List Ev} {i j : Nat} (hi : i < l.length) (hj : j < l.length) : swapL l i j = (l.set i (ev l j)).set j (ev l i) := by
  unfold swapL
  rw [ev_some hi, ev_some hj]
theorem ev_swap {l : List Ev} {i j : Nat} (hi : i < l.length) (hj : j < l.length) (hne : i ≠ j) (k : Nat) : ev (swapL l i j) k = if k = i then ev l j else if k = j then ev l i else ev l k := by
  rw [swap_eq hi hj]
  have e : ∀ (m : List Ev), ev m k = (m[k]?).getD ⟨0, 0, 0, 0⟩ := fun _ => rfl
  rw [e ((l.set i (ev l j)).set j (ev l i)), List.getElem?_set, List.getElem?_set]
  simp only [List.length_set]
  by_cases h1 : k = i
  · subst h1
    rw [if_neg (fun h => hne h.symm), if_pos rfl, if_pos hi, if_pos rfl]; rfl
  · by_cases h2 : k = j
    · subst h2
      rw [if_pos rfl, if_pos hj, if_neg h1, if_pos rfl]; rfl
    · rw [if_neg (fun h => h2 h.symm), if_neg (fun h => h1 h.symm), if_neg h1, if_neg h2, e]
def Heap (l : List Ev) : Prop := ∀ j, 0 < j → j < l.length → ¬ Lt (ev l j) (ev l ((j - 1) / 2))
/-- A heap but for one that may have to go up. -/
def HeapUp (l : List Ev) (i : Nat) : Prop := (∀ j, 0 < j → j < l.length → j ≠ i → ¬ Lt (ev l j) (ev l ((j - 1) / 2))) ∧ (∀ j, 0 < j → j < l.length → (j - 1) / 2 = i → 0 < i → ¬ Lt (ev l j) (ev l ((i - 1) / 2)))
theorem riseL_heap (l : List Ev) (i : Nat) (hi : i < l.length) (h : HeapUp l i) : Heap (riseL l i) := by
  induction i using Nat.strongRecOn generalizing l with
  | _ i ih =>
    rw [riseL]
    split
    · rename_i hc
      have hp : (i - 1) / 2 < i := by omega
      have hlt := (lessAt_iff hi (Nat.lt_trans hp hi)).1 hc.2
      refine ih _ hp _ (by rw [swapL_len]; omega) ?_
      have hev := fun k => ev_swap hi (Nat.lt_trans hp hi) (by omega : i ≠ (i - 1) / 2) k
      obtain ⟨h1, h2⟩ := h
      generalize hpp : (i - 1) / 2 = p at *
      constructor
      · intro j hj0 hj hjp
        rw [swapL_len] at hj
        rw [hev, hev]
        by_cases e1 : j = i
        · subst e1
          rw [if_pos rfl, hpp, if_neg (by omega), if_pos rfl]
          exact hlt.nlt
        · rw [if_neg e1, if_neg hjp]
          by_cases e2 : (j - 1) / 2 = i
          · rw [if_pos e2]
            exact h2 j hj0 hj e2 (by omega)
          · rw [if_neg e2]
            by_cases e3 : (j - 1) / 2 = p
            · rw [if_pos e3]
              intro hl
              have := h1 j hj0 hj e1
              rw [e3] at this
              exact this (hl.trans hlt)
            · rw [if_neg e3]
              exact h1 j hj0 hj e1
      · intro j hj0 hj hjp hp0
        rw [swapL_len] at hj
        rw [hev, hev, if_neg (by omega : ¬ (p - 1) / 2 = i), if_neg (by omega : ¬ (p - 1) / 2 = p)]
        have hpq := h1 p hp0 (by omega) (by omega)
        by_cases e1 : j = i
        · rw [if_pos e1]; exact hpq
        · rw [if_neg e1, if_neg (by omega)]
          have := h1 j hj0 hj e1
          rw [hjp] at this
          exact nlt_trans hpq this
    · rename_i hc
      intro j hj0 hj
      by_cases e1 : j = i
      · subst e1
        intro hl
        exact hc ⟨hj0, (lessAt_iff hj (by omega)).2 hl⟩
      · exact h.1 j hj0 hj e1
/-- An event behind a heap. -/
theorem heapUp_snoc {l : List Ev} (h : Heap l) (x : Ev) : HeapUp (l ++ [x]) l.length := by
  have e : ∀ j, j < l.length → ev (l ++ [x]) j = ev l j := fun j hj => by unfold ev; rw [List.getElem?_append_left hj]
  constructor
  · intro j hj0 hj hne
    simp at hj
    rw [e j (by omega), e _ (by omega)]
    exact h j hj0 (by omega)
  · intro j hj0 hj hjp
    simp at hj
    omega
/-- The first of a heap is none behind any. -/
theorem heap_top {l : List Ev} (h : Heap l) (j : Nat) (hj : j < l.length) : ¬ Lt (ev l j) (ev l 0) := by
  induction j using Nat.strongRecOn with
  | _ j ih =>
    by_cases h0 : j = 0
    · subst h0; exact Lt.irrefl _
    · exact nlt_trans (ih ((j - 1) / 2) (by omega) (by omega)) (h j (by omega) hj)
theorem ev_get {l : List Ev} {j : Nat} (h : j < l.length) : ev l j = l[j] := by
  unfold ev
  rw [List.getElem?_eq_getElem h]; rfl
theorem swapL_perm (l : List Ev) (i j : Nat) : (swapL l i j).Perm l := by
  by_cases hi : i < l.length
  · by_cases hj : j < l.length
    · rw [swap_eq hi hj, ev_get hi, ev_get hj]
      exact List.set_set_perm hi hj
    · unfold swapL
      rw [List.getElem?_eq_none (by omega : l.length ≤ j)]
      cases l[i]? <;> exact List.Perm.refl _
  · unfold swapL
    rw [List.getElem?_eq_none (by omega : l.length ≤ i)]
theorem riseL_perm (l : List Ev) (i : Nat) : (riseL l i).Perm l := by
  induction i using Nat.strongRecOn generalizing l with
  | _ i ih =>
    rw [riseL]
    split
    · rename_i h
      exact (ih _ (by omega) _).trans (swapL_perm _ _ _)
    · exact List.Perm.refl _
end Go.Proofs.Ytbmnecdkjkffdaa
