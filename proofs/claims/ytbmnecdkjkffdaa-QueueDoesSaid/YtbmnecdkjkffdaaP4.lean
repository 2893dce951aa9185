/- The plain law of New, Push and Pop: a heap, and the same events. -/
import Derived.Test.YtbmnecdkjkffdaaE10
namespace Go.Proofs.Ytbmnecdkjkffdaa
open Go.RowKit

theorem heap_nil : Heap [] := fun j _ h => by simp at h
theorem addL_heap {h : List Ev} (hh : Heap h) (x : Ev) : Heap (addL h x) := riseL_heap _ _ (by simp) (heapUp_snoc hh x)
theorem addL_perm (h : List Ev) (x : Ev) : (addL h x).Perm (x :: h) := (riseL_perm _ _).trans (List.perm_append_comm (l₁ := h) (l₂ := [x]))
theorem fold_heap : ∀ (l : List Ev) (h : List Ev), Heap h → Heap (l.foldl addL h)
  | [], _, hh => hh
  | x :: l, _, hh => fold_heap l _ (addL_heap hh x)
theorem fold_perm : ∀ (l : List Ev) (h : List Ev), (l.foldl addL h).Perm (l ++ h)
  | [], _ => List.Perm.refl _
  | x :: l, h => (fold_perm l (addL h x)).trans (((addL_perm h x).append_left l).trans List.perm_middle)
theorem newL_heap (l : List Ev) : Heap (newL l) := fold_heap l [] heap_nil
theorem newL_perm (l : List Ev) : (newL l).Perm l := by
  have := fold_perm l []
  rwa [List.append_nil] at this
theorem pushL_heap {l : List Ev} {now : Int} {x : Ev} (h : Heap l) : Heap (pushL l now x) := by
  unfold pushL
  split
  · exact addL_heap h x
  · exact h
theorem pushL_yes {l : List Ev} {now : Int} {x : Ev} (h : pushE l now x = 0) : (pushL l now x).Perm (x :: l) := by
  unfold pushL
  rw [if_pos h]
  exact addL_perm l x
theorem pushL_no {l : List Ev} {now : Int} {x : Ev} (h : pushE l now x ≠ 0) : pushL l now x = l := by
  unfold pushL
  rw [if_neg h]
theorem pushL_len {l : List Ev} {now : Int} {x : Ev} (hl : l.length ≤ 16384) : (pushL l now x).length ≤ 16384 ∧ (pushL l now x).length ≤ l.length + 1 := by
  by_cases h : pushE l now x = 0
  · rw [(pushL_yes h).length_eq]
    have : l.length < 16384 := by
      unfold pushE at h
      split at h
      · simp at h
      · split at h
        · simp at h
        · omega
    simp; omega
  · rw [pushL_no h]; omega
theorem last_drop {l : List Ev} {x : Ev} (hx : l[0]? = some x) : l.Perm (x :: (l.set 0 (ev l (l.length - 1))).take (l.length - 1)) := by
  cases l with
  | nil => simp at hx
  | cons a l =>
    simp at hx
    subst hx
    refine List.Perm.cons _ ?_
    rcases List.eq_nil_or_concat l with rfl | ⟨m, b, rfl⟩
    · simp
    · have e : ev (a :: (m.concat b)) ((a :: m.concat b).length - 1) = b := by
        unfold ev
        simp [List.concat_eq_append]
      rw [e]
      simp [List.concat_eq_append]
theorem popL_perm {l : List Ev} {x : Ev} (hx : l[0]? = some x) : l.Perm (x :: popL l) := (last_drop hx).trans ((sinkL_perm _ _).symm.cons _)
theorem popL_heap {l : List Ev} (h : Heap l) : Heap (popL l) := by
  unfold popL
  by_cases h1 : l.length ≤ 1
  · have e : (l.set 0 (ev l (l.length - 1))).take (l.length - 1) = [] := by rw [show l.length - 1 = 0 by omega]; simp
    rw [e]
    intro j _ hj
    rw [sinkL_len] at hj
    simp at hj
  · have hlen : ((l.set 0 (ev l (l.length - 1))).take (l.length - 1)).length = l.length - 1 := by simp
    have hev : ∀ j, 0 < j → j < l.length - 1 → ev ((l.set 0 (ev l (l.length - 1))).take (l.length - 1)) j = ev l j := fun j h0 hj => by
      show ((_ : Option Ev)).getD _ = ((_ : Option Ev)).getD _
      rw [List.getElem?_take, if_pos hj, List.getElem?_set_ne (by omega)]
    refine sinkL_heap _ _ (by omega) ⟨fun j h0 hj hne => ?_, fun j _ _ _ h => by omega⟩
    rw [hlen] at hj
    rw [hev j h0 hj, hev ((j - 1) / 2) (by omega) (by omega)]
    exact h j h0 (by omega)
/-- What a heap begins with is behind none. -/
theorem head_min {h : List Ev} (hh : Heap h) {x : Ev} (hx : h[0]? = some x) : ∀ y ∈ h, ¬ Lt y x := fun y hy => by
  obtain ⟨j, hj, e⟩ := List.mem_iff_getElem.1 hy
  have := heap_top hh j hj
  rw [ev_get hj, e] at this
  have e0 : ev h 0 = x := by unfold ev; rw [hx]; rfl
  rwa [e0] at this
theorem head_is {h l : List Ev} (hh : Heap h) (hp : h.Perm l) {x : Ev} (hx : x ∈ l) (hm : ∀ y ∈ l, ¬ Lt y x) : h[0]? = some x := by
  have hxm := hp.mem_iff.2 hx
  cases h with
  | nil => simp at hxm
  | cons a h =>
    have h1 : ¬ Lt a x := hm a (hp.mem_iff.1 (by simp))
    have h2 : ¬ Lt x a := head_min hh (x := a) rfl x hxm
    simp
    exact nlt_anti h2 h1
end Go.Proofs.Ytbmnecdkjkffdaa
