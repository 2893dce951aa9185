/- The law SchedGrid. -/
import Derived.Test.YtiahmhmchppjgaaW5
import Derived.Test.YtiahmhmchppjgaaReg
import Derived.Deep.CutRange
namespace Go.Proofs.Ytiahmhmchppjgaa
open Go.RowKit Go.Shelf
open Sched (Sp bad)

/-- Each moment lies in the span of its slot. -/
theorem grid_at (s l n t : Int) (h : (slotOf s l n t).2 = 0) (h' : (slot s l n (slotOf s l n t).1).2 = 0) :
    (slot s l n (slotOf s l n t).1).1.1 ≤ t ∧ t < (slot s l n (slotOf s l n t).1).1.2 := by
  by_cases hg : GBad s l n
  · simp [slotOf, hg] at h
  · by_cases ht : t < s ∨ 1099511627776 < t
    · simp [slotOf, hg, ht] at h
    · have e : slotOf s l n t = ((t - s) / l, 0) := by simp [slotOf, hg, ht]
      rw [e] at h' ⊢
      unfold slot at h' ⊢
      rw [if_neg hg] at h' ⊢
      dsimp only at h' ⊢
      split at h'
      · simp at h'
      · rename_i hk
        rw [if_neg hk]
        unfold GBad at hg
        have h1 := Int.ediv_mul_le (t - s) (b := l) (by omega)
        have h2 := Int.lt_ediv_add_one_mul_self (t - s) (b := l) (by omega)
        rw [Int.add_mul] at h2
        exact ⟨by show s + _ ≤ _; omega, by show _ < s + _ + l; omega⟩

theorem slot_ok {s l n k : Int} (h : (slot s l n k).2 = 0) : ¬ GBad s l n ∧ 0 ≤ k ∧ slot s l n k = ((s + k * l, s + k * l + l), 0) ∧ 0 ≤ k * l ∧ s + k * l + l ≤ 1099511627776 := by
  by_cases hg : GBad s l n
  · simp [slot, hg] at h
  · by_cases hk : k < 0 ∨ (1099511627776 - s) / l ≤ k
    · simp [slot, hg, hk] at h
    · have hg' := hg
      unfold GBad at hg'
      obtain ⟨f1, f2⟩ := slot_fit (s := s) (l := l) (k := k) (by omega) (by omega) (by omega)
      exact ⟨hg, by omega, by simp [slot, hg, hk], f1, f2⟩

/-- Two slots meet where they are the same. -/
theorem grid_meets (s l n a b : Int) (h : (slot s l n a).2 = 0) (h' : (slot s l n b).2 = 0) : meets (slot s l n a).1 (slot s l n b).1 = decide (a = b) := by
  obtain ⟨hg, a0, ea, fa, fa'⟩ := slot_ok h
  obtain ⟨_, b0, eb, fb, fb'⟩ := slot_ok h'
  unfold GBad at hg
  rw [ea, eb]
  have ba : bad (s + a * l, s + a * l + l) = false := by rw [Bool.eq_false_iff]; intro hh; rw [bad_iff] at hh; omega
  have bb : bad (s + b * l, s + b * l + l) = false := by rw [Bool.eq_false_iff]; intro hh; rw [bad_iff] at hh; omega
  unfold meets
  rw [ba, bb]
  by_cases e : a = b
  · subst e
    simp; omega
  · rw [show decide (a = b) = false by simpa using e, Bool.eq_false_iff]
    intro hh
    simp at hh
    rcases Int.lt_or_gt_of_ne e with h | h
    · have : (a + 1) * l ≤ b * l := Int.mul_le_mul_of_nonneg_right (by omega) (by omega)
      rw [Int.add_mul] at this
      omega
    · have : (b + 1) * l ≤ a * l := Int.mul_le_mul_of_nonneg_right (by omega) (by omega)
      rw [Int.add_mul] at this
      omega

/-- The next slot of a place has it, begins in time, and the one a round ahead does not. -/
theorem grid_next (s l n t pos : Int) (h : (next s l n t pos).2 = 0) :
    4 ≤ n ∧ n ≤ 8 ∧ 0 ≤ (next s l n t pos).1 ∧ (next s l n t pos).1 ≤ 1099511627790 ∧ (next s l n t pos).1 % n = pos ∧ ((slot s l n (next s l n t pos).1).2 = 0 → t ≤ (slot s l n (next s l n t pos).1).1.1) ∧
      ((slot s l n ((next s l n t pos).1 - n)).2 = 0 → (slot s l n ((next s l n t pos).1 - n)).1.1 < t) := by
  by_cases hg : GBad s l n
  · simp [next, hg] at h
  · by_cases hp : pos < 0 ∨ n ≤ pos ∨ t < 0 ∨ 1099511627776 < t
    · simp [next, hg, hp] at h
    · have e : next s l n t pos = (begins s l t + (pos - begins s l t) % n, 0) := by simp only [next, if_neg hg, if_neg hp]
      unfold GBad at hg
      obtain ⟨hk1, hk2⟩ := begins_bd (s := s) (l := l) (t := t) (by omega) (by omega) (by omega)
      have m1 := Int.emod_nonneg (pos - begins s l t) (show n ≠ 0 by omega)
      have m2 := Int.emod_lt_of_pos (pos - begins s l t) (show 0 < n by omega)
      have m3 : (begins s l t + (pos - begins s l t) % n) % n = pos := by
        rw [Int.add_emod_emod, show begins s l t + (pos - begins s l t) = pos by omega]
        exact Int.emod_eq_of_lt (by omega) (by omega)
      rw [e]
      refine ⟨by omega, by omega, by show 0 ≤ begins s l t + _; omega, by show begins s l t + _ ≤ _; omega, m3, fun h4 => ?_, fun h4 => ?_⟩
      · obtain ⟨_, a0, ea, fa, fa'⟩ := slot_ok h4
        rw [ea]
        show t ≤ s + _ * l
        dsimp only at *
        generalize (pos - begins s l t) % n = j at *
        unfold begins at *
        by_cases ht : t ≤ s
        · simp only [if_pos ht] at *; omega
        · simp only [if_neg ht] at *
          have h2 := Int.lt_ediv_add_one_mul_self (t - s - 1) (b := l) (by omega)
          have h3 : ((t - s - 1) / l + 1) * l ≤ ((t - s - 1) / l + 1 + j) * l := Int.mul_le_mul_of_nonneg_right (by omega) (by omega)
          omega
      · obtain ⟨_, a0, ea, fa, fa'⟩ := slot_ok h4
        rw [ea]
        show s + _ * l < t
        dsimp only at *
        generalize (pos - begins s l t) % n = j at *
        unfold begins at *
        by_cases ht : t ≤ s
        · simp only [if_pos ht] at *; omega
        · simp only [if_neg ht] at *
          have h2 := Int.ediv_mul_le (t - s - 1) (b := l) (by omega)
          have h3 : ((t - s - 1) / l + 1 + j - n) * l ≤ (t - s - 1) / l * l := Int.mul_le_mul_of_nonneg_right (by omega) (by omega)
          omega
end Go.Proofs.Ytiahmhmchppjgaa
