/- The order of events. -/
import Derived.Test.YtbmnecdkjkffdaaE3
namespace Go.Proofs.Ytbmnecdkjkffdaa
open Go.RowKit

theorem cmpI_lt {x y : Int} (h : x < y) : cmpI x y = -1 := by unfold cmpI; rw [if_pos h]
theorem cmpI_gt {x y : Int} (h : y < x) : cmpI x y = 1 := by unfold cmpI; rw [if_neg (by omega), if_pos h]
theorem cmpI_eq (x : Int) : cmpI x x = 0 := by unfold cmpI; rw [if_neg (by omega), if_neg (by omega)]
/-- The order of events: by at, kind, node, number. -/
def Lt (x y : Ev) : Prop := x.a < y.a ∨ (x.a = y.a ∧ (x.k < y.k ∨ (x.k = y.k ∧ (x.n < y.n ∨ (x.n = y.n ∧ x.m < y.m)))))
theorem ltE_iff (x y : Ev) : ltE x y = true ↔ Lt x y := by
  obtain ⟨a, k, n, m⟩ := x
  obtain ⟨a', k', n', m'⟩ := y
  unfold ltE cmpE Lt
  rw [decide_eq_true_iff]
  simp only
  rcases Int.lt_trichotomy a a' with h | rfl | h
  · simp only [cmpI_lt h, orL]; simp; omega
  · rcases Int.lt_trichotomy k k' with h | rfl | h
    · simp only [cmpI_eq, cmpI_lt h, orL]; simp; omega
    · rcases Int.lt_trichotomy n n' with h | rfl | h
      · simp only [cmpI_eq, cmpI_lt h, orL]; simp; omega
      · rcases Int.lt_trichotomy m m' with h | rfl | h
        · simp only [cmpI_eq, cmpI_lt h, orL]; simp; omega
        · simp only [cmpI_eq, orL]; simp
        · simp only [cmpI_eq, cmpI_gt h, orL]; simp; omega
      · simp only [cmpI_eq, cmpI_gt h, orL]; simp; omega
    · simp only [cmpI_eq, cmpI_gt h, orL]; simp; omega
  · simp only [cmpI_gt h, orL]; simp; omega
theorem ltE_false (x y : Ev) : ltE x y = false ↔ ¬ Lt x y := by rw [← ltE_iff]; simp
theorem Lt.irrefl (x : Ev) : ¬ Lt x x := by unfold Lt; omega
theorem Lt.trans {x y z : Ev} (h : Lt x y) (h' : Lt y z) : Lt x z := by unfold Lt at *; omega
/-- 'Not after' goes on. -/
theorem nlt_trans {x y z : Ev} (h : ¬ Lt y x) (h' : ¬ Lt z y) : ¬ Lt z x := by unfold Lt at *; omega
theorem Lt.nlt {x y : Ev} (h : Lt x y) : ¬ Lt y x := by unfold Lt at *; omega
theorem nlt_at {x y : Ev} (h : ¬ Lt y x) : x.a ≤ y.a := by unfold Lt at h; omega
theorem nlt_anti {x y : Ev} (h : ¬ Lt y x) (h' : ¬ Lt x y) : x = y := by
  obtain ⟨a, k, n, m⟩ := x
  obtain ⟨a', k', n', m'⟩ := y
  unfold Lt at *
  simp only at *
  have e1 : a = a' := by omega
  have e2 : k = k' := by omega
  have e3 : n = n' := by omega
  have e4 : m = m' := by omega
  subst e1 e2 e3 e4
  rfl
end Go.Proofs.Ytbmnecdkjkffdaa
