/- Bounds of what is put together. -/
import Derived.Test.YtehgiagefiakkaaNm
namespace Go.Proofs.Ytehgiagefiakkaa.Nm
open Go.RowKit Go.Shelf
open Sched (Sp bad)
theorem nrmE_bd {l : List Sp} : ∀ s ∈ nrmE l, 0 ≤ s.1 ∧ s.2 ≤ 1099511627776 ∧ s.1 < s.2 := by
  unfold nrmE
  by_cases h : l.any bad = true
  · simp [h]
  · rw [if_neg h]
    refine Sched.nrm_bd fun s hs => ?_
    have := (List.any_eq_false.1 (by simpa using h)) s hs
    have h' : ¬ (s.1 < 0 ∨ s.2 < s.1 ∨ 1099511627776 < s.2) := fun h' => this ((bad_iff s.1 s.2).2 h')
    omega
theorem nrmE_len {l : List Sp} (h : ∀ s ∈ l, I64 s.1 ∧ I64 s.2) : (nrmE l).length ≤ l.length := by
  unfold nrmE
  split
  · simp
  · have := (nto_good h l.length (Nat.le_refl _)).1
    rwa [show nto l l.length = Sched.nrm l by unfold nto Sched.nrm; rw [List.take_length]] at this
end Go.Proofs.Ytehgiagefiakkaa.Nm
