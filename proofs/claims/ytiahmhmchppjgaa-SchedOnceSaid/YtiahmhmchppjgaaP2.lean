/- The plain law of SchedOnce: a moment lies in at most one of the spans that are put together, and in one exactly where it lay in one before. -/
import Derived.Test.YtiahmhmchppjgaaW7
namespace Go.Proofs.Ytiahmhmchppjgaa
open Sched (Sp bad)

theorem count_pos (t : Int) (l : List Sp) : 0 < l.countP (inside t) ↔ Sched.In t l := by
  rw [List.countP_pos_iff]
  simp [Sched.In, inside]
theorem count_one {t : Int} : ∀ {l : List Sp}, Sched.Nrm l → l.countP (inside t) ≤ 1
  | [], _ => by simp
  | s :: l, h => by
    have ih := count_one (t := t) h.tail
    rw [List.countP_cons]
    by_cases hs : inside t s = true
    · have h0 : l.countP (inside t) = 0 := by
        apply Classical.byContradiction
        intro hne
        have hin := (count_pos t l).1 (by omega)
        have := Sched.In_above h hin
        simp [inside] at hs
        omega
      rw [h0, if_pos hs]
      omega
    · rw [if_neg hs]
      omega
theorem once_count (t : Int) (l : List Sp) : (Sched.nrm l).countP (inside t) ≤ 1 ∧ ((Sched.nrm l).countP (inside t) = 1 ↔ 0 < l.countP (inside t)) := by
  obtain ⟨h1, h2⟩ := Sched.nrm_nrm l
  have h3 := count_one (t := t) h1
  refine ⟨h3, ?_⟩
  rw [count_pos, ← h2 t, ← count_pos]
  omega

theorem nrm_good {l : List Sp} (h : l.any bad = false) : (Sched.nrm l).any bad = false ∧ ∀ s ∈ Sched.nrm l, I64 s.1 ∧ I64 s.2 := by
  have hb : ∀ s ∈ l, (0 : Int) ≤ s.1 ∧ s.2 ≤ 1099511627776 := fun s hs => by
    have := (List.any_eq_false.1 h) s hs
    have h' : ¬ (s.1 < 0 ∨ s.2 < s.1 ∨ 1099511627776 < s.2) := fun h' => this ((bad_iff s.1 s.2).2 h')
    omega
  have hn := Sched.nrm_bd hb
  refine ⟨List.any_eq_false.2 fun s hs hbad => ?_, fun s hs => ?_⟩
  · have := (bad_iff s.1 s.2).1 hbad
    have := hn s hs
    omega
  · have := hn s hs
    unfold I64
    omega
end Go.Proofs.Ytiahmhmchppjgaa
