/- The plain law of SchedSlots. -/
import Derived.Test.YtiahmhmchppjgaaQ8
namespace Go.Proofs.Ytiahmhmchppjgaa
open Go.RowKit Go.Shelf
open Sched (Sp bad)

theorem begins_ge {s l f : Int} (g3 : 1 ≤ l) : 0 ≤ begins s l f ∧ f ≤ s + begins s l f * l := by
  unfold begins
  split
  · refine ⟨by omega, by omega⟩
  · have h1 := Int.lt_ediv_add_one_mul_self (f - s - 1) (b := l) (by omega)
    have h2 := Int.ediv_nonneg (a := f - s - 1) (b := l) (by omega) (by omega)
    exact ⟨by omega, by omega⟩
theorem begins_le {s l f : Int} (g1 : 0 ≤ s) (h : f ≤ 1099511627776) : begins s l f ≤ 1099511627776 := by
  unfold begins
  split
  · omega
  · have h1 := Int.ediv_le_self l (a := f - s - 1) (by omega)
    omega
theorem slS_snd {s l b : Int} {j : Nat} : (slS s l b j).2 = (s + (b + j) * l, s + (b + j) * l + l) := rfl
theorem stP_range {s l b : Int} (b0 : 0 ≤ b) (b1 : b ≤ 1099511627776) : ∀ c : Nat, c ≤ 1000000 → stP ((List.range c).map (slS s l b)) = (c, if c = 0 then 0 else b, true)
  | 0, _ => rfl
  | c + 1, h => by
    rw [List.range_succ, List.map_append, List.map_cons, List.map_nil, stP_snoc, stP_range b0 b1 c (by omega)]
    have hw : wrap64 (b + (c : Int)) = b + c := by unfold wrap64; omega
    by_cases hc : c = 0
    · subst hc
      have hw0 : wrap64 b = b := by simpa using hw
      simp [stepP, slS, hw0]
    · simp [stepP, slS, hc, hw]
theorem told_good {s l n f t : Int} (hG : ¬ GBad s l n) (hb : bad (f, t) = false) (m : Nat) :
    (slotsS s l n f t).take m = (List.range (min m (cntS s l f t))).map (slS s l (begins s l f)) := by
  unfold slotsS
  rw [if_neg (by rw [hb]; simp [hG]), ← List.map_take, List.take_range]
theorem slot_there {s l n f t : Int} (hG : ¬ GBad s l n) {j : Nat} (hj : j < cntS s l f t) :
    slot s l n (begins s l f + j) = ((s + (begins s l f + j) * l, s + (begins s l f + j) * l + l), 0) ∧ f ≤ s + (begins s l f + j) * l ∧ s + (begins s l f + j) * l < t := by
  have hG' := hG
  unfold GBad at hG'
  obtain ⟨h1, h2⟩ := begins_ge (s := s) (l := l) (f := f) (by omega)
  unfold cntS at hj
  have h3 : begins s l f + j < lim s l t := by omega
  rw [lim_iff (by omega)] at h3
  refine ⟨?_, ?_, h3.2⟩
  · unfold slot
    rw [if_neg hG, if_neg (by omega)]
  · have : 0 ≤ (j : Int) * l := Int.mul_nonneg (by omega) (by omega)
    rw [Int.add_mul]
    omega
theorem slot_not {s l n f t : Int} (hG : ¬ GBad s l n) {j : Nat} (hj : ¬ j < cntS s l f t) :
    slot s l n (begins s l f + j) = ((0, 0), 2) ∨ (slot s l n (begins s l f + j) = ((s + (begins s l f + j) * l, s + (begins s l f + j) * l + l), 0) ∧ t ≤ s + (begins s l f + j) * l) := by
  have hG' := hG
  unfold GBad at hG'
  obtain ⟨h1, h2⟩ := begins_ge (s := s) (l := l) (f := f) (by omega)
  unfold cntS at hj
  have h3 : ¬ begins s l f + j < lim s l t := by omega
  rw [lim_iff (by omega)] at h3
  by_cases hk : (1099511627776 - s) / l ≤ begins s l f + j
  · left
    unfold slot
    rw [if_neg hG, if_pos (.inr hk)]
  · right
    refine ⟨?_, by omega⟩
    unfold slot
    rw [if_neg hG, if_neg (by omega)]
end Go.Proofs.Ytiahmhmchppjgaa
