/- Contracts: grids and slots of the program. -/
import Derived.Test.YtiahmhmchppjgaaW2
namespace Go.Proofs.Ytiahmhmchppjgaa
open Go.RowKit Go.Shelf
open Sched (Sp bad)

/-- A grid as a value: start, slot, how many a round. -/
def grv (s l n : Int) : Value := .agg #[.int .i64 s, .int .i64 l, .int .i64 n]
def GBad (s l n : Int) : Prop := s < 0 ∨ 1099511627776 < s ∨ l < 1 ∨ 16777216 < l ∨ n < 4 ∨ 8 < n
instance (s l n : Int) : Decidable (GBad s l n) := by unfold GBad; infer_instance
def chkG (s l n : Int) : Int := if GBad s l n then 61 else 0

theorem checkGrid_any (s l n : Int) (w : World) :
    Calls Try.prog 29 #[grv s l n] w fun e w' => e = .returned (.int .i64 (chkG s l n)) ∧ Below w.heap.size w w' := by
  unfold grv
  go_enter Try.func29, Try.ntmps29
  go_wp2
  all_goals go_ret
  all_goals refine ⟨ret_int ?_, below1 _ _⟩
  all_goals first | exact (if_pos (by unfold GBad; omega)).symm | exact (if_neg (by unfold GBad; omega)).symm

def slotOf (s l n t : Int) : Int × Int := if GBad s l n then (0, 61) else if t < s ∨ 1099511627776 < t then (0, 4) else ((t - s) / l, 0)
theorem slotOf_any (s l n t : Int) (w : World) :
    Calls Try.prog 23 #[grv s l n, .int .i64 t] w fun e w' => e = .returned (.tuple #[.int .i64 (slotOf s l n t).1, .int .i64 (slotOf s l n t).2]) ∧ Below w.heap.size w w' := by
  have hck := checkGrid_any s l n
  unfold grv at *
  by_cases hg : GBad s l n
  · have hz : chkG s l n = 61 := if_pos hg
    have HR : Hid (slotOf s l n t = (0, 61)) := if_pos hg
    rw [hz] at hck
    clear hz hg
    go_enter Try.func23, Try.ntmps23
    go_wp2_with fail
    refine (hck _).mono ?_
    rintro e w1 ⟨rfl, hb1⟩
    go_wp2
    go_ret2
    exact ⟨by rw [HR.out]; rfl, bt (below1 w _) hb1⟩
  · have hz : chkG s l n = 0 := if_neg hg
    rw [hz] at hck
    unfold GBad at hg
    have HR : Hid (slotOf s l n t = if t < s ∨ 1099511627776 < t then (0, 4) else ((t - s) / l, 0)) := if_neg hg
    have g1 : 0 ≤ s := by omega
    have g2 : s ≤ 1099511627776 := by omega
    have g3 : 1 ≤ l := by omega
    have g4 : l ≤ 16777216 := by omega
    clear hz hg
    go_enter Try.func23, Try.ntmps23
    go_wp2_with fail
    refine (hck _).mono ?_
    rintro e w1 ⟨rfl, hb1⟩
    have hc1 := bcell hb1
    go_wp2
    all_goals go_ret2
    all_goals refine ⟨?_, bt (below1 w _) hb1⟩
    all_goals first | (rw [HR.out, if_pos (by omega)]; rfl) | (rw [HR.out, if_neg (by omega)]; rfl)

def begins (s l t : Int) : Int := if t ≤ s then 0 else (t - s - 1) / l + 1
theorem div_le_self' {a b : Int} (ha : 0 ≤ a) (hb : 1 ≤ b) : 0 ≤ a / b ∧ a / b ≤ a := by
  refine ⟨Int.ediv_nonneg ha (by omega), ?_⟩
  exact Int.ediv_le_self _ ha
theorem begins_any (s l n t : Int) (w : World) (g1 : 0 ≤ s) (g2 : s ≤ 1099511627776) (g3 : 1 ≤ l) (g4 : l ≤ 16777216) (t2 : t ≤ 1099511627776) :
    Calls Try.prog 42 #[grv s l n, .int .i64 t] w fun e w' => e = .returned (.int .i64 (begins s l t)) ∧ Below w.heap.size w w' := by
  unfold grv
  by_cases h : t ≤ s
  · have HR : Hid (begins s l t = 0) := if_pos h
    go_enter Try.func42, Try.ntmps42
    go_wp2
    go_ret
    exact ⟨ret_int HR.out.symm, below1 _ _⟩
  · have HR : Hid (begins s l t = (t - s - 1) / l + 1) := if_neg h
    have hd := div_le_self' (a := t - s - 1) (b := l) (by omega) g3
    have d1 := hd.1
    have d2 : (t - s - 1) / l ≤ 1099511627776 := by omega
    have h' : s < t := by omega
    clear h hd
    go_enter Try.func42, Try.ntmps42
    go_wp2
    go_ret
    exact ⟨ret_int HR.out.symm, below1 _ _⟩

def next (s l n t pos : Int) : Int × Int := if GBad s l n then (0, 61) else if pos < 0 ∨ n ≤ pos ∨ t < 0 ∨ 1099511627776 < t then (0, 2) else (begins s l t + (pos - begins s l t) % n, 0)
theorem begins_bd {s l t : Int} (g1 : 0 ≤ s) (g3 : 1 ≤ l) (t2 : t ≤ 1099511627776) : 0 ≤ begins s l t ∧ begins s l t ≤ 1099511627777 := by
  unfold begins
  by_cases h : t ≤ s
  · rw [if_pos h]; omega
  · rw [if_neg h]
    have := div_le_self' (a := t - s - 1) (b := l) (by omega) g3
    omega
theorem next_any (s l n t pos : Int) (w : World) :
    Calls Try.prog 25 #[grv s l n, .int .i64 t, .int .i64 pos] w fun e w' => e = .returned (.tuple #[.int .i64 (next s l n t pos).1, .int .i64 (next s l n t pos).2]) ∧ Below w.heap.size w w' := by
  have hck := checkGrid_any s l n
  by_cases hg : GBad s l n
  · have hz : chkG s l n = 61 := if_pos hg
    have HR : Hid (next s l n t pos = (0, 61)) := if_pos hg
    rw [hz] at hck
    unfold grv at *
    clear hz hg
    go_enter Try.func25, Try.ntmps25
    go_wp2_with fail
    refine (hck _).mono ?_
    rintro e w1 ⟨rfl, hb1⟩
    go_wp2
    go_ret2
    exact ⟨by rw [HR.out]; rfl, bt (below1 w _) hb1⟩
  · have hz : chkG s l n = 0 := if_neg hg
    rw [hz] at hck
    unfold GBad at hg
    have HR : Hid (next s l n t pos = if pos < 0 ∨ n ≤ pos ∨ t < 0 ∨ 1099511627776 < t then (0, 2) else (begins s l t + (pos - begins s l t) % n, 0)) := if_neg hg
    have g1 : 0 ≤ s := by omega
    have g2 : s ≤ 1099511627776 := by omega
    have g3 : 1 ≤ l := by omega
    have g4 : l ≤ 16777216 := by omega
    have g5 : 4 ≤ n := by omega
    have g6 : n ≤ 8 := by omega
    clear hz hg
    by_cases hp : pos < 0 ∨ n ≤ pos ∨ t < 0 ∨ 1099511627776 < t
    · have HR2 : Hid (next s l n t pos = (0, 2)) := HR.out.trans (if_pos hp)
      unfold grv at *
      clear HR
      go_enter Try.func25, Try.ntmps25
      go_wp2_with fail
      refine (hck _).mono ?_
      rintro e w1 ⟨rfl, hb1⟩
      have hc1 := bcell hb1
      go_wp2
      all_goals go_ret2
      all_goals refine ⟨?_, bt (below1 w _) hb1⟩
      all_goals first | (rw [HR2.out]; rfl) | (exfalso; omega)
    · have HR2 : Hid (next s l n t pos = (begins s l t + (pos - begins s l t) % n, 0)) := HR.out.trans (if_neg hp)
      have hbe := fun W => begins_any s l n t W g1 g2 g3 g4 (by omega)
      obtain ⟨hk1, hk2⟩ := begins_bd (s := s) (l := l) (t := t) g1 g3 (by omega)
      unfold grv at *
      generalize begins s l t = k at *
      clear HR
      have p1 : 0 ≤ pos := by omega
      have p2 : pos < n := by omega
      have p3 : 0 ≤ t := by omega
      have p4 : t ≤ 1099511627776 := by omega
      have m1 := Int.emod_nonneg k (show n ≠ 0 by omega)
      have m2 := Int.emod_lt_of_pos k (show 0 < n by omega)
      clear hp
      go_enter Try.func25, Try.ntmps25
      go_wp2_with fail
      refine (hck _).mono ?_
      rintro e w1 ⟨rfl, hb1⟩
      have hc1 := bcell hb1
      go_wp2_with fail
      refine (hbe _).mono ?_
      rintro e w2 ⟨rfl, hb2⟩
      have hc2 := bcell (bt hb1 hb2)
      clear hc1
      have m3 := Int.tmod_eq_emod_of_nonneg (b := n) hk1
      have m4 : (pos - k % n + n).tmod n = (pos - k) % n := by
        rw [Int.tmod_eq_emod_of_nonneg (by omega)]; simp
      have m5 := Int.emod_nonneg (pos - k) (show n ≠ 0 by omega)
      have m6 := Int.emod_lt_of_pos (pos - k) (show 0 < n by omega)
      go_wp2
      go_quiet (fail)
      go_wp2
      go_ret2
      refine ⟨?_, below_drewN (bt (bt (below1 w _) hb1) hb2) _⟩
      rw [HR2.out]
      rfl
end Go.Proofs.Ytiahmhmchppjgaa
