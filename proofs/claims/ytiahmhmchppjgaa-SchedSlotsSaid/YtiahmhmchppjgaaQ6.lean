/- Contracts of the document: grids and slots. -/
import Derived.Test.YtiahmhmchppjgaaQ4
import Derived.Test.YtiahmhmchppjgaaW4
namespace Go.Proofs.Ytiahmhmchppjgaa
open Go.RowKit Go.Shelf
open Sched (Sp bad)

theorem rcheckGrid_any (s l n : Int) (w : World) :
    Calls Try.prog 30 #[grv s l n] w fun e w' => e = .returned (.int .i64 (chkG s l n)) ∧ Below w.heap.size w w' := by
  unfold grv
  go_enter Try.func30, Try.ntmps30
  go_wp2
  all_goals go_ret
  all_goals refine ⟨ret_int ?_, below1 _ _⟩
  all_goals first | exact (if_pos (by unfold GBad; omega)).symm | exact (if_neg (by unfold GBad; omega)).symm
theorem rslotOf_any (s l n t : Int) (w : World) :
    Calls Try.prog 27 #[grv s l n, .int .i64 t] w fun e w' => e = .returned (.tuple #[.int .i64 (slotOf s l n t).1, .int .i64 (slotOf s l n t).2]) ∧ Below w.heap.size w w' := by
  have hck := rcheckGrid_any s l n
  unfold grv at *
  by_cases hg : GBad s l n
  · have hz : chkG s l n = 61 := if_pos hg
    have HR : Hid (slotOf s l n t = (0, 61)) := if_pos hg
    rw [hz] at hck
    clear hz hg
    go_enter Try.func27, Try.ntmps27
    go_wp2_with fail
    refine (hck _).mono ?_
    rintro e w1 ⟨rfl, hb1⟩
    go_wp2
    go_ret2
    exact ⟨by rw [HR.out]; rfl, bt (below1 w _) hb1⟩
  · have hz : chkG s l n = 0 := if_neg hg
    rw [hz] at hck
    unfold GBad at hg
    have HR : Hid (slotOf s l n t = if t < s ∨ 1099511627776 < t then (0, 4) else ((t - s) / l, 0)) := if_neg hg
    have g1 : 0 ≤ s := by omega
    have g2 : s ≤ 1099511627776 := by omega
    have g3 : 1 ≤ l := by omega
    have g4 : l ≤ 16777216 := by omega
    clear hz hg
    go_enter Try.func27, Try.ntmps27
    go_wp2_with fail
    refine (hck _).mono ?_
    rintro e w1 ⟨rfl, hb1⟩
    have hc1 := bcell hb1
    go_wp2
    all_goals go_ret2
    all_goals refine ⟨?_, bt (below1 w _) hb1⟩
    all_goals first | (rw [HR.out, if_pos (by omega)]; rfl) | (rw [HR.out, if_neg (by omega)]; rfl)
theorem rslot_any (s l n k : Int) (w : World) :
    Calls Try.prog 26 #[grv s l n, .int .i64 k] w fun e w' => e = .returned (.tuple #[spv (slot s l n k).1, .int .i64 (slot s l n k).2]) ∧ Below w.heap.size w w' := by
  have hck := rcheckGrid_any s l n
  by_cases hg : GBad s l n
  · have hz : chkG s l n = 61 := if_pos hg
    have HR : Hid (slot s l n k = ((0, 0), 61)) := if_pos hg
    rw [hz] at hck
    unfold grv at *
    clear hz hg
    go_enter Try.func26, Try.ntmps26
    go_wp2_with fail
    refine (hck _).mono ?_
    rintro e w1 ⟨rfl, hb1⟩
    have hc1 := bcell hb1
    have hf1 := bfroz hb1
    go_wp2
    refine bodyPost_ret (v := .tuple #[.agg #[.int .i64 0, .int .i64 0], .int .i64 61]) (by simp [results, Try.results26, go_sem, hc1]) rfl ?_
    exact ⟨by rw [HR.out]; rfl, bs2 (bt2 hb1) (Nat.le_succ _) _ _⟩
  · have hz : chkG s l n = 0 := if_neg hg
    rw [hz] at hck
    unfold GBad at hg
    have HR : Hid (slot s l n k = if k < 0 ∨ (1099511627776 - s) / l ≤ k then ((0, 0), 2) else ((s + k * l, s + k * l + l), 0)) := if_neg hg
    have g1 : 0 ≤ s := by omega
    have g2 : s ≤ 1099511627776 := by omega
    have g3 : 1 ≤ l := by omega
    have g4 : l ≤ 16777216 := by omega
    clear hz hg
    generalize hq : (1099511627776 - s) / l = q at HR
    have HQ := Lib.hid hq
    have q1 : (1099511627776 - s).tdiv l = q := by rw [Int.tdiv_eq_ediv_of_nonneg (by omega)]; exact hq
    have q2 : 0 ≤ q := by rw [← hq]; exact Int.ediv_nonneg (by omega) (by omega)
    have q3 : q ≤ 1099511627776 := by have := (div_le_self' (a := 1099511627776 - s) (b := l) (by omega) g3).2; omega
    by_cases hk : k < 0 ∨ q ≤ k
    · have HR2 : Hid (slot s l n k = ((0, 0), 2)) := HR.out.trans (if_pos hk)
      unfold grv at *
      clear HR hq
      go_enter Try.func26, Try.ntmps26
      go_wp2_with fail
      refine (hck _).mono ?_
      rintro e w1 ⟨rfl, hb1⟩
      have hc1 := bcell hb1
      have hf1 := bfroz hb1
      go_wp2
      all_goals try (refine bodyPost_ret (v := .tuple #[.agg #[.int .i64 0, .int .i64 0], .int .i64 2]) (by simp [results, Try.results26, go_sem, hc1]) rfl ?_)
      all_goals try exact ⟨by rw [HR2.out]; rfl, bs2 (bt2 hb1) (Nat.le_succ _) _ _⟩
    · have HR2 : Hid (slot s l n k = ((s + k * l, s + k * l + l), 0)) := HR.out.trans (if_neg hk)
      have k1 : 0 ≤ k := by omega
      have k2 : k < q := by omega
      obtain ⟨f1, f2⟩ := slot_fit g3 k1 (hq ▸ k2)
      unfold grv at *
      clear HR hq hk
      go_enter Try.func26, Try.ntmps26
      go_wp2_with fail
      refine (hck _).mono ?_
      rintro e w1 ⟨rfl, hb1⟩
      have hc1 := bcell hb1
      have hf1 := bfroz hb1
      go_wp2
      all_goals try (refine bodyPost_ret (v := .tuple #[.agg #[.int .i64 (s + k * l), .int .i64 (s + k * l + l)], .int .i64 0]) (by simp [results, Try.results26, go_sem, hc1]) rfl ?_)
      all_goals try exact ⟨by rw [HR2.out]; rfl, bs2 (bt2 hb1) (Nat.le_succ _) _ _⟩
theorem begins_eq {s l t : Int} (g3 : 1 ≤ l) (h : s < t) : (t - s + l - 1) / l = begins s l t := by
  unfold begins
  rw [if_neg (by omega), show t - s + l - 1 = (t - s - 1) + 1 * l by omega, Int.add_mul_ediv_right _ _ (by omega)]
theorem next_steps {k n pos : Int} (g5 : 4 ≤ n) (g6 : n ≤ 8) (p1 : 0 ≤ pos) (p2 : pos < n) (j : Int) (j0 : 0 ≤ j) (j1 : j ≤ (pos - k) % n) : ((k + j) % n != pos) = decide (j < (pos - k) % n) := by
  have : (k + j) % n = pos ↔ j = (pos - k) % n := by
    rcases (by omega : n = 4 ∨ n = 5 ∨ n = 6 ∨ n = 7 ∨ n = 8) with rfl | rfl | rfl | rfl | rfl <;> omega
  rw [Bool.eq_iff_iff]
  simp only [bne_iff_ne, decide_eq_true_eq, ne_eq, this]
  omega
set_option maxHeartbeats 800000 in
theorem rnext_any (s l n t pos : Int) (w : World) :
    Calls Try.prog 28 #[grv s l n, .int .i64 t, .int .i64 pos] w fun e w' => e = .returned (.tuple #[.int .i64 (next s l n t pos).1, .int .i64 (next s l n t pos).2]) ∧ Below w.heap.size w w' := by
  have hck := rcheckGrid_any s l n
  by_cases hg : GBad s l n
  · have hz : chkG s l n = 61 := if_pos hg
    have HR : Hid (next s l n t pos = (0, 61)) := if_pos hg
    rw [hz] at hck
    unfold grv at *
    clear hz hg
    go_enter Try.func28, Try.ntmps28
    go_wp2_with fail
    refine (hck _).mono ?_
    rintro e w1 ⟨rfl, hb1⟩
    go_wp2
    go_ret2
    exact ⟨by rw [HR.out]; rfl, bt (below1 w _) hb1⟩
  · have hz : chkG s l n = 0 := if_neg hg
    rw [hz] at hck
    unfold GBad at hg
    have HR : Hid (next s l n t pos = if pos < 0 ∨ n ≤ pos ∨ t < 0 ∨ 1099511627776 < t then (0, 2) else (begins s l t + (pos - begins s l t) % n, 0)) := if_neg (by unfold GBad; exact hg)
    have g1 : 0 ≤ s := by omega
    have g2 : s ≤ 1099511627776 := by omega
    have g3 : 1 ≤ l := by omega
    have g4 : l ≤ 16777216 := by omega
    have g5 : 4 ≤ n := by omega
    have g6 : n ≤ 8 := by omega
    clear hz hg
    by_cases hp : pos < 0 ∨ n ≤ pos ∨ t < 0 ∨ 1099511627776 < t
    · have HR2 : Hid (next s l n t pos = (0, 2)) := HR.out.trans (if_pos hp)
      unfold grv at *
      clear HR
      go_enter Try.func28, Try.ntmps28
      go_wp2_with fail
      refine (hck _).mono ?_
      rintro e w1 ⟨rfl, hb1⟩
      have hc1 := bcell hb1
      go_upto_region 5 with fail
      all_goals try (go_ret2; exact ⟨by rw [HR2.out]; rfl, bt (below1 w _) hb1⟩)
      all_goals (exfalso; omega)
    · have HR2 : Hid (next s l n t pos = (begins s l t + (pos - begins s l t) % n, 0)) := HR.out.trans (if_neg hp)
      have HBE : Hid (s < t → (t - s + l - 1) / l = begins s l t) := fun h => begins_eq g3 h
      have HB0 : Hid (t ≤ s → begins s l t = 0) := fun h => if_pos h
      obtain ⟨hk1, hk2⟩ := begins_bd (s := s) (l := l) (t := t) g1 g3 (by omega)
      unfold grv at *
      generalize begins s l t = k at *
      clear HR
      have p1 : 0 ≤ pos := by omega
      have p2 : pos < n := by omega
      have p3 : 0 ≤ t := by omega
      have p4 : t ≤ 1099511627776 := by omega
      clear hp
      have HST : Hid (∀ j : Int, 0 ≤ j → j ≤ (pos - k) % n → ((k + j) % n != pos) = decide (j < (pos - k) % n)) := fun j j0 j1 => next_steps g5 g6 p1 p2 j j0 j1
      have m5 := Int.emod_nonneg (pos - k) (show n ≠ 0 by omega)
      have m6 := Int.emod_lt_of_pos (pos - k) (show 0 < n by omega)
      generalize (pos - k) % n = d at *
      go_enter Try.func28, Try.ntmps28
      go_wp2_with fail
      refine (hck _).mono ?_
      rintro e w1 ⟨rfl, hb1⟩
      have hc1 := bcell hb1
      have HB1 := Lib.hid hb1
      clear hb1 hck
      by_cases hts : s < t
      · have hdv := HBE.out hts
        have hdv2 : (t - s + l - 1).tdiv l = k := by rw [Int.tdiv_eq_ediv_of_nonneg (by omega)]; exact hdv
        go_wp2_with fail
        clear HBE HB0
        (try clear hdv hdv2)
        go_loop [8] (fun i => ∃ j : Int, 0 ≤ j ∧ j ≤ d ∧ i = .int .i64 (k + j)) (fun i => (k + d - intOf i).toNat)
        case atStart => exact ⟨0, by omega, m5, by simp⟩
        case round =>
          obtain ⟨j, j0, j1, rfl⟩ := hrel
          have hst := HST.out j j0 j1
          have hq : ((k + j).tmod n) = (k + j) % n := Int.tmod_eq_emod_of_nonneg (by omega)
          have q0 : 0 ≤ k + j := by omega
          have q1 : k + j ≤ 1099511627790 := by omega
          have HQ : Hid (k + d = k + d) := rfl
          by_cases hlt : j < d
          · rw [decide_eq_true hlt] at hst
            go_wp2
            go_round
            case rel => exact ⟨j + 1, by omega, by omega, by simp; omega⟩
            case measure => simp [intOf]; omega
          · rw [decide_eq_false hlt] at hst
            obtain rfl : j = d := by omega
            go_wp2
            go_ret2
            exact ⟨by rw [HR2.out]; rfl, bt (below1 w _) HB1.out⟩
      · have hk0 := HB0.out (by omega)
        have HK0 := Lib.hid hk0
        clear hk0
        go_wp2_with fail
        clear HBE HB0
        (try clear hdv hdv2)
        go_loop [8] (fun i => ∃ j : Int, 0 ≤ j ∧ j ≤ d ∧ i = .int .i64 (k + j)) (fun i => (k + d - intOf i).toNat)
        case atStart => exact ⟨0, by omega, m5, by have := HK0.out; simp [this]⟩
        case round =>
          obtain ⟨j, j0, j1, rfl⟩ := hrel
          have hst := HST.out j j0 j1
          have hq : ((k + j).tmod n) = (k + j) % n := Int.tmod_eq_emod_of_nonneg (by omega)
          have q0 : 0 ≤ k + j := by omega
          have q1 : k + j ≤ 1099511627790 := by omega
          have HQ : Hid (k + d = k + d) := rfl
          by_cases hlt : j < d
          · rw [decide_eq_true hlt] at hst
            go_wp2
            go_round
            case rel => exact ⟨j + 1, by omega, by omega, by simp; omega⟩
            case measure => simp [intOf]; omega
          · rw [decide_eq_false hlt] at hst
            obtain rfl : j = d := by omega
            go_wp2
            go_ret2
            exact ⟨by rw [HR2.out]; rfl, bt (below1 w _) HB1.out⟩
end Go.Proofs.Ytiahmhmchppjgaa
