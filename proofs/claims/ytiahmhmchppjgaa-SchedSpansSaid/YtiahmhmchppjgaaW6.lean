/- Contracts: a span later on, of the program and of the document. -/
import Derived.Test.YtiahmhmchppjgaaW4
namespace Go.Proofs.Ytiahmhmchppjgaa
open Go.RowKit Go.Shelf
open Sched (Sp bad)

def shift (f t b : Int) : Sp × Int := if f < 0 ∨ t < f ∨ 1099511627776 < t then ((0, 0), 60) else if b < -f ∨ 1099511627776 - t < b then ((0, 0), 60) else ((f + b, t + b), 0)

theorem shift_any (f t b : Int) (w : World) :
    Calls Try.prog 18 #[spv (f, t), .int .i64 b] w fun e w' => e = .returned (.tuple #[spv (shift f t b).1, .int .i64 (shift f t b).2]) ∧ Below w.heap.size w w' := by
  have hck := check_any f t
  by_cases hg : f < 0 ∨ t < f ∨ 1099511627776 < t
  · have HR : Hid (shift f t b = ((0, 0), 60)) := if_pos hg
    rw [chk_bad hg] at hck
    unfold spv at *
    clear hg
    go_enter Try.func18, Try.ntmps18
    go_wp2_with fail
    refine (hck _).mono ?_
    rintro e w1 ⟨rfl, hb1⟩
    have hc1 := bcell hb1
    have hf1 := bfroz hb1
    go_wp2
    refine bodyPost_ret (v := .tuple #[.agg #[.int .i64 0, .int .i64 0], .int .i64 60]) (by simp [results, Try.results18, go_sem, hc1]) rfl ?_
    exact ⟨by rw [HR.out], bs2 (bt2 hb1) (Nat.le_succ _) _ _⟩
  · have HR : Hid (shift f t b = if b < -f ∨ 1099511627776 - t < b then ((0, 0), 60) else ((f + b, t + b), 0)) := if_neg hg
    rw [chk_ok hg] at hck
    have g1 : 0 ≤ f := by omega
    have g2 : f ≤ t := by omega
    have g3 : t ≤ 1099511627776 := by omega
    clear hg
    by_cases hk : b < -f ∨ 1099511627776 - t < b
    · have HR2 : Hid (shift f t b = ((0, 0), 60)) := HR.out.trans (if_pos hk)
      unfold spv at *
      clear HR
      go_enter Try.func18, Try.ntmps18
      go_wp2_with fail
      refine (hck _).mono ?_
      rintro e w1 ⟨rfl, hb1⟩
      have hc1 := bcell hb1
      have hf1 := bfroz hb1
      go_wp2
      all_goals try (refine bodyPost_ret (v := .tuple #[.agg #[.int .i64 0, .int .i64 0], .int .i64 60]) (by simp [results, Try.results18, go_sem, hc1]) rfl ?_)
      all_goals exact ⟨by rw [HR2.out], bs2 (bt2 hb1) (Nat.le_succ _) _ _⟩
    · have HR2 : Hid (shift f t b = ((f + b, t + b), 0)) := HR.out.trans (if_neg hk)
      unfold spv at *
      clear HR
      have k1 : -f ≤ b := by omega
      have k2 : b ≤ 1099511627776 - t := by omega
      clear hk
      go_enter Try.func18, Try.ntmps18
      go_wp2_with fail
      refine (hck _).mono ?_
      rintro e w1 ⟨rfl, hb1⟩
      have hc1 := bcell hb1
      have hf1 := bfroz hb1
      go_wp2
      all_goals try (refine bodyPost_ret (v := .tuple #[.agg #[.int .i64 (f + b), .int .i64 (t + b)], .int .i64 0]) (by simp [results, Try.results18, go_sem, hc1]) rfl ?_)
      all_goals exact ⟨by rw [HR2.out], bs2 (bt2 hb1) (Nat.le_succ _) _ _⟩

theorem rshift_any (f t b : Int) (w : World) :
    Calls Try.prog 19 #[spv (f, t), .int .i64 b] w fun e w' => e = .returned (.tuple #[spv (shift f t b).1, .int .i64 (shift f t b).2]) ∧ Below w.heap.size w w' := by
  have hck := rcheck_any f t
  by_cases hg : f < 0 ∨ t < f ∨ 1099511627776 < t
  · have HR : Hid (shift f t b = ((0, 0), 60)) := if_pos hg
    rw [chk_bad hg] at hck
    unfold spv at *
    clear hg
    go_enter Try.func19, Try.ntmps19
    go_wp2_with fail
    refine (hck _).mono ?_
    rintro e w1 ⟨rfl, hb1⟩
    have hc1 := bcell hb1
    have hf1 := bfroz hb1
    go_wp2
    refine bodyPost_ret (v := .tuple #[.agg #[.int .i64 0, .int .i64 0], .int .i64 60]) (by simp [results, Try.results19, go_sem, hc1]) rfl ?_
    exact ⟨by rw [HR.out], bs2 (bt2 hb1) (Nat.le_succ _) _ _⟩
  · have HR : Hid (shift f t b = if b < -f ∨ 1099511627776 - t < b then ((0, 0), 60) else ((f + b, t + b), 0)) := if_neg hg
    rw [chk_ok hg] at hck
    have g1 : 0 ≤ f := by omega
    have g2 : f ≤ t := by omega
    have g3 : t ≤ 1099511627776 := by omega
    clear hg
    by_cases hk : b < -f ∨ 1099511627776 - t < b
    · have HR2 : Hid (shift f t b = ((0, 0), 60)) := HR.out.trans (if_pos hk)
      unfold spv at *
      clear HR
      go_enter Try.func19, Try.ntmps19
      go_wp2_with fail
      refine (hck _).mono ?_
      rintro e w1 ⟨rfl, hb1⟩
      have hc1 := bcell hb1
      have hf1 := bfroz hb1
      go_wp2
      all_goals try (refine bodyPost_ret (v := .tuple #[.agg #[.int .i64 0, .int .i64 0], .int .i64 60]) (by simp [results, Try.results19, go_sem, hc1]) rfl ?_)
      all_goals exact ⟨by rw [HR2.out], bs2 (bt2 hb1) (Nat.le_succ _) _ _⟩
    · have HR2 : Hid (shift f t b = ((f + b, t + b), 0)) := HR.out.trans (if_neg hk)
      unfold spv at *
      clear HR
      have k1 : -f ≤ b := by omega
      have k2 : b ≤ 1099511627776 - t := by omega
      clear hk
      go_enter Try.func19, Try.ntmps19
      go_wp2_with fail
      refine (hck _).mono ?_
      rintro e w1 ⟨rfl, hb1⟩
      have hc1 := bcell hb1
      have hf1 := bfroz hb1
      go_wp2
      all_goals try (refine bodyPost_ret (v := .tuple #[.agg #[.int .i64 (f + b), .int .i64 (t + b)], .int .i64 0]) (by simp [results, Try.results19, go_sem, hc1]) rfl ?_)
      all_goals exact ⟨by rw [HR2.out], bs2 (bt2 hb1) (Nat.le_succ _) _ _⟩
end Go.Proofs.Ytiahmhmchppjgaa
