/- The law SchedSpans. -/
import Derived.Test.YtiahmhmchppjgaaW6
import Derived.Test.YtiahmhmchppjgaaReg
namespace Go.Proofs.Ytiahmhmchppjgaa
open Go.RowKit Go.Shelf
open Sched (Sp bad)

theorem cell2 (w : World) (f t g u : Value) (y : TypeId) : ∀ W : World, W = (w.alloc (.cells #[f, t] y)).alloc (.cells #[g, u] y) →
    W.cell? ⟨w.heap.size, 0, none⟩ = some f ∧ W.cell? ⟨w.heap.size, 1, none⟩ = some t ∧ W.cell? ⟨w.heap.size + 1, 0, none⟩ = some g ∧ W.cell? ⟨w.heap.size + 1, 1, none⟩ = some u := by
  rintro _ rfl
  have e1 : (w.alloc (.cells #[f, t] y)).heap.size = w.heap.size + 1 := by simp
  refine ⟨?_, ?_, ?_, ?_⟩
  · rw [World.cell?_alloc_past _ _ _ (by omega), World.cell?_alloc_at _ _ _ _ rfl]; rfl
  · rw [World.cell?_alloc_past _ _ _ (by omega), World.cell?_alloc_at _ _ _ _ rfl]; rfl
  · rw [World.cell?_alloc_at _ _ _ _ e1.symm]; rfl
  · rw [World.cell?_alloc_at _ _ _ _ e1.symm]; rfl
theorem cell1 (w : World) (f t : Value) (y : TypeId) : (w.alloc (.cells #[f, t] y)).cell? ⟨w.heap.size, 0, none⟩ = some f ∧ (w.alloc (.cells #[f, t] y)).cell? ⟨w.heap.size, 1, none⟩ = some t :=
  ⟨by rw [World.cell?_alloc_at _ _ _ _ rfl]; rfl, by rw [World.cell?_alloc_at _ _ _ _ rfl]; rfl⟩

set_option maxHeartbeats 3200000 in
theorem spans_walk (f t g u b : Int) (w : World) :
    Calls Try.prog 5 #[spv (f, t), spv (g, u), .int .i64 b] w fun e w' => e = .returned (.bool true) ∧ Below w.heap.size w w' := by
  have c1 := shift_any f t b
  have c2 := rshift_any f t b
  have c3 := check_any f t
  have c4 := rcheck_any f t
  have c5 := meets_any f t g u
  have c6 := rmeets_any f t g u
  have c7 := within_any f t g u
  have c8 := rwithin_any f t g u
  have e3 : chk (f, t) = 60 ∨ chk (f, t) = 0 := by
    unfold chk; cases bad (f, t) <;> simp
  generalize shift f t b = r at *
  obtain ⟨⟨x, y⟩, z⟩ := r
  have heq := eqSp x y x y
  simp only [beq_self_eq_true, Bool.and_self] at heq
  unfold spv at *
  generalize meets (f, t) (g, u) = m at *
  generalize within (f, t) (g, u) = p at *
  generalize chk (f, t) = k at *
  dsimp only at c1 c2 c3 c4 c5 c6 c7 c8
  go_enter Try.func5, Try.ntmps5
  go_wp2_with fail
  refine (c1 _).mono ?_
  rintro e w1 ⟨rfl, hb1⟩
  have hc1 := bcell hb1
  have b1 := bt (below2 w _ _) hb1
  have s1 : w.heap.size < w1.heap.size := by have := hb1.size; simp at this; omega
  have s2 : w.heap.size + 1 < w1.heap.size := by have := hb1.size; simp at this; omega
  go_wp2_with fail
  refine (c2 _).mono ?_
  rintro e w2 ⟨rfl, hb2⟩
  go_wp2_with fail
  have b2 := (bt (bt b1 (below1 w1 _)) hb2).trans ((below1 w2 (.cells #[.int .i64 x, .int .i64 y] 23)).mono (bt (bt b1 (below1 w1 _)) hb2).size)
  obtain ⟨q1, q2, q3, q4⟩ := cell2 w (.int .i64 f) (.int .i64 t) (.int .i64 g) (.int .i64 u) 23 _ rfl
  obtain ⟨q5, q6⟩ := cell1 w1 (.int .i64 x) (.int .i64 y) 23
  obtain ⟨q7, q8⟩ := cell1 w2 (.int .i64 x) (.int .i64 y) 23
  have H1 : (fun W : World => W.cell? ⟨w.heap.size, 0, none⟩ = some (.int .i64 f) ∧ W.cell? ⟨w.heap.size, 1, none⟩ = some (.int .i64 t) ∧ W.cell? ⟨w.heap.size + 1, 0, none⟩ = some (.int .i64 g) ∧ W.cell? ⟨w.heap.size + 1, 1, none⟩ = some (.int .i64 u) ∧ W.cell? ⟨w1.heap.size, 0, none⟩ = some (.int .i64 x) ∧ W.cell? ⟨w1.heap.size, 1, none⟩ = some (.int .i64 y) ∧ W.cell? ⟨w2.heap.size, 0, none⟩ = some (.int .i64 x) ∧ W.cell? ⟨w2.heap.size, 1, none⟩ = some (.int .i64 y) ∧ Below w.heap.size w W) (w2.alloc (.cells #[.int .i64 x, .int .i64 y] 23)).drew := by
    have k1 := fun (a : Addr) (v : Value) (h : World.cell? _ a = some v) => keepCell (below1 w2 (.cells #[.int .i64 x, .int .i64 y] 23)) (keepCell hb2 (p := a) (v := v) h)
    have k2 := fun (a : Addr) (v : Value) (h : World.cell? _ a = some v) => k1 a v (keepCell (below1 w1 (.cells #[.int .i64 x, .int .i64 y] 23)) (keepCell hb1 (p := a) (v := v) h))
    exact ⟨k2 _ _ q1, k2 _ _ q2, k2 _ _ q3, k2 _ _ q4, k1 _ _ q5, k1 _ _ q6, q7, q8, b2.drew⟩
  have KK : ∀ (n : Nat) (args : Array Value) (r : Value) (W : World), (Calls Try.prog n args W fun e w' => e = .returned r ∧ Below W.heap.size W w') → (W.cell? ⟨w.heap.size, 0, none⟩ = some (.int .i64 f) ∧ W.cell? ⟨w.heap.size, 1, none⟩ = some (.int .i64 t) ∧ W.cell? ⟨w.heap.size + 1, 0, none⟩ = some (.int .i64 g) ∧ W.cell? ⟨w.heap.size + 1, 1, none⟩ = some (.int .i64 u) ∧ W.cell? ⟨w1.heap.size, 0, none⟩ = some (.int .i64 x) ∧ W.cell? ⟨w1.heap.size, 1, none⟩ = some (.int .i64 y) ∧ W.cell? ⟨w2.heap.size, 0, none⟩ = some (.int .i64 x) ∧ W.cell? ⟨w2.heap.size, 1, none⟩ = some (.int .i64 y) ∧ Below w.heap.size w W) →
      Calls Try.prog n args W fun e W => e = .returned r ∧ W.cell? ⟨w.heap.size, 0, none⟩ = some (.int .i64 f) ∧ W.cell? ⟨w.heap.size, 1, none⟩ = some (.int .i64 t) ∧ W.cell? ⟨w.heap.size + 1, 0, none⟩ = some (.int .i64 g) ∧ W.cell? ⟨w.heap.size + 1, 1, none⟩ = some (.int .i64 u) ∧ W.cell? ⟨w1.heap.size, 0, none⟩ = some (.int .i64 x) ∧ W.cell? ⟨w1.heap.size, 1, none⟩ = some (.int .i64 y) ∧ W.cell? ⟨w2.heap.size, 0, none⟩ = some (.int .i64 x) ∧ W.cell? ⟨w2.heap.size, 1, none⟩ = some (.int .i64 y) ∧ Below w.heap.size w W := fun n args r W h hs => h.mono fun e w' ⟨he, hb⟩ => ⟨he, keepCell hb hs.1, keepCell hb hs.2.1, keepCell hb hs.2.2.1, keepCell hb hs.2.2.2.1, keepCell hb hs.2.2.2.2.1, keepCell hb hs.2.2.2.2.2.1, keepCell hb hs.2.2.2.2.2.2.1, keepCell hb hs.2.2.2.2.2.2.2.1, hs.2.2.2.2.2.2.2.2.trans (hb.mono hs.2.2.2.2.2.2.2.2.size)⟩
  clear q1 q2 q3 q4 q5 q6 q7 q8 hb1 hb2 b1 b2 hc1 c1 c2
  generalize w2.alloc (.cells #[.int .i64 x, .int .i64 y] 23) = W0 at *
  rcases e3 with rfl | rfl <;> cases m <;> cases p
  all_goals
    refine wp_region_held_drew (S := (fun W => W.cell? ⟨w.heap.size, 0, none⟩ = some (.int .i64 f) ∧ W.cell? ⟨w.heap.size, 1, none⟩ = some (.int .i64 t) ∧ W.cell? ⟨w.heap.size + 1, 0, none⟩ = some (.int .i64 g) ∧ W.cell? ⟨w.heap.size + 1, 1, none⟩ = some (.int .i64 u) ∧ W.cell? ⟨w1.heap.size, 0, none⟩ = some (.int .i64 x) ∧ W.cell? ⟨w1.heap.size, 1, none⟩ = some (.int .i64 y) ∧ W.cell? ⟨w2.heap.size, 0, none⟩ = some (.int .i64 x) ∧ W.cell? ⟨w2.heap.size, 1, none⟩ = some (.int .i64 y) ∧ Below w.heap.size w W)) (by kernel_rfl) (by assumption) (fun hHeld => ?_)
    (refine takeC (i := 0) rfl (by kernel_rfl) (by rfl) (fun K hK => ?_); go_simp; (first | (go_at_call 9; with_reducible refine (KK _ _ _ _ (begun_any _) (by assumption)).mono ?_; rintro e w' ⟨rfl, hs⟩) | (go_at_call 12; with_reducible refine (KK _ _ _ _ (c3 _) (by assumption)).mono ?_; rintro e w' ⟨rfl, hs⟩) | (go_at_call 20; with_reducible refine (KK _ _ _ _ (c4 _) (by assumption)).mono ?_; rintro e w' ⟨rfl, hs⟩) | (go_at_call 10; with_reducible refine (KK _ _ _ _ (c5 _) (by assumption)).mono ?_; rintro e w' ⟨rfl, hs⟩) | (go_at_call 21; with_reducible refine (KK _ _ _ _ (c6 _) (by assumption)).mono ?_; rintro e w' ⟨rfl, hs⟩) | (go_at_call 11; with_reducible refine (KK _ _ _ _ (c7 _) (by assumption)).mono ?_; rintro e w' ⟨rfl, hs⟩) | (go_at_call 22; with_reducible refine (KK _ _ _ _ (c8 _) (by assumption)).mono ?_; rintro e w' ⟨rfl, hs⟩)); refine hK.out _ _ hs (fun hHeld => ?_); clear hK K; (try simp only [Act.put, List.setIfInBounds_toArray, List.set_cons_zero, List.set_cons_succ]))
    (refine takeW (i := 1) (v := ?_) rfl (by kernel_rfl) (by kernel_rfl) (by kernel_rfl) (fun _ _ _ h => h) (by rfl) (by assumption) ?_ ?_; rotate_left; (intro W hW; (try dsimp only at hW); go_simp; try with_reducible rfl); (try simp only [Act.put, List.setIfInBounds_toArray, List.set_cons_zero, List.set_cons_succ]))
    first
      | (refine takeW (i := 2) (v := ?_) rfl (by kernel_rfl) (by kernel_rfl) (by kernel_rfl) (fun _ _ _ h => h) (by rfl) (by assumption) ?_ ?_; rotate_left; (intro W hW; (try dsimp only at hW); go_simp; try with_reducible rfl); (try simp only [Act.put, List.setIfInBounds_toArray, List.set_cons_zero, List.set_cons_succ]))
      | (refine takeU (i := 2) rfl (by kernel_rfl) (by kernel_rfl) (by kernel_rfl) (fun _ _ _ h => h) (by rfl) (by assumption) ?_; (try simp only [Act.put, List.setIfInBounds_toArray, List.set_cons_zero, List.set_cons_succ]))
    first
      | (refine takeW (i := 4) (v := ?_) rfl (by kernel_rfl) (by kernel_rfl) (by kernel_rfl) (fun _ _ _ h => h) (by rfl) (by assumption) ?_ ?_; rotate_left; (intro W hW; (try dsimp only at hW); go_simp; try with_reducible rfl); (try simp only [Act.put, List.setIfInBounds_toArray, List.set_cons_zero, List.set_cons_succ]))
      | (refine takeU (i := 4) rfl (by kernel_rfl) (by kernel_rfl) (by kernel_rfl) (fun _ _ _ h => h) (by rfl) (by assumption) ?_; (try simp only [Act.put, List.setIfInBounds_toArray, List.set_cons_zero, List.set_cons_succ]))
    first
      | (refine takeC (i := 3) rfl (by kernel_rfl) (by rfl) (fun K hK => ?_); go_simp; (first | (go_at_call 9; with_reducible refine (KK _ _ _ _ (begun_any _) (by assumption)).mono ?_; rintro e w' ⟨rfl, hs⟩) | (go_at_call 12; with_reducible refine (KK _ _ _ _ (c3 _) (by assumption)).mono ?_; rintro e w' ⟨rfl, hs⟩) | (go_at_call 20; with_reducible refine (KK _ _ _ _ (c4 _) (by assumption)).mono ?_; rintro e w' ⟨rfl, hs⟩) | (go_at_call 10; with_reducible refine (KK _ _ _ _ (c5 _) (by assumption)).mono ?_; rintro e w' ⟨rfl, hs⟩) | (go_at_call 21; with_reducible refine (KK _ _ _ _ (c6 _) (by assumption)).mono ?_; rintro e w' ⟨rfl, hs⟩) | (go_at_call 11; with_reducible refine (KK _ _ _ _ (c7 _) (by assumption)).mono ?_; rintro e w' ⟨rfl, hs⟩) | (go_at_call 22; with_reducible refine (KK _ _ _ _ (c8 _) (by assumption)).mono ?_; rintro e w' ⟨rfl, hs⟩)); refine hK.out _ _ hs (fun hHeld => ?_); clear hK K; (try simp only [Act.put, List.setIfInBounds_toArray, List.set_cons_zero, List.set_cons_succ]))
      | (refine takeU (i := 3) rfl (by kernel_rfl) (by kernel_rfl) (by kernel_rfl) (fun _ _ _ h => h) (by rfl) (by assumption) ?_; (try simp only [Act.put, List.setIfInBounds_toArray, List.set_cons_zero, List.set_cons_succ]))
    first
      | (refine takeC (i := 5) rfl (by kernel_rfl) (by rfl) (fun K hK => ?_); go_simp; (first | (go_at_call 9; with_reducible refine (KK _ _ _ _ (begun_any _) (by assumption)).mono ?_; rintro e w' ⟨rfl, hs⟩) | (go_at_call 12; with_reducible refine (KK _ _ _ _ (c3 _) (by assumption)).mono ?_; rintro e w' ⟨rfl, hs⟩) | (go_at_call 20; with_reducible refine (KK _ _ _ _ (c4 _) (by assumption)).mono ?_; rintro e w' ⟨rfl, hs⟩) | (go_at_call 10; with_reducible refine (KK _ _ _ _ (c5 _) (by assumption)).mono ?_; rintro e w' ⟨rfl, hs⟩) | (go_at_call 21; with_reducible refine (KK _ _ _ _ (c6 _) (by assumption)).mono ?_; rintro e w' ⟨rfl, hs⟩) | (go_at_call 11; with_reducible refine (KK _ _ _ _ (c7 _) (by assumption)).mono ?_; rintro e w' ⟨rfl, hs⟩) | (go_at_call 22; with_reducible refine (KK _ _ _ _ (c8 _) (by assumption)).mono ?_; rintro e w' ⟨rfl, hs⟩)); refine hK.out _ _ hs (fun hHeld => ?_); clear hK K; (try simp only [Act.put, List.setIfInBounds_toArray, List.set_cons_zero, List.set_cons_succ]))
      | (refine takeU (i := 5) rfl (by kernel_rfl) (by kernel_rfl) (by kernel_rfl) (fun _ _ _ h => h) (by rfl) (by assumption) ?_; (try simp only [Act.put, List.setIfInBounds_toArray, List.set_cons_zero, List.set_cons_succ]))
    first
      | (refine takeW (i := 6) (v := ?_) rfl (by kernel_rfl) (by kernel_rfl) (by kernel_rfl) (fun _ _ _ h => h) (by rfl) (by assumption) ?_ ?_; rotate_left; (intro W hW; (try dsimp only at hW); go_simp; try with_reducible rfl); (try simp only [Act.put, List.setIfInBounds_toArray, List.set_cons_zero, List.set_cons_succ]))
      | (refine takeU (i := 6) rfl (by kernel_rfl) (by kernel_rfl) (by kernel_rfl) (fun _ _ _ h => h) (by rfl) (by assumption) ?_; (try simp only [Act.put, List.setIfInBounds_toArray, List.set_cons_zero, List.set_cons_succ]))
    (refine takeW (i := 7) (v := ?_) rfl (by kernel_rfl) (by kernel_rfl) (by kernel_rfl) (fun _ _ _ h => h) (by rfl) (by assumption) ?_ ?_; rotate_left; (intro W hW; (try dsimp only at hW); go_simp; try with_reducible rfl); (try simp only [Act.put, List.setIfInBounds_toArray, List.set_cons_zero, List.set_cons_succ]))
    (refine takeW (i := 8) (v := ?_) rfl (by kernel_rfl) (by kernel_rfl) (by kernel_rfl) (fun _ _ _ h => h) (by rfl) (by assumption) ?_ ?_; rotate_left; (intro W hW; (try dsimp only at hW); go_simp; try with_reducible rfl); (try simp only [Act.put, List.setIfInBounds_toArray, List.set_cons_zero, List.set_cons_succ]))
    first
      | (refine takeW (i := 9) (v := ?_) rfl (by kernel_rfl) (by kernel_rfl) (by kernel_rfl) (fun _ _ _ h => h) (by rfl) (by assumption) ?_ ?_; rotate_left; (intro W hW; (try dsimp only at hW); go_simp; try with_reducible rfl); (try simp only [Act.put, List.setIfInBounds_toArray, List.set_cons_zero, List.set_cons_succ]))
      | (refine takeU (i := 9) rfl (by kernel_rfl) (by kernel_rfl) (by kernel_rfl) (fun _ _ _ h => h) (by rfl) (by assumption) ?_; (try simp only [Act.put, List.setIfInBounds_toArray, List.set_cons_zero, List.set_cons_succ]))
    first
      | (refine takeW (i := 10) (v := ?_) rfl (by kernel_rfl) (by kernel_rfl) (by kernel_rfl) (fun _ _ _ h => h) (by rfl) (by assumption) ?_ ?_; rotate_left; (intro W hW; (try dsimp only at hW); go_simp; try with_reducible rfl); (try simp only [Act.put, List.setIfInBounds_toArray, List.set_cons_zero, List.set_cons_succ]))
      | (refine takeU (i := 10) rfl (by kernel_rfl) (by kernel_rfl) (by kernel_rfl) (fun _ _ _ h => h) (by rfl) (by assumption) ?_; (try simp only [Act.put, List.setIfInBounds_toArray, List.set_cons_zero, List.set_cons_succ]))
    first
      | (refine takeW (i := 12) (v := ?_) rfl (by kernel_rfl) (by kernel_rfl) (by kernel_rfl) (fun _ _ _ h => h) (by rfl) (by assumption) ?_ ?_; rotate_left; (intro W hW; (try dsimp only at hW); go_simp; try with_reducible rfl); (try simp only [Act.put, List.setIfInBounds_toArray, List.set_cons_zero, List.set_cons_succ]))
      | (refine takeU (i := 12) rfl (by kernel_rfl) (by kernel_rfl) (by kernel_rfl) (fun _ _ _ h => h) (by rfl) (by assumption) ?_; (try simp only [Act.put, List.setIfInBounds_toArray, List.set_cons_zero, List.set_cons_succ]))
    first
      | (refine takeW (i := 13) (v := ?_) rfl (by kernel_rfl) (by kernel_rfl) (by kernel_rfl) (fun _ _ _ h => h) (by rfl) (by assumption) ?_ ?_; rotate_left; (intro W hW; (try dsimp only at hW); go_simp; try with_reducible rfl); (try simp only [Act.put, List.setIfInBounds_toArray, List.set_cons_zero, List.set_cons_succ]))
      | (refine takeU (i := 13) rfl (by kernel_rfl) (by kernel_rfl) (by kernel_rfl) (fun _ _ _ h => h) (by rfl) (by assumption) ?_; (try simp only [Act.put, List.setIfInBounds_toArray, List.set_cons_zero, List.set_cons_succ]))
    first
      | (refine takeC (i := 11) rfl (by kernel_rfl) (by rfl) (fun K hK => ?_); go_simp; (first | (go_at_call 9; with_reducible refine (KK _ _ _ _ (begun_any _) (by assumption)).mono ?_; rintro e w' ⟨rfl, hs⟩) | (go_at_call 12; with_reducible refine (KK _ _ _ _ (c3 _) (by assumption)).mono ?_; rintro e w' ⟨rfl, hs⟩) | (go_at_call 20; with_reducible refine (KK _ _ _ _ (c4 _) (by assumption)).mono ?_; rintro e w' ⟨rfl, hs⟩) | (go_at_call 10; with_reducible refine (KK _ _ _ _ (c5 _) (by assumption)).mono ?_; rintro e w' ⟨rfl, hs⟩) | (go_at_call 21; with_reducible refine (KK _ _ _ _ (c6 _) (by assumption)).mono ?_; rintro e w' ⟨rfl, hs⟩) | (go_at_call 11; with_reducible refine (KK _ _ _ _ (c7 _) (by assumption)).mono ?_; rintro e w' ⟨rfl, hs⟩) | (go_at_call 22; with_reducible refine (KK _ _ _ _ (c8 _) (by assumption)).mono ?_; rintro e w' ⟨rfl, hs⟩)); refine hK.out _ _ hs (fun hHeld => ?_); clear hK K; (try simp only [Act.put, List.setIfInBounds_toArray, List.set_cons_zero, List.set_cons_succ]))
      | (refine takeU (i := 11) rfl (by kernel_rfl) (by kernel_rfl) (by kernel_rfl) (fun _ _ _ h => h) (by rfl) (by assumption) ?_; (try simp only [Act.put, List.setIfInBounds_toArray, List.set_cons_zero, List.set_cons_succ]))
    first
      | (refine takeC (i := 14) rfl (by kernel_rfl) (by rfl) (fun K hK => ?_); go_simp; (first | (go_at_call 9; with_reducible refine (KK _ _ _ _ (begun_any _) (by assumption)).mono ?_; rintro e w' ⟨rfl, hs⟩) | (go_at_call 12; with_reducible refine (KK _ _ _ _ (c3 _) (by assumption)).mono ?_; rintro e w' ⟨rfl, hs⟩) | (go_at_call 20; with_reducible refine (KK _ _ _ _ (c4 _) (by assumption)).mono ?_; rintro e w' ⟨rfl, hs⟩) | (go_at_call 10; with_reducible refine (KK _ _ _ _ (c5 _) (by assumption)).mono ?_; rintro e w' ⟨rfl, hs⟩) | (go_at_call 21; with_reducible refine (KK _ _ _ _ (c6 _) (by assumption)).mono ?_; rintro e w' ⟨rfl, hs⟩) | (go_at_call 11; with_reducible refine (KK _ _ _ _ (c7 _) (by assumption)).mono ?_; rintro e w' ⟨rfl, hs⟩) | (go_at_call 22; with_reducible refine (KK _ _ _ _ (c8 _) (by assumption)).mono ?_; rintro e w' ⟨rfl, hs⟩)); refine hK.out _ _ hs (fun hHeld => ?_); clear hK K; (try simp only [Act.put, List.setIfInBounds_toArray, List.set_cons_zero, List.set_cons_succ]))
      | (refine takeU (i := 14) rfl (by kernel_rfl) (by kernel_rfl) (by kernel_rfl) (fun _ _ _ h => h) (by rfl) (by assumption) ?_; (try simp only [Act.put, List.setIfInBounds_toArray, List.set_cons_zero, List.set_cons_succ]))
    first
      | (refine takeW (i := 15) (v := ?_) rfl (by kernel_rfl) (by kernel_rfl) (by kernel_rfl) (fun _ _ _ h => h) (by rfl) (by assumption) ?_ ?_; rotate_left; (intro W hW; (try dsimp only at hW); go_simp; try with_reducible rfl); (try simp only [Act.put, List.setIfInBounds_toArray, List.set_cons_zero, List.set_cons_succ]))
      | (refine takeU (i := 15) rfl (by kernel_rfl) (by kernel_rfl) (by kernel_rfl) (fun _ _ _ h => h) (by rfl) (by assumption) ?_; (try simp only [Act.put, List.setIfInBounds_toArray, List.set_cons_zero, List.set_cons_succ]))
    (refine takeW (i := 16) (v := ?_) rfl (by kernel_rfl) (by kernel_rfl) (by kernel_rfl) (fun _ _ _ h => h) (by rfl) (by assumption) ?_ ?_; rotate_left; (intro W hW; (try dsimp only at hW); go_simp; try with_reducible rfl); (try simp only [Act.put, List.setIfInBounds_toArray, List.set_cons_zero, List.set_cons_succ]))
    (refine takeW (i := 17) (v := ?_) rfl (by kernel_rfl) (by kernel_rfl) (by kernel_rfl) (fun _ _ _ h => h) (by rfl) (by assumption) ?_ ?_; rotate_left; (intro W hW; (try dsimp only at hW); go_simp; try with_reducible rfl); (try simp only [Act.put, List.setIfInBounds_toArray, List.set_cons_zero, List.set_cons_succ]))
    first
      | (refine takeW (i := 18) (v := ?_) rfl (by kernel_rfl) (by kernel_rfl) (by kernel_rfl) (fun _ _ _ h => h) (by rfl) (by assumption) ?_ ?_; rotate_left; (intro W hW; (try dsimp only at hW); go_simp; try with_reducible rfl); (try simp only [Act.put, List.setIfInBounds_toArray, List.set_cons_zero, List.set_cons_succ]))
      | (refine takeU (i := 18) rfl (by kernel_rfl) (by kernel_rfl) (by kernel_rfl) (fun _ _ _ h => h) (by rfl) (by assumption) ?_; (try simp only [Act.put, List.setIfInBounds_toArray, List.set_cons_zero, List.set_cons_succ]))
    first
      | (refine takeW (i := 19) (v := ?_) rfl (by kernel_rfl) (by kernel_rfl) (by kernel_rfl) (fun _ _ _ h => h) (by rfl) (by assumption) ?_ ?_; rotate_left; (intro W hW; (try dsimp only at hW); go_simp; try with_reducible rfl); (try simp only [Act.put, List.setIfInBounds_toArray, List.set_cons_zero, List.set_cons_succ]))
      | (refine takeU (i := 19) rfl (by kernel_rfl) (by kernel_rfl) (by kernel_rfl) (fun _ _ _ h => h) (by rfl) (by assumption) ?_; (try simp only [Act.put, List.setIfInBounds_toArray, List.set_cons_zero, List.set_cons_succ]))
    first
      | (refine takeW (i := 21) (v := ?_) rfl (by kernel_rfl) (by kernel_rfl) (by kernel_rfl) (fun _ _ _ h => h) (by rfl) (by assumption) ?_ ?_; rotate_left; (intro W hW; (try dsimp only at hW); go_simp; try with_reducible rfl); (try simp only [Act.put, List.setIfInBounds_toArray, List.set_cons_zero, List.set_cons_succ]))
      | (refine takeU (i := 21) rfl (by kernel_rfl) (by kernel_rfl) (by kernel_rfl) (fun _ _ _ h => h) (by rfl) (by assumption) ?_; (try simp only [Act.put, List.setIfInBounds_toArray, List.set_cons_zero, List.set_cons_succ]))
    first
      | (refine takeW (i := 22) (v := ?_) rfl (by kernel_rfl) (by kernel_rfl) (by kernel_rfl) (fun _ _ _ h => h) (by rfl) (by assumption) ?_ ?_; rotate_left; (intro W hW; (try dsimp only at hW); go_simp; try with_reducible rfl); (try simp only [Act.put, List.setIfInBounds_toArray, List.set_cons_zero, List.set_cons_succ]))
      | (refine takeU (i := 22) rfl (by kernel_rfl) (by kernel_rfl) (by kernel_rfl) (fun _ _ _ h => h) (by rfl) (by assumption) ?_; (try simp only [Act.put, List.setIfInBounds_toArray, List.set_cons_zero, List.set_cons_succ]))
    first
      | (refine takeC (i := 20) rfl (by kernel_rfl) (by rfl) (fun K hK => ?_); go_simp; (first | (go_at_call 9; with_reducible refine (KK _ _ _ _ (begun_any _) (by assumption)).mono ?_; rintro e w' ⟨rfl, hs⟩) | (go_at_call 12; with_reducible refine (KK _ _ _ _ (c3 _) (by assumption)).mono ?_; rintro e w' ⟨rfl, hs⟩) | (go_at_call 20; with_reducible refine (KK _ _ _ _ (c4 _) (by assumption)).mono ?_; rintro e w' ⟨rfl, hs⟩) | (go_at_call 10; with_reducible refine (KK _ _ _ _ (c5 _) (by assumption)).mono ?_; rintro e w' ⟨rfl, hs⟩) | (go_at_call 21; with_reducible refine (KK _ _ _ _ (c6 _) (by assumption)).mono ?_; rintro e w' ⟨rfl, hs⟩) | (go_at_call 11; with_reducible refine (KK _ _ _ _ (c7 _) (by assumption)).mono ?_; rintro e w' ⟨rfl, hs⟩) | (go_at_call 22; with_reducible refine (KK _ _ _ _ (c8 _) (by assumption)).mono ?_; rintro e w' ⟨rfl, hs⟩)); refine hK.out _ _ hs (fun hHeld => ?_); clear hK K; (try simp only [Act.put, List.setIfInBounds_toArray, List.set_cons_zero, List.set_cons_succ]))
      | (refine takeU (i := 20) rfl (by kernel_rfl) (by kernel_rfl) (by kernel_rfl) (fun _ _ _ h => h) (by rfl) (by assumption) ?_; (try simp only [Act.put, List.setIfInBounds_toArray, List.set_cons_zero, List.set_cons_succ]))
    first
      | (refine takeC (i := 23) rfl (by kernel_rfl) (by rfl) (fun K hK => ?_); go_simp; (first | (go_at_call 9; with_reducible refine (KK _ _ _ _ (begun_any _) (by assumption)).mono ?_; rintro e w' ⟨rfl, hs⟩) | (go_at_call 12; with_reducible refine (KK _ _ _ _ (c3 _) (by assumption)).mono ?_; rintro e w' ⟨rfl, hs⟩) | (go_at_call 20; with_reducible refine (KK _ _ _ _ (c4 _) (by assumption)).mono ?_; rintro e w' ⟨rfl, hs⟩) | (go_at_call 10; with_reducible refine (KK _ _ _ _ (c5 _) (by assumption)).mono ?_; rintro e w' ⟨rfl, hs⟩) | (go_at_call 21; with_reducible refine (KK _ _ _ _ (c6 _) (by assumption)).mono ?_; rintro e w' ⟨rfl, hs⟩) | (go_at_call 11; with_reducible refine (KK _ _ _ _ (c7 _) (by assumption)).mono ?_; rintro e w' ⟨rfl, hs⟩) | (go_at_call 22; with_reducible refine (KK _ _ _ _ (c8 _) (by assumption)).mono ?_; rintro e w' ⟨rfl, hs⟩)); refine hK.out _ _ hs (fun hHeld => ?_); clear hK K; (try simp only [Act.put, List.setIfInBounds_toArray, List.set_cons_zero, List.set_cons_succ]))
      | (refine takeU (i := 23) rfl (by kernel_rfl) (by kernel_rfl) (by kernel_rfl) (fun _ _ _ h => h) (by rfl) (by assumption) ?_; (try simp only [Act.put, List.setIfInBounds_toArray, List.set_cons_zero, List.set_cons_succ]))
    first
      | (refine takeW (i := 24) (v := ?_) rfl (by kernel_rfl) (by kernel_rfl) (by kernel_rfl) (fun _ _ _ h => h) (by rfl) (by assumption) ?_ ?_; rotate_left; (intro W hW; (try dsimp only at hW); go_simp; try with_reducible rfl); (try simp only [Act.put, List.setIfInBounds_toArray, List.set_cons_zero, List.set_cons_succ]))
      | (refine takeU (i := 24) rfl (by kernel_rfl) (by kernel_rfl) (by kernel_rfl) (fun _ _ _ h => h) (by rfl) (by assumption) ?_; (try simp only [Act.put, List.setIfInBounds_toArray, List.set_cons_zero, List.set_cons_succ]))
    (refine takeW (i := 25) (v := ?_) rfl (by kernel_rfl) (by kernel_rfl) (by kernel_rfl) (fun _ _ _ h => h) (by rfl) (by assumption) ?_ ?_; rotate_left; (intro W hW; (try dsimp only at hW); go_simp; try with_reducible rfl); (try simp only [Act.put, List.setIfInBounds_toArray, List.set_cons_zero, List.set_cons_succ]))
    (refine takeW (i := 26) (v := ?_) rfl (by kernel_rfl) (by kernel_rfl) (by kernel_rfl) (fun _ _ _ h => h) (by rfl) (by assumption) ?_ ?_; rotate_left; (intro W hW; (try dsimp only at hW); go_simp; try with_reducible rfl); (try simp only [Act.put, List.setIfInBounds_toArray, List.set_cons_zero, List.set_cons_succ]))
    first
      | (refine takeW (i := 27) (v := ?_) rfl (by kernel_rfl) (by kernel_rfl) (by kernel_rfl) (fun _ _ _ h => h) (by rfl) (by assumption) ?_ ?_; rotate_left; (intro W hW; (try dsimp only at hW); go_simp; try with_reducible rfl); (try simp only [Act.put, List.setIfInBounds_toArray, List.set_cons_zero, List.set_cons_succ]))
      | (refine takeU (i := 27) rfl (by kernel_rfl) (by kernel_rfl) (by kernel_rfl) (fun _ _ _ h => h) (by rfl) (by assumption) ?_; (try simp only [Act.put, List.setIfInBounds_toArray, List.set_cons_zero, List.set_cons_succ]))
    first
      | (refine takeW (i := 28) (v := ?_) rfl (by kernel_rfl) (by kernel_rfl) (by kernel_rfl) (fun _ _ _ h => h) (by rfl) (by assumption) ?_ ?_; rotate_left; (intro W hW; (try dsimp only at hW); go_simp; try with_reducible rfl); (try simp only [Act.put, List.setIfInBounds_toArray, List.set_cons_zero, List.set_cons_succ]))
      | (refine takeU (i := 28) rfl (by kernel_rfl) (by kernel_rfl) (by kernel_rfl) (fun _ _ _ h => h) (by rfl) (by assumption) ?_; (try simp only [Act.put, List.setIfInBounds_toArray, List.set_cons_zero, List.set_cons_succ]))
    first
      | (refine takeW (i := 29) (v := ?_) rfl (by kernel_rfl) (by kernel_rfl) (by kernel_rfl) (fun _ _ _ h => h) (by rfl) (by assumption) ?_ ?_; rotate_left; (intro W hW; (try dsimp only at hW); go_simp; try with_reducible rfl); (try simp only [Act.put, List.setIfInBounds_toArray, List.set_cons_zero, List.set_cons_succ]))
      | (refine takeU (i := 29) rfl (by kernel_rfl) (by kernel_rfl) (by kernel_rfl) (fun _ _ _ h => h) (by rfl) (by assumption) ?_; (try simp only [Act.put, List.setIfInBounds_toArray, List.set_cons_zero, List.set_cons_succ]))
    (refine takeW (i := 30) (v := ?_) rfl (by kernel_rfl) (by kernel_rfl) (by kernel_rfl) (fun _ _ _ h => h) (by rfl) (by assumption) ?_ ?_; rotate_left; (intro W hW; (try dsimp only at hW); go_simp; try with_reducible rfl); (try simp only [Act.put, List.setIfInBounds_toArray, List.set_cons_zero, List.set_cons_succ]))
    (refine takeW (i := 31) (v := ?_) rfl (by kernel_rfl) (by kernel_rfl) (by kernel_rfl) (fun _ _ _ h => h) (by rfl) (by assumption) ?_ ?_; rotate_left; (intro W hW; (try dsimp only at hW); go_simp; try with_reducible rfl); (try simp only [Act.put, List.setIfInBounds_toArray, List.set_cons_zero, List.set_cons_succ]))
    first
      | (refine takeW (i := 32) (v := ?_) rfl (by kernel_rfl) (by kernel_rfl) (by kernel_rfl) (fun _ _ _ h => h) (by rfl) (by assumption) ?_ ?_; rotate_left; (intro W hW; (try dsimp only at hW); go_simp; try with_reducible rfl); (try simp only [Act.put, List.setIfInBounds_toArray, List.set_cons_zero, List.set_cons_succ]))
      | (refine takeU (i := 32) rfl (by kernel_rfl) (by kernel_rfl) (by kernel_rfl) (fun _ _ _ h => h) (by rfl) (by assumption) ?_; (try simp only [Act.put, List.setIfInBounds_toArray, List.set_cons_zero, List.set_cons_succ]))
    first
      | (refine takeW (i := 33) (v := ?_) rfl (by kernel_rfl) (by kernel_rfl) (by kernel_rfl) (fun _ _ _ h => h) (by rfl) (by assumption) ?_ ?_; rotate_left; (intro W hW; (try dsimp only at hW); go_simp; try with_reducible rfl); (try simp only [Act.put, List.setIfInBounds_toArray, List.set_cons_zero, List.set_cons_succ]))
      | (refine takeU (i := 33) rfl (by kernel_rfl) (by kernel_rfl) (by kernel_rfl) (fun _ _ _ h => h) (by rfl) (by assumption) ?_; (try simp only [Act.put, List.setIfInBounds_toArray, List.set_cons_zero, List.set_cons_succ]))
    first
      | (refine takeW (i := 34) (v := ?_) rfl (by kernel_rfl) (by kernel_rfl) (by kernel_rfl) (fun _ _ _ h => h) (by rfl) (by assumption) ?_ ?_; rotate_left; (intro W hW; (try dsimp only at hW); go_simp; try with_reducible rfl); (try simp only [Act.put, List.setIfInBounds_toArray, List.set_cons_zero, List.set_cons_succ]))
      | (refine takeU (i := 34) rfl (by kernel_rfl) (by kernel_rfl) (by kernel_rfl) (fun _ _ _ h => h) (by rfl) (by assumption) ?_; (try simp only [Act.put, List.setIfInBounds_toArray, List.set_cons_zero, List.set_cons_succ]))
    (refine takeW (i := 35) (v := ?_) rfl (by kernel_rfl) (by kernel_rfl) (by kernel_rfl) (fun _ _ _ h => h) (by rfl) (by assumption) ?_ ?_; rotate_left; (intro W hW; (try dsimp only at hW); go_simp; try with_reducible rfl); (try simp only [Act.put, List.setIfInBounds_toArray, List.set_cons_zero, List.set_cons_succ]))
    (refine takeW (i := 36) (v := ?_) rfl (by kernel_rfl) (by kernel_rfl) (by kernel_rfl) (fun _ _ _ h => h) (by rfl) (by assumption) ?_ ?_; rotate_left; (intro W hW; (try dsimp only at hW); go_simp; try with_reducible rfl); (try simp only [Act.put, List.setIfInBounds_toArray, List.set_cons_zero, List.set_cons_succ]))
    refine wpAnyH_done (by kernel_rfl) ?_ _
    go_wp2
    go_ret
    exact ⟨by simp, hs.2.2.2.2.2.2.2.2⟩
end Go.Proofs.Ytiahmhmchppjgaa
