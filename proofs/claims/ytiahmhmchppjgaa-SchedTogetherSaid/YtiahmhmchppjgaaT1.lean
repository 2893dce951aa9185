/- The law SchedTogether. -/
import Derived.Test.YtiahmhmchppjgaaReg
namespace Go.Proofs.Ytiahmhmchppjgaa
open Go.RowKit Go.Shelf
open Sched (Sp bad)

theorem cell3 (w : World) (f t g u i v : Value) (y : TypeId) : ∀ W : World, W = ((w.alloc (.cells #[f, t] y)).alloc (.cells #[g, u] y)).alloc (.cells #[i, v] y) →
    W.drew.cell? ⟨w.heap.size, 0, none⟩ = some f ∧ W.drew.cell? ⟨w.heap.size, 1, none⟩ = some t ∧ W.drew.cell? ⟨w.heap.size + 1, 0, none⟩ = some g ∧ W.drew.cell? ⟨w.heap.size + 1, 1, none⟩ = some u ∧ W.drew.cell? ⟨w.heap.size + 2, 0, none⟩ = some i ∧ W.drew.cell? ⟨w.heap.size + 2, 1, none⟩ = some v ∧ Below w.heap.size w W.drew := by
  rintro _ rfl
  have e1 : (w.alloc (.cells #[f, t] y)).heap.size = w.heap.size + 1 := by simp
  have e2 : ((w.alloc (.cells #[f, t] y)).alloc (.cells #[g, u] y)).heap.size = w.heap.size + 2 := by simp
  refine ⟨?_, ?_, ?_, ?_, ?_, ?_, (((below1 w _).alloc (by simp) _).alloc (by simp; omega) _).drew⟩
  · show World.cell? (World.alloc _ _) _ = _
    rw [World.cell?_alloc_past _ _ _ (by omega), World.cell?_alloc_past _ _ _ (by omega), World.cell?_alloc_at _ _ _ _ rfl]; rfl
  · show World.cell? (World.alloc _ _) _ = _
    rw [World.cell?_alloc_past _ _ _ (by omega), World.cell?_alloc_past _ _ _ (by omega), World.cell?_alloc_at _ _ _ _ rfl]; rfl
  · show World.cell? (World.alloc _ _) _ = _
    rw [World.cell?_alloc_past _ _ _ (by omega), World.cell?_alloc_at _ _ _ _ e1.symm]; rfl
  · show World.cell? (World.alloc _ _) _ = _
    rw [World.cell?_alloc_past _ _ _ (by omega), World.cell?_alloc_at _ _ _ _ e1.symm]; rfl
  · show World.cell? (World.alloc _ _) _ = _
    rw [World.cell?_alloc_at _ _ _ _ e2.symm]; rfl
  · show World.cell? (World.alloc _ _) _ = _
    rw [World.cell?_alloc_at _ _ _ _ e2.symm]; rfl

set_option maxHeartbeats 3200000 in
theorem together_walk (x y z : Sp) (w : World) :
    Calls Try.prog 3 #[spv x, spv y, spv z] w fun e w' => e = .returned (.bool true) ∧ Below w.heap.size w w' := by
  obtain ⟨f, t⟩ := x
  obtain ⟨g, u⟩ := y
  obtain ⟨i, v⟩ := z
  have c1 := meets_any f t g u
  have c2 := meets_any g u f t
  have c3 := within_any f t g u
  have c4 := meets_any f t i v
  have c5 := meets_any g u i v
  have c6 := check_any f t
  have c7 := within_any f t f t
  have e1 : meets (g, u) (f, t) = meets (f, t) (g, u) := by
    unfold meets; cases bad (f, t) <;> cases bad (g, u) <;> simp; rw [Bool.eq_iff_iff]; simp; omega
  rw [e1] at c2
  have e2 : within (f, t) (g, u) = true → meets (f, t) (i, v) = true → meets (g, u) (i, v) = true := by
    unfold meets within; cases bad (f, t) <;> cases bad (g, u) <;> cases bad (i, v) <;> simp; omega
  have e3 : chk (f, t) = 60 ∨ chk (f, t) = 0 ∧ within (f, t) (f, t) = true := by
    unfold chk within; cases bad (f, t) <;> simp
  clear e1
  unfold spv at *
  generalize meets (f, t) (g, u) = m at *
  generalize meets (f, t) (i, v) = q at *
  generalize meets (g, u) (i, v) = r at *
  generalize within (f, t) (g, u) = p at *
  generalize within (f, t) (f, t) = pp at *
  generalize chk (f, t) = k at *
  have KK : ∀ (n : Nat) (args : Array Value) (r : Value) (W : World), (Calls Try.prog n args W fun e w' => e = .returned r ∧ Below W.heap.size W w') → (W.cell? ⟨w.heap.size, 0, none⟩ = some (.int .i64 f) ∧ W.cell? ⟨w.heap.size, 1, none⟩ = some (.int .i64 t) ∧ W.cell? ⟨w.heap.size + 1, 0, none⟩ = some (.int .i64 g) ∧ W.cell? ⟨w.heap.size + 1, 1, none⟩ = some (.int .i64 u) ∧ W.cell? ⟨w.heap.size + 2, 0, none⟩ = some (.int .i64 i) ∧ W.cell? ⟨w.heap.size + 2, 1, none⟩ = some (.int .i64 v) ∧ Below w.heap.size w W) →
      Calls Try.prog n args W fun e W => e = .returned r ∧ W.cell? ⟨w.heap.size, 0, none⟩ = some (.int .i64 f) ∧ W.cell? ⟨w.heap.size, 1, none⟩ = some (.int .i64 t) ∧ W.cell? ⟨w.heap.size + 1, 0, none⟩ = some (.int .i64 g) ∧ W.cell? ⟨w.heap.size + 1, 1, none⟩ = some (.int .i64 u) ∧ W.cell? ⟨w.heap.size + 2, 0, none⟩ = some (.int .i64 i) ∧ W.cell? ⟨w.heap.size + 2, 1, none⟩ = some (.int .i64 v) ∧ Below w.heap.size w W := fun n args r W h hs => h.mono fun e w' ⟨he, hb⟩ =>
    ⟨he, keepCell hb hs.1, keepCell hb hs.2.1, keepCell hb hs.2.2.1, keepCell hb hs.2.2.2.1, keepCell hb hs.2.2.2.2.1, keepCell hb hs.2.2.2.2.2.1, hs.2.2.2.2.2.2.trans (hb.mono hs.2.2.2.2.2.2.size)⟩
  have H0 : ∀ W, W = ((w.alloc (Obj.cells #[Value.int IntKind.i64 f, Value.int IntKind.i64 t] 23)).alloc (Obj.cells #[Value.int IntKind.i64 g, Value.int IntKind.i64 u] 23)).alloc (Obj.cells #[Value.int IntKind.i64 i, Value.int IntKind.i64 v] 23) → W.drew.cell? ⟨w.heap.size, 0, none⟩ = some (.int .i64 f) ∧ W.drew.cell? ⟨w.heap.size, 1, none⟩ = some (.int .i64 t) ∧ W.drew.cell? ⟨w.heap.size + 1, 0, none⟩ = some (.int .i64 g) ∧ W.drew.cell? ⟨w.heap.size + 1, 1, none⟩ = some (.int .i64 u) ∧ W.drew.cell? ⟨w.heap.size + 2, 0, none⟩ = some (.int .i64 i) ∧ W.drew.cell? ⟨w.heap.size + 2, 1, none⟩ = some (.int .i64 v) ∧ Below w.heap.size w W.drew := cell3 w _ _ _ _ _ _ _
  have hp : p = false ∨ (p = true ∧ q = false) ∨ (p = true ∧ q = true ∧ r = true) := by
    cases p <;> cases q <;> simp_all
  clear e2
  rcases hp with rfl | ⟨rfl, rfl⟩ | ⟨rfl, rfl, rfl⟩ <;> rcases e3 with rfl | ⟨rfl, rfl⟩ <;> cases m
  all_goals
    go_enter Try.func3, Try.ntmps3
    go_wp2_with fail
    have H1 := H0 _ rfl
    generalize ((w.alloc (Obj.cells #[Value.int IntKind.i64 f, Value.int IntKind.i64 t] 23)).alloc (Obj.cells #[Value.int IntKind.i64 g, Value.int IntKind.i64 u] 23)).alloc (Obj.cells #[Value.int IntKind.i64 i, Value.int IntKind.i64 v] 23) = W0 at *
    refine wp_region_held_drew (S := (fun W => W.cell? ⟨w.heap.size, 0, none⟩ = some (.int .i64 f) ∧ W.cell? ⟨w.heap.size, 1, none⟩ = some (.int .i64 t) ∧ W.cell? ⟨w.heap.size + 1, 0, none⟩ = some (.int .i64 g) ∧ W.cell? ⟨w.heap.size + 1, 1, none⟩ = some (.int .i64 u) ∧ W.cell? ⟨w.heap.size + 2, 0, none⟩ = some (.int .i64 i) ∧ W.cell? ⟨w.heap.size + 2, 1, none⟩ = some (.int .i64 v) ∧ Below w.heap.size w W)) (by kernel_rfl) (by assumption) (fun hHeld => ?_)
    (refine takeC (i := 0) rfl (by kernel_rfl) (by rfl) (fun K hK => ?_); go_simp; (first | (go_at_call 9; with_reducible refine (KK _ _ _ _ (begun_any _) (by assumption)).mono ?_; rintro e w' ⟨rfl, hs⟩) | (go_at_call 10; with_reducible refine (KK _ _ _ _ (c1 _) (by assumption)).mono ?_; rintro e w' ⟨rfl, hs⟩) | (go_at_call 10; with_reducible refine (KK _ _ _ _ (c2 _) (by assumption)).mono ?_; rintro e w' ⟨rfl, hs⟩) | (go_at_call 10; with_reducible refine (KK _ _ _ _ (c4 _) (by assumption)).mono ?_; rintro e w' ⟨rfl, hs⟩) | (go_at_call 10; with_reducible refine (KK _ _ _ _ (c5 _) (by assumption)).mono ?_; rintro e w' ⟨rfl, hs⟩) | (go_at_call 11; with_reducible refine (KK _ _ _ _ (c3 _) (by assumption)).mono ?_; rintro e w' ⟨rfl, hs⟩) | (go_at_call 11; with_reducible refine (KK _ _ _ _ (c7 _) (by assumption)).mono ?_; rintro e w' ⟨rfl, hs⟩) | (go_at_call 12; with_reducible refine (KK _ _ _ _ (c6 _) (by assumption)).mono ?_; rintro e w' ⟨rfl, hs⟩)); refine hK.out _ _ hs (fun hHeld => ?_); clear hK K; (try simp only [Act.put, List.setIfInBounds_toArray, List.set_cons_zero, List.set_cons_succ]))
    (refine takeW (i := 1) (v := ?_) rfl (by kernel_rfl) (by kernel_rfl) (by kernel_rfl) (fun _ _ _ h => h) (by rfl) (by assumption) ?_ ?_; rotate_left; (intro W hW; (try dsimp only at hW); go_simp; try with_reducible rfl); (try simp only [Act.put, List.setIfInBounds_toArray, List.set_cons_zero, List.set_cons_succ]))
    first
      | (refine takeW (i := 2) (v := ?_) rfl (by kernel_rfl) (by kernel_rfl) (by kernel_rfl) (fun _ _ _ h => h) (by rfl) (by assumption) ?_ ?_; rotate_left; (intro W hW; (try dsimp only at hW); go_simp; try with_reducible rfl); (try simp only [Act.put, List.setIfInBounds_toArray, List.set_cons_zero, List.set_cons_succ]))
      | (refine takeU (i := 2) rfl (by kernel_rfl) (by kernel_rfl) (by kernel_rfl) (fun _ _ _ h => h) (by rfl) (by assumption) ?_; (try simp only [Act.put, List.setIfInBounds_toArray, List.set_cons_zero, List.set_cons_succ]))
    first
      | (refine takeW (i := 3) (v := ?_) rfl (by kernel_rfl) (by kernel_rfl) (by kernel_rfl) (fun _ _ _ h => h) (by rfl) (by assumption) ?_ ?_; rotate_left; (intro W hW; (try dsimp only at hW); go_simp; try with_reducible rfl); (try simp only [Act.put, List.setIfInBounds_toArray, List.set_cons_zero, List.set_cons_succ]))
      | (refine takeU (i := 3) rfl (by kernel_rfl) (by kernel_rfl) (by kernel_rfl) (fun _ _ _ h => h) (by rfl) (by assumption) ?_; (try simp only [Act.put, List.setIfInBounds_toArray, List.set_cons_zero, List.set_cons_succ]))
    first
      | (refine takeW (i := 5) (v := ?_) rfl (by kernel_rfl) (by kernel_rfl) (by kernel_rfl) (fun _ _ _ h => h) (by rfl) (by assumption) ?_ ?_; rotate_left; (intro W hW; (try dsimp only at hW); go_simp; try with_reducible rfl); (try simp only [Act.put, List.setIfInBounds_toArray, List.set_cons_zero, List.set_cons_succ]))
      | (refine takeU (i := 5) rfl (by kernel_rfl) (by kernel_rfl) (by kernel_rfl) (fun _ _ _ h => h) (by rfl) (by assumption) ?_; (try simp only [Act.put, List.setIfInBounds_toArray, List.set_cons_zero, List.set_cons_succ]))
    first
      | (refine takeW (i := 6) (v := ?_) rfl (by kernel_rfl) (by kernel_rfl) (by kernel_rfl) (fun _ _ _ h => h) (by rfl) (by assumption) ?_ ?_; rotate_left; (intro W hW; (try dsimp only at hW); go_simp; try with_reducible rfl); (try simp only [Act.put, List.setIfInBounds_toArray, List.set_cons_zero, List.set_cons_succ]))
      | (refine takeU (i := 6) rfl (by kernel_rfl) (by kernel_rfl) (by kernel_rfl) (fun _ _ _ h => h) (by rfl) (by assumption) ?_; (try simp only [Act.put, List.setIfInBounds_toArray, List.set_cons_zero, List.set_cons_succ]))
    first
      | (refine takeC (i := 4) rfl (by kernel_rfl) (by rfl) (fun K hK => ?_); go_simp; (first | (go_at_call 9; with_reducible refine (KK _ _ _ _ (begun_any _) (by assumption)).mono ?_; rintro e w' ⟨rfl, hs⟩) | (go_at_call 10; with_reducible refine (KK _ _ _ _ (c1 _) (by assumption)).mono ?_; rintro e w' ⟨rfl, hs⟩) | (go_at_call 10; with_reducible refine (KK _ _ _ _ (c2 _) (by assumption)).mono ?_; rintro e w' ⟨rfl, hs⟩) | (go_at_call 10; with_reducible refine (KK _ _ _ _ (c4 _) (by assumption)).mono ?_; rintro e w' ⟨rfl, hs⟩) | (go_at_call 10; with_reducible refine (KK _ _ _ _ (c5 _) (by assumption)).mono ?_; rintro e w' ⟨rfl, hs⟩) | (go_at_call 11; with_reducible refine (KK _ _ _ _ (c3 _) (by assumption)).mono ?_; rintro e w' ⟨rfl, hs⟩) | (go_at_call 11; with_reducible refine (KK _ _ _ _ (c7 _) (by assumption)).mono ?_; rintro e w' ⟨rfl, hs⟩) | (go_at_call 12; with_reducible refine (KK _ _ _ _ (c6 _) (by assumption)).mono ?_; rintro e w' ⟨rfl, hs⟩)); refine hK.out _ _ hs (fun hHeld => ?_); clear hK K; (try simp only [Act.put, List.setIfInBounds_toArray, List.set_cons_zero, List.set_cons_succ]))
      | (refine takeU (i := 4) rfl (by kernel_rfl) (by kernel_rfl) (by kernel_rfl) (fun _ _ _ h => h) (by rfl) (by assumption) ?_; (try simp only [Act.put, List.setIfInBounds_toArray, List.set_cons_zero, List.set_cons_succ]))
    first
      | (refine takeC (i := 7) rfl (by kernel_rfl) (by rfl) (fun K hK => ?_); go_simp; (first | (go_at_call 9; with_reducible refine (KK _ _ _ _ (begun_any _) (by assumption)).mono ?_; rintro e w' ⟨rfl, hs⟩) | (go_at_call 10; with_reducible refine (KK _ _ _ _ (c1 _) (by assumption)).mono ?_; rintro e w' ⟨rfl, hs⟩) | (go_at_call 10; with_reducible refine (KK _ _ _ _ (c2 _) (by assumption)).mono ?_; rintro e w' ⟨rfl, hs⟩) | (go_at_call 10; with_reducible refine (KK _ _ _ _ (c4 _) (by assumption)).mono ?_; rintro e w' ⟨rfl, hs⟩) | (go_at_call 10; with_reducible refine (KK _ _ _ _ (c5 _) (by assumption)).mono ?_; rintro e w' ⟨rfl, hs⟩) | (go_at_call 11; with_reducible refine (KK _ _ _ _ (c3 _) (by assumption)).mono ?_; rintro e w' ⟨rfl, hs⟩) | (go_at_call 11; with_reducible refine (KK _ _ _ _ (c7 _) (by assumption)).mono ?_; rintro e w' ⟨rfl, hs⟩) | (go_at_call 12; with_reducible refine (KK _ _ _ _ (c6 _) (by assumption)).mono ?_; rintro e w' ⟨rfl, hs⟩)); refine hK.out _ _ hs (fun hHeld => ?_); clear hK K; (try simp only [Act.put, List.setIfInBounds_toArray, List.set_cons_zero, List.set_cons_succ]))
      | (refine takeU (i := 7) rfl (by kernel_rfl) (by kernel_rfl) (by kernel_rfl) (fun _ _ _ h => h) (by rfl) (by assumption) ?_; (try simp only [Act.put, List.setIfInBounds_toArray, List.set_cons_zero, List.set_cons_succ]))
    first
      | (refine takeW (i := 8) (v := ?_) rfl (by kernel_rfl) (by kernel_rfl) (by kernel_rfl) (fun _ _ _ h => h) (by rfl) (by assumption) ?_ ?_; rotate_left; (intro W hW; (try dsimp only at hW); go_simp; try with_reducible rfl); (try simp only [Act.put, List.setIfInBounds_toArray, List.set_cons_zero, List.set_cons_succ]))
      | (refine takeU (i := 8) rfl (by kernel_rfl) (by kernel_rfl) (by kernel_rfl) (fun _ _ _ h => h) (by rfl) (by assumption) ?_; (try simp only [Act.put, List.setIfInBounds_toArray, List.set_cons_zero, List.set_cons_succ]))
    (refine takeW (i := 9) (v := ?_) rfl (by kernel_rfl) (by kernel_rfl) (by kernel_rfl) (fun _ _ _ h => h) (by rfl) (by assumption) ?_ ?_; rotate_left; (intro W hW; (try dsimp only at hW); go_simp; try with_reducible rfl); (try simp only [Act.put, List.setIfInBounds_toArray, List.set_cons_zero, List.set_cons_succ]))
    (refine takeW (i := 10) (v := ?_) rfl (by kernel_rfl) (by kernel_rfl) (by kernel_rfl) (fun _ _ _ h => h) (by rfl) (by assumption) ?_ ?_; rotate_left; (intro W hW; (try dsimp only at hW); go_simp; try with_reducible rfl); (try simp only [Act.put, List.setIfInBounds_toArray, List.set_cons_zero, List.set_cons_succ]))
    first
      | (refine takeW (i := 11) (v := ?_) rfl (by kernel_rfl) (by kernel_rfl) (by kernel_rfl) (fun _ _ _ h => h) (by rfl) (by assumption) ?_ ?_; rotate_left; (intro W hW; (try dsimp only at hW); go_simp; try with_reducible rfl); (try simp only [Act.put, List.setIfInBounds_toArray, List.set_cons_zero, List.set_cons_succ]))
      | (refine takeU (i := 11) rfl (by kernel_rfl) (by kernel_rfl) (by kernel_rfl) (fun _ _ _ h => h) (by rfl) (by assumption) ?_; (try simp only [Act.put, List.setIfInBounds_toArray, List.set_cons_zero, List.set_cons_succ]))
    first
      | (refine takeW (i := 12) (v := ?_) rfl (by kernel_rfl) (by kernel_rfl) (by kernel_rfl) (fun _ _ _ h => h) (by rfl) (by assumption) ?_ ?_; rotate_left; (intro W hW; (try dsimp only at hW); go_simp; try with_reducible rfl); (try simp only [Act.put, List.setIfInBounds_toArray, List.set_cons_zero, List.set_cons_succ]))
      | (refine takeU (i := 12) rfl (by kernel_rfl) (by kernel_rfl) (by kernel_rfl) (fun _ _ _ h => h) (by rfl) (by assumption) ?_; (try simp only [Act.put, List.setIfInBounds_toArray, List.set_cons_zero, List.set_cons_succ]))
    first
      | (refine takeC (i := 13) rfl (by kernel_rfl) (by rfl) (fun K hK => ?_); go_simp; (first | (go_at_call 9; with_reducible refine (KK _ _ _ _ (begun_any _) (by assumption)).mono ?_; rintro e w' ⟨rfl, hs⟩) | (go_at_call 10; with_reducible refine (KK _ _ _ _ (c1 _) (by assumption)).mono ?_; rintro e w' ⟨rfl, hs⟩) | (go_at_call 10; with_reducible refine (KK _ _ _ _ (c2 _) (by assumption)).mono ?_; rintro e w' ⟨rfl, hs⟩) | (go_at_call 10; with_reducible refine (KK _ _ _ _ (c4 _) (by assumption)).mono ?_; rintro e w' ⟨rfl, hs⟩) | (go_at_call 10; with_reducible refine (KK _ _ _ _ (c5 _) (by assumption)).mono ?_; rintro e w' ⟨rfl, hs⟩) | (go_at_call 11; with_reducible refine (KK _ _ _ _ (c3 _) (by assumption)).mono ?_; rintro e w' ⟨rfl, hs⟩) | (go_at_call 11; with_reducible refine (KK _ _ _ _ (c7 _) (by assumption)).mono ?_; rintro e w' ⟨rfl, hs⟩) | (go_at_call 12; with_reducible refine (KK _ _ _ _ (c6 _) (by assumption)).mono ?_; rintro e w' ⟨rfl, hs⟩)); refine hK.out _ _ hs (fun hHeld => ?_); clear hK K; (try simp only [Act.put, List.setIfInBounds_toArray, List.set_cons_zero, List.set_cons_succ]))
      | (refine takeU (i := 13) rfl (by kernel_rfl) (by kernel_rfl) (by kernel_rfl) (fun _ _ _ h => h) (by rfl) (by assumption) ?_; (try simp only [Act.put, List.setIfInBounds_toArray, List.set_cons_zero, List.set_cons_succ]))
    first
      | (refine takeW (i := 14) (v := ?_) rfl (by kernel_rfl) (by kernel_rfl) (by kernel_rfl) (fun _ _ _ h => h) (by rfl) (by assumption) ?_ ?_; rotate_left; (intro W hW; (try dsimp only at hW); go_simp; try with_reducible rfl); (try simp only [Act.put, List.setIfInBounds_toArray, List.set_cons_zero, List.set_cons_succ]))
      | (refine takeU (i := 14) rfl (by kernel_rfl) (by kernel_rfl) (by kernel_rfl) (fun _ _ _ h => h) (by rfl) (by assumption) ?_; (try simp only [Act.put, List.setIfInBounds_toArray, List.set_cons_zero, List.set_cons_succ]))
    first
      | (refine takeW (i := 15) (v := ?_) rfl (by kernel_rfl) (by kernel_rfl) (by kernel_rfl) (fun _ _ _ h => h) (by rfl) (by assumption) ?_ ?_; rotate_left; (intro W hW; (try dsimp only at hW); go_simp; try with_reducible rfl); (try simp only [Act.put, List.setIfInBounds_toArray, List.set_cons_zero, List.set_cons_succ]))
      | (refine takeU (i := 15) rfl (by kernel_rfl) (by kernel_rfl) (by kernel_rfl) (fun _ _ _ h => h) (by rfl) (by assumption) ?_; (try simp only [Act.put, List.setIfInBounds_toArray, List.set_cons_zero, List.set_cons_succ]))
    first
      | (refine takeW (i := 16) (v := ?_) rfl (by kernel_rfl) (by kernel_rfl) (by kernel_rfl) (fun _ _ _ h => h) (by rfl) (by assumption) ?_ ?_; rotate_left; (intro W hW; (try dsimp only at hW); go_simp; try with_reducible rfl); (try simp only [Act.put, List.setIfInBounds_toArray, List.set_cons_zero, List.set_cons_succ]))
      | (refine takeU (i := 16) rfl (by kernel_rfl) (by kernel_rfl) (by kernel_rfl) (fun _ _ _ h => h) (by rfl) (by assumption) ?_; (try simp only [Act.put, List.setIfInBounds_toArray, List.set_cons_zero, List.set_cons_succ]))
    first
      | (refine takeW (i := 17) (v := ?_) rfl (by kernel_rfl) (by kernel_rfl) (by kernel_rfl) (fun _ _ _ h => h) (by rfl) (by assumption) ?_ ?_; rotate_left; (intro W hW; (try dsimp only at hW); go_simp; try with_reducible rfl); (try simp only [Act.put, List.setIfInBounds_toArray, List.set_cons_zero, List.set_cons_succ]))
      | (refine takeU (i := 17) rfl (by kernel_rfl) (by kernel_rfl) (by kernel_rfl) (fun _ _ _ h => h) (by rfl) (by assumption) ?_; (try simp only [Act.put, List.setIfInBounds_toArray, List.set_cons_zero, List.set_cons_succ]))
    first
      | (refine takeC (i := 18) rfl (by kernel_rfl) (by rfl) (fun K hK => ?_); go_simp; (first | (go_at_call 9; with_reducible refine (KK _ _ _ _ (begun_any _) (by assumption)).mono ?_; rintro e w' ⟨rfl, hs⟩) | (go_at_call 10; with_reducible refine (KK _ _ _ _ (c1 _) (by assumption)).mono ?_; rintro e w' ⟨rfl, hs⟩) | (go_at_call 10; with_reducible refine (KK _ _ _ _ (c2 _) (by assumption)).mono ?_; rintro e w' ⟨rfl, hs⟩) | (go_at_call 10; with_reducible refine (KK _ _ _ _ (c4 _) (by assumption)).mono ?_; rintro e w' ⟨rfl, hs⟩) | (go_at_call 10; with_reducible refine (KK _ _ _ _ (c5 _) (by assumption)).mono ?_; rintro e w' ⟨rfl, hs⟩) | (go_at_call 11; with_reducible refine (KK _ _ _ _ (c3 _) (by assumption)).mono ?_; rintro e w' ⟨rfl, hs⟩) | (go_at_call 11; with_reducible refine (KK _ _ _ _ (c7 _) (by assumption)).mono ?_; rintro e w' ⟨rfl, hs⟩) | (go_at_call 12; with_reducible refine (KK _ _ _ _ (c6 _) (by assumption)).mono ?_; rintro e w' ⟨rfl, hs⟩)); refine hK.out _ _ hs (fun hHeld => ?_); clear hK K; (try simp only [Act.put, List.setIfInBounds_toArray, List.set_cons_zero, List.set_cons_succ]))
      | (refine takeU (i := 18) rfl (by kernel_rfl) (by kernel_rfl) (by kernel_rfl) (fun _ _ _ h => h) (by rfl) (by assumption) ?_; (try simp only [Act.put, List.setIfInBounds_toArray, List.set_cons_zero, List.set_cons_succ]))
    first
      | (refine takeW (i := 19) (v := ?_) rfl (by kernel_rfl) (by kernel_rfl) (by kernel_rfl) (fun _ _ _ h => h) (by rfl) (by assumption) ?_ ?_; rotate_left; (intro W hW; (try dsimp only at hW); go_simp; try with_reducible rfl); (try simp only [Act.put, List.setIfInBounds_toArray, List.set_cons_zero, List.set_cons_succ]))
      | (refine takeU (i := 19) rfl (by kernel_rfl) (by kernel_rfl) (by kernel_rfl) (fun _ _ _ h => h) (by rfl) (by assumption) ?_; (try simp only [Act.put, List.setIfInBounds_toArray, List.set_cons_zero, List.set_cons_succ]))
    first
      | (refine takeW (i := 20) (v := ?_) rfl (by kernel_rfl) (by kernel_rfl) (by kernel_rfl) (fun _ _ _ h => h) (by rfl) (by assumption) ?_ ?_; rotate_left; (intro W hW; (try dsimp only at hW); go_simp; try with_reducible rfl); (try simp only [Act.put, List.setIfInBounds_toArray, List.set_cons_zero, List.set_cons_succ]))
      | (refine takeU (i := 20) rfl (by kernel_rfl) (by kernel_rfl) (by kernel_rfl) (fun _ _ _ h => h) (by rfl) (by assumption) ?_; (try simp only [Act.put, List.setIfInBounds_toArray, List.set_cons_zero, List.set_cons_succ]))
    first
      | (refine takeW (i := 21) (v := ?_) rfl (by kernel_rfl) (by kernel_rfl) (by kernel_rfl) (fun _ _ _ h => h) (by rfl) (by assumption) ?_ ?_; rotate_left; (intro W hW; (try dsimp only at hW); go_simp; try with_reducible rfl); (try simp only [Act.put, List.setIfInBounds_toArray, List.set_cons_zero, List.set_cons_succ]))
      | (refine takeU (i := 21) rfl (by kernel_rfl) (by kernel_rfl) (by kernel_rfl) (fun _ _ _ h => h) (by rfl) (by assumption) ?_; (try simp only [Act.put, List.setIfInBounds_toArray, List.set_cons_zero, List.set_cons_succ]))
    first
      | (refine takeW (i := 22) (v := ?_) rfl (by kernel_rfl) (by kernel_rfl) (by kernel_rfl) (fun _ _ _ h => h) (by rfl) (by assumption) ?_ ?_; rotate_left; (intro W hW; (try dsimp only at hW); go_simp; try with_reducible rfl); (try simp only [Act.put, List.setIfInBounds_toArray, List.set_cons_zero, List.set_cons_succ]))
      | (refine takeU (i := 22) rfl (by kernel_rfl) (by kernel_rfl) (by kernel_rfl) (fun _ _ _ h => h) (by rfl) (by assumption) ?_; (try simp only [Act.put, List.setIfInBounds_toArray, List.set_cons_zero, List.set_cons_succ]))
    first
      | (refine takeW (i := 23) (v := ?_) rfl (by kernel_rfl) (by kernel_rfl) (by kernel_rfl) (fun _ _ _ h => h) (by rfl) (by assumption) ?_ ?_; rotate_left; (intro W hW; (try dsimp only at hW); go_simp; try with_reducible rfl); (try simp only [Act.put, List.setIfInBounds_toArray, List.set_cons_zero, List.set_cons_succ]))
      | (refine takeU (i := 23) rfl (by kernel_rfl) (by kernel_rfl) (by kernel_rfl) (fun _ _ _ h => h) (by rfl) (by assumption) ?_; (try simp only [Act.put, List.setIfInBounds_toArray, List.set_cons_zero, List.set_cons_succ]))
    first
      | (refine takeC (i := 24) rfl (by kernel_rfl) (by rfl) (fun K hK => ?_); go_simp; (first | (go_at_call 9; with_reducible refine (KK _ _ _ _ (begun_any _) (by assumption)).mono ?_; rintro e w' ⟨rfl, hs⟩) | (go_at_call 10; with_reducible refine (KK _ _ _ _ (c1 _) (by assumption)).mono ?_; rintro e w' ⟨rfl, hs⟩) | (go_at_call 10; with_reducible refine (KK _ _ _ _ (c2 _) (by assumption)).mono ?_; rintro e w' ⟨rfl, hs⟩) | (go_at_call 10; with_reducible refine (KK _ _ _ _ (c4 _) (by assumption)).mono ?_; rintro e w' ⟨rfl, hs⟩) | (go_at_call 10; with_reducible refine (KK _ _ _ _ (c5 _) (by assumption)).mono ?_; rintro e w' ⟨rfl, hs⟩) | (go_at_call 11; with_reducible refine (KK _ _ _ _ (c3 _) (by assumption)).mono ?_; rintro e w' ⟨rfl, hs⟩) | (go_at_call 11; with_reducible refine (KK _ _ _ _ (c7 _) (by assumption)).mono ?_; rintro e w' ⟨rfl, hs⟩) | (go_at_call 12; with_reducible refine (KK _ _ _ _ (c6 _) (by assumption)).mono ?_; rintro e w' ⟨rfl, hs⟩)); refine hK.out _ _ hs (fun hHeld => ?_); clear hK K; (try simp only [Act.put, List.setIfInBounds_toArray, List.set_cons_zero, List.set_cons_succ]))
      | (refine takeU (i := 24) rfl (by kernel_rfl) (by kernel_rfl) (by kernel_rfl) (fun _ _ _ h => h) (by rfl) (by assumption) ?_; (try simp only [Act.put, List.setIfInBounds_toArray, List.set_cons_zero, List.set_cons_succ]))
    first
      | (refine takeW (i := 25) (v := ?_) rfl (by kernel_rfl) (by kernel_rfl) (by kernel_rfl) (fun _ _ _ h => h) (by rfl) (by assumption) ?_ ?_; rotate_left; (intro W hW; (try dsimp only at hW); go_simp; try with_reducible rfl); (try simp only [Act.put, List.setIfInBounds_toArray, List.set_cons_zero, List.set_cons_succ]))
      | (refine takeU (i := 25) rfl (by kernel_rfl) (by kernel_rfl) (by kernel_rfl) (fun _ _ _ h => h) (by rfl) (by assumption) ?_; (try simp only [Act.put, List.setIfInBounds_toArray, List.set_cons_zero, List.set_cons_succ]))
    (refine takeW (i := 26) (v := ?_) rfl (by kernel_rfl) (by kernel_rfl) (by kernel_rfl) (fun _ _ _ h => h) (by rfl) (by assumption) ?_ ?_; rotate_left; (intro W hW; (try dsimp only at hW); go_simp; try with_reducible rfl); (try simp only [Act.put, List.setIfInBounds_toArray, List.set_cons_zero, List.set_cons_succ]))
    (refine takeW (i := 27) (v := ?_) rfl (by kernel_rfl) (by kernel_rfl) (by kernel_rfl) (fun _ _ _ h => h) (by rfl) (by assumption) ?_ ?_; rotate_left; (intro W hW; (try dsimp only at hW); go_simp; try with_reducible rfl); (try simp only [Act.put, List.setIfInBounds_toArray, List.set_cons_zero, List.set_cons_succ]))
    first
      | (refine takeW (i := 28) (v := ?_) rfl (by kernel_rfl) (by kernel_rfl) (by kernel_rfl) (fun _ _ _ h => h) (by rfl) (by assumption) ?_ ?_; rotate_left; (intro W hW; (try dsimp only at hW); go_simp; try with_reducible rfl); (try simp only [Act.put, List.setIfInBounds_toArray, List.set_cons_zero, List.set_cons_succ]))
      | (refine takeU (i := 28) rfl (by kernel_rfl) (by kernel_rfl) (by kernel_rfl) (fun _ _ _ h => h) (by rfl) (by assumption) ?_; (try simp only [Act.put, List.setIfInBounds_toArray, List.set_cons_zero, List.set_cons_succ]))
    first
      | (refine takeC (i := 29) rfl (by kernel_rfl) (by rfl) (fun K hK => ?_); go_simp; (first | (go_at_call 9; with_reducible refine (KK _ _ _ _ (begun_any _) (by assumption)).mono ?_; rintro e w' ⟨rfl, hs⟩) | (go_at_call 10; with_reducible refine (KK _ _ _ _ (c1 _) (by assumption)).mono ?_; rintro e w' ⟨rfl, hs⟩) | (go_at_call 10; with_reducible refine (KK _ _ _ _ (c2 _) (by assumption)).mono ?_; rintro e w' ⟨rfl, hs⟩) | (go_at_call 10; with_reducible refine (KK _ _ _ _ (c4 _) (by assumption)).mono ?_; rintro e w' ⟨rfl, hs⟩) | (go_at_call 10; with_reducible refine (KK _ _ _ _ (c5 _) (by assumption)).mono ?_; rintro e w' ⟨rfl, hs⟩) | (go_at_call 11; with_reducible refine (KK _ _ _ _ (c3 _) (by assumption)).mono ?_; rintro e w' ⟨rfl, hs⟩) | (go_at_call 11; with_reducible refine (KK _ _ _ _ (c7 _) (by assumption)).mono ?_; rintro e w' ⟨rfl, hs⟩) | (go_at_call 12; with_reducible refine (KK _ _ _ _ (c6 _) (by assumption)).mono ?_; rintro e w' ⟨rfl, hs⟩)); refine hK.out _ _ hs (fun hHeld => ?_); clear hK K; (try simp only [Act.put, List.setIfInBounds_toArray, List.set_cons_zero, List.set_cons_succ]))
      | (refine takeU (i := 29) rfl (by kernel_rfl) (by kernel_rfl) (by kernel_rfl) (fun _ _ _ h => h) (by rfl) (by assumption) ?_; (try simp only [Act.put, List.setIfInBounds_toArray, List.set_cons_zero, List.set_cons_succ]))
    first
      | (refine takeW (i := 30) (v := ?_) rfl (by kernel_rfl) (by kernel_rfl) (by kernel_rfl) (fun _ _ _ h => h) (by rfl) (by assumption) ?_ ?_; rotate_left; (intro W hW; (try dsimp only at hW); go_simp; try with_reducible rfl); (try simp only [Act.put, List.setIfInBounds_toArray, List.set_cons_zero, List.set_cons_succ]))
      | (refine takeU (i := 30) rfl (by kernel_rfl) (by kernel_rfl) (by kernel_rfl) (fun _ _ _ h => h) (by rfl) (by assumption) ?_; (try simp only [Act.put, List.setIfInBounds_toArray, List.set_cons_zero, List.set_cons_succ]))
    first
      | (refine takeW (i := 31) (v := ?_) rfl (by kernel_rfl) (by kernel_rfl) (by kernel_rfl) (fun _ _ _ h => h) (by rfl) (by assumption) ?_ ?_; rotate_left; (intro W hW; (try dsimp only at hW); go_simp; try with_reducible rfl); (try simp only [Act.put, List.setIfInBounds_toArray, List.set_cons_zero, List.set_cons_succ]))
      | (refine takeU (i := 31) rfl (by kernel_rfl) (by kernel_rfl) (by kernel_rfl) (fun _ _ _ h => h) (by rfl) (by assumption) ?_; (try simp only [Act.put, List.setIfInBounds_toArray, List.set_cons_zero, List.set_cons_succ]))
    first
      | (refine takeW (i := 32) (v := ?_) rfl (by kernel_rfl) (by kernel_rfl) (by kernel_rfl) (fun _ _ _ h => h) (by rfl) (by assumption) ?_ ?_; rotate_left; (intro W hW; (try dsimp only at hW); go_simp; try with_reducible rfl); (try simp only [Act.put, List.setIfInBounds_toArray, List.set_cons_zero, List.set_cons_succ]))
      | (refine takeU (i := 32) rfl (by kernel_rfl) (by kernel_rfl) (by kernel_rfl) (fun _ _ _ h => h) (by rfl) (by assumption) ?_; (try simp only [Act.put, List.setIfInBounds_toArray, List.set_cons_zero, List.set_cons_succ]))
    first
      | (refine takeW (i := 33) (v := ?_) rfl (by kernel_rfl) (by kernel_rfl) (by kernel_rfl) (fun _ _ _ h => h) (by rfl) (by assumption) ?_ ?_; rotate_left; (intro W hW; (try dsimp only at hW); go_simp; try with_reducible rfl); (try simp only [Act.put, List.setIfInBounds_toArray, List.set_cons_zero, List.set_cons_succ]))
      | (refine takeU (i := 33) rfl (by kernel_rfl) (by kernel_rfl) (by kernel_rfl) (fun _ _ _ h => h) (by rfl) (by assumption) ?_; (try simp only [Act.put, List.setIfInBounds_toArray, List.set_cons_zero, List.set_cons_succ]))
    first
      | (refine takeC (i := 34) rfl (by kernel_rfl) (by rfl) (fun K hK => ?_); go_simp; (first | (go_at_call 9; with_reducible refine (KK _ _ _ _ (begun_any _) (by assumption)).mono ?_; rintro e w' ⟨rfl, hs⟩) | (go_at_call 10; with_reducible refine (KK _ _ _ _ (c1 _) (by assumption)).mono ?_; rintro e w' ⟨rfl, hs⟩) | (go_at_call 10; with_reducible refine (KK _ _ _ _ (c2 _) (by assumption)).mono ?_; rintro e w' ⟨rfl, hs⟩) | (go_at_call 10; with_reducible refine (KK _ _ _ _ (c4 _) (by assumption)).mono ?_; rintro e w' ⟨rfl, hs⟩) | (go_at_call 10; with_reducible refine (KK _ _ _ _ (c5 _) (by assumption)).mono ?_; rintro e w' ⟨rfl, hs⟩) | (go_at_call 11; with_reducible refine (KK _ _ _ _ (c3 _) (by assumption)).mono ?_; rintro e w' ⟨rfl, hs⟩) | (go_at_call 11; with_reducible refine (KK _ _ _ _ (c7 _) (by assumption)).mono ?_; rintro e w' ⟨rfl, hs⟩) | (go_at_call 12; with_reducible refine (KK _ _ _ _ (c6 _) (by assumption)).mono ?_; rintro e w' ⟨rfl, hs⟩)); refine hK.out _ _ hs (fun hHeld => ?_); clear hK K; (try simp only [Act.put, List.setIfInBounds_toArray, List.set_cons_zero, List.set_cons_succ]))
      | (refine takeU (i := 34) rfl (by kernel_rfl) (by kernel_rfl) (by kernel_rfl) (fun _ _ _ h => h) (by rfl) (by assumption) ?_; (try simp only [Act.put, List.setIfInBounds_toArray, List.set_cons_zero, List.set_cons_succ]))
    first
      | (refine takeW (i := 35) (v := ?_) rfl (by kernel_rfl) (by kernel_rfl) (by kernel_rfl) (fun _ _ _ h => h) (by rfl) (by assumption) ?_ ?_; rotate_left; (intro W hW; (try dsimp only at hW); go_simp; try with_reducible rfl); (try simp only [Act.put, List.setIfInBounds_toArray, List.set_cons_zero, List.set_cons_succ]))
      | (refine takeU (i := 35) rfl (by kernel_rfl) (by kernel_rfl) (by kernel_rfl) (fun _ _ _ h => h) (by rfl) (by assumption) ?_; (try simp only [Act.put, List.setIfInBounds_toArray, List.set_cons_zero, List.set_cons_succ]))
    (refine takeW (i := 36) (v := ?_) rfl (by kernel_rfl) (by kernel_rfl) (by kernel_rfl) (fun _ _ _ h => h) (by rfl) (by assumption) ?_ ?_; rotate_left; (intro W hW; (try dsimp only at hW); go_simp; try with_reducible rfl); (try simp only [Act.put, List.setIfInBounds_toArray, List.set_cons_zero, List.set_cons_succ]))
    (refine takeW (i := 37) (v := ?_) rfl (by kernel_rfl) (by kernel_rfl) (by kernel_rfl) (fun _ _ _ h => h) (by rfl) (by assumption) ?_ ?_; rotate_left; (intro W hW; (try dsimp only at hW); go_simp; try with_reducible rfl); (try simp only [Act.put, List.setIfInBounds_toArray, List.set_cons_zero, List.set_cons_succ]))
    refine wpAnyH_done (by kernel_rfl) ?_ _
    go_wp2
    go_ret
    exact ⟨rfl, hs.2.2.2.2.2.2⟩
end Go.Proofs.Ytiahmhmchppjgaa
