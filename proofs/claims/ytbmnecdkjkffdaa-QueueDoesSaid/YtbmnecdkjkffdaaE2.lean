/- Events: their cells, which comes ahead. -/
import Derived.Test.YtbmnecdkjkffdaaE1
import Derived.Sort.Grow
import Derived.Deep.Draws
namespace Go.Proofs.Ytbmnecdkjkffdaa
open Go.RowKit

theorem F2 : Flat Try.prog 2 := ⟨⟨_, Try.underlying2, rfl⟩, by kernel_rfl⟩
theorem F3 : Flat Try.prog 3 := ⟨⟨_, Try.underlying3, rfl⟩, by kernel_rfl⟩
/-- An event: at, kind, node, number. -/
structure Ev where
  a : Int
  k : Int
  n : Int
  m : Int
deriving DecidableEq
def encE (e : Ev) : List Value := [.int .i64 e.a, .int .i64 e.k, .int .i64 e.n, .int .i64 e.m]
def cmpE (x y : Ev) : Int := orL [cmpI x.a y.a, cmpI x.k y.k, cmpI x.n y.n, cmpI x.m y.m]
theorem exec_slice4 {w : World} {o : Oper} {ac : Act} {x y z u : Operand} {p q r s : Int} (ho : o.op = .buildSlice 88 4 #[(0, x), (1, y), (2, z), (3, u)]) (hx : ac.eval x = .int .i64 p) (hy : ac.eval y = .int .i64 q) (hz : ac.eval z = .int .i64 r) (hu : ac.eval u = .int .i64 s) :
    (execOp ac.eval o).run Try.prog w = .ok (.value (.slice (some ⟨w.heap.size, 0, none⟩) 4 4)) (w.alloc (.cells #[.int .i64 p, .int .i64 q, .int .i64 r, .int .i64 s] 3)) := by
  have hrun : (Instr.buildSlice 88 4 #[(0, .int .i64 p), (1, .int .i64 q), (2, .int .i64 r), (3, .int .i64 s)]).run Try.prog w = .ok (.slice (some ⟨w.heap.size, 0, none⟩) 4 4) (w.alloc (.cells #[.int .i64 p, .int .i64 q, .int .i64 r, .int .i64 s] 3)) := by
    unfold Instr.buildSlice
    go_simp
  simp [execOp, ho, hx, hy, hz, hu, hrun, Result.andThen]
theorem row4 {w : World} {b : Nat} (hb : w.heap.size = b) (p q r s : Int) : Rd (encI .i64) 1 (w.alloc (.cells #[.int .i64 p, .int .i64 q, .int .i64 r, .int .i64 s] 3)) (.slice (some ⟨b, 0, none⟩) 4 4) [p, q, r, s] := by
  subst hb
  refine ⟨_, _, rfl, by simp, by simp, by simp, by simp, .inr ⟨_, 0, rfl, by simp, ?_⟩⟩
  intro j x hx i u hu
  have hj : j < 4 := (List.getElem?_eq_some_iff.1 hx).1
  have hi : i = 0 := by have := (List.getElem?_eq_some_iff.1 hu).1; simp [encI] at this; exact this
  subst hi
  rw [World.cell?_alloc_at _ _ _ _ rfl]
  rcases j with _ | _ | _ | _ | j <;> first | omega | (simp at hx; subst hx; simp [encI] at hu; subst hu; rfl)

set_option maxRecDepth 100000 in
set_option maxHeartbeats 1600000 in
theorem compare_any (x y : Ev) (w : World) : Calls Try.prog 31 #[.agg (encE x).toArray, .agg (encE y).toArray] w fun e w' => e = .returned (.int .i64 (cmpE x y)) ∧ ∃ q os', w' = Sort.grow (w.drewN q) os' := by
  have HC64 := Lib.hid compare64_any
  have HCI := Lib.hid compareI_any
  have HE : Hid (cmpE x y = orL [cmpI x.a y.a, cmpI x.k y.k, cmpI x.n y.n, cmpI x.m y.m]) := rfl
  have hS : Hid (Blk ((w.alloc (.cells #[.int .i64 x.a, .int .i64 x.k, .int .i64 x.n, .int .i64 x.m] 31)).alloc (.cells #[.int .i64 y.a, .int .i64 y.k, .int .i64 y.n, .int .i64 y.m] 31)).drew w.heap.size 31 #[.int .i64 x.a, .int .i64 x.k, .int .i64 x.n, .int .i64 x.m]) ∧ Hid (Blk ((w.alloc (.cells #[.int .i64 x.a, .int .i64 x.k, .int .i64 x.n, .int .i64 x.m] 31)).alloc (.cells #[.int .i64 y.a, .int .i64 y.k, .int .i64 y.n, .int .i64 y.m] 31)).drew (w.heap.size + 1) 31 #[.int .i64 y.a, .int .i64 y.k, .int .i64 y.n, .int .i64 y.m]) :=
    ⟨(Blk.alloc (Blk.new' rfl) _ : Blk _ _ _ _), (Blk.new' (by simp) : Blk _ _ _ _)⟩
  unfold encE
  go_enter Try.func31, Try.ntmps31
  go_upto_region 1 with fail
  refine wp_region_held_drew (S := fun X => Hid (Blk X w.heap.size 31 #[.int .i64 x.a, .int .i64 x.k, .int .i64 x.n, .int .i64 x.m]) ∧ Hid (Blk X (w.heap.size + 1) 31 #[.int .i64 y.a, .int .i64 y.k, .int .i64 y.n, .int .i64 y.m])) (by kernel_rfl) hS (fun hHeld => ?_)
  (refine takeW (i := 0) (v := ?_) rfl (by kernel_rfl) (by kernel_rfl) (by kernel_rfl) (fun _ _ _ h => h) (by rfl) (by assumption) ?_ ?_; rotate_left; (intro W hW; (try dsimp only at hW); go_simp; try with_reducible rfl); (try simp only [Act.put, List.setIfInBounds_toArray, List.set_cons_zero, List.set_cons_succ]))
  (refine takeW (i := 1) rfl (by kernel_rfl) (by kernel_rfl) (by kernel_rfl) (fun _ _ _ h => h) (by rfl) (by assumption) (fun W hW => exec_load1 (v := .int .i64 x.a) F2 rfl rfl (hW.1.out.cell 0)) ?_; (try simp only [Act.put, List.setIfInBounds_toArray, List.set_cons_zero, List.set_cons_succ]))
  (refine takeW (i := 2) (v := ?_) rfl (by kernel_rfl) (by kernel_rfl) (by kernel_rfl) (fun _ _ _ h => h) (by rfl) (by assumption) ?_ ?_; rotate_left; (intro W hW; (try dsimp only at hW); go_simp; try with_reducible rfl); (try simp only [Act.put, List.setIfInBounds_toArray, List.set_cons_zero, List.set_cons_succ]))
  (refine takeW (i := 3) rfl (by kernel_rfl) (by kernel_rfl) (by kernel_rfl) (fun _ _ _ h => h) (by rfl) (by assumption) (fun W hW => exec_load1 (v := .int .i64 y.a) F2 rfl rfl (hW.2.out.cell 0)) ?_; (try simp only [Act.put, List.setIfInBounds_toArray, List.set_cons_zero, List.set_cons_succ]))
  (refine takeW (i := 5) (v := ?_) rfl (by kernel_rfl) (by kernel_rfl) (by kernel_rfl) (fun _ _ _ h => h) (by rfl) (by assumption) ?_ ?_; rotate_left; (intro W hW; (try dsimp only at hW); go_simp; try with_reducible rfl); (try simp only [Act.put, List.setIfInBounds_toArray, List.set_cons_zero, List.set_cons_succ]))
  (refine takeW (i := 6) rfl (by kernel_rfl) (by kernel_rfl) (by kernel_rfl) (fun _ _ _ h => h) (by rfl) (by assumption) (fun W hW => exec_load1 (v := .int .i64 x.k) F3 rfl rfl (hW.1.out.cell 1)) ?_; (try simp only [Act.put, List.setIfInBounds_toArray, List.set_cons_zero, List.set_cons_succ]))
  (refine takeW (i := 7) (v := ?_) rfl (by kernel_rfl) (by kernel_rfl) (by kernel_rfl) (fun _ _ _ h => h) (by rfl) (by assumption) ?_ ?_; rotate_left; (intro W hW; (try dsimp only at hW); go_simp; try with_reducible rfl); (try simp only [Act.put, List.setIfInBounds_toArray, List.set_cons_zero, List.set_cons_succ]))
  (refine takeW (i := 8) rfl (by kernel_rfl) (by kernel_rfl) (by kernel_rfl) (fun _ _ _ h => h) (by rfl) (by assumption) (fun W hW => exec_load1 (v := .int .i64 y.k) F3 rfl rfl (hW.2.out.cell 1)) ?_; (try simp only [Act.put, List.setIfInBounds_toArray, List.set_cons_zero, List.set_cons_succ]))
  (refine takeW (i := 10) (v := ?_) rfl (by kernel_rfl) (by kernel_rfl) (by kernel_rfl) (fun _ _ _ h => h) (by rfl) (by assumption) ?_ ?_; rotate_left; (intro W hW; (try dsimp only at hW); go_simp; try with_reducible rfl); (try simp only [Act.put, List.setIfInBounds_toArray, List.set_cons_zero, List.set_cons_succ]))
  (refine takeW (i := 11) rfl (by kernel_rfl) (by kernel_rfl) (by kernel_rfl) (fun _ _ _ h => h) (by rfl) (by assumption) (fun W hW => exec_load1 (v := .int .i64 x.n) F3 rfl rfl (hW.1.out.cell 2)) ?_; (try simp only [Act.put, List.setIfInBounds_toArray, List.set_cons_zero, List.set_cons_succ]))
  (refine takeW (i := 12) (v := ?_) rfl (by kernel_rfl) (by kernel_rfl) (by kernel_rfl) (fun _ _ _ h => h) (by rfl) (by assumption) ?_ ?_; rotate_left; (intro W hW; (try dsimp only at hW); go_simp; try with_reducible rfl); (try simp only [Act.put, List.setIfInBounds_toArray, List.set_cons_zero, List.set_cons_succ]))
  (refine takeW (i := 13) rfl (by kernel_rfl) (by kernel_rfl) (by kernel_rfl) (fun _ _ _ h => h) (by rfl) (by assumption) (fun W hW => exec_load1 (v := .int .i64 y.n) F3 rfl rfl (hW.2.out.cell 2)) ?_; (try simp only [Act.put, List.setIfInBounds_toArray, List.set_cons_zero, List.set_cons_succ]))
  (refine takeW (i := 15) (v := ?_) rfl (by kernel_rfl) (by kernel_rfl) (by kernel_rfl) (fun _ _ _ h => h) (by rfl) (by assumption) ?_ ?_; rotate_left; (intro W hW; (try dsimp only at hW); go_simp; try with_reducible rfl); (try simp only [Act.put, List.setIfInBounds_toArray, List.set_cons_zero, List.set_cons_succ]))
  (refine takeW (i := 16) rfl (by kernel_rfl) (by kernel_rfl) (by kernel_rfl) (fun _ _ _ h => h) (by rfl) (by assumption) (fun W hW => exec_load1 (v := .int .i64 x.m) F2 rfl rfl (hW.1.out.cell 3)) ?_; (try simp only [Act.put, List.setIfInBounds_toArray, List.set_cons_zero, List.set_cons_succ]))
  (refine takeW (i := 17) (v := ?_) rfl (by kernel_rfl) (by kernel_rfl) (by kernel_rfl) (fun _ _ _ h => h) (by rfl) (by assumption) ?_ ?_; rotate_left; (intro W hW; (try dsimp only at hW); go_simp; try with_reducible rfl); (try simp only [Act.put, List.setIfInBounds_toArray, List.set_cons_zero, List.set_cons_succ]))
  (refine takeW (i := 18) rfl (by kernel_rfl) (by kernel_rfl) (by kernel_rfl) (fun _ _ _ h => h) (by rfl) (by assumption) (fun W hW => exec_load1 (v := .int .i64 y.m) F2 rfl rfl (hW.2.out.cell 3)) ?_; (try simp only [Act.put, List.setIfInBounds_toArray, List.set_cons_zero, List.set_cons_succ]))
  refine takeC (i := 4) rfl (by kernel_rfl) (by rfl) (fun K hK => ?_)
  go_simp
  refine (HC64.out _ _ _).mono ?_
  rintro e w' ⟨rfl, rfl⟩
  refine hK.out _ _ hHeld (fun hHeld => ?_)
  clear hK K
  try simp only [Act.put, List.setIfInBounds_toArray, List.set_cons_zero, List.set_cons_succ]
  refine takeC (i := 9) rfl (by kernel_rfl) (by rfl) (fun K hK => ?_)
  go_simp
  refine (HCI.out _ _ _).mono ?_
  rintro e w' ⟨rfl, rfl⟩
  refine hK.out _ _ hHeld (fun hHeld => ?_)
  clear hK K
  try simp only [Act.put, List.setIfInBounds_toArray, List.set_cons_zero, List.set_cons_succ]
  refine takeC (i := 14) rfl (by kernel_rfl) (by rfl) (fun K hK => ?_)
  go_simp
  refine (HCI.out _ _ _).mono ?_
  rintro e w' ⟨rfl, rfl⟩
  refine hK.out _ _ hHeld (fun hHeld => ?_)
  clear hK K
  try simp only [Act.put, List.setIfInBounds_toArray, List.set_cons_zero, List.set_cons_succ]
  refine takeC (i := 19) rfl (by kernel_rfl) (by rfl) (fun K hK => ?_)
  go_simp
  refine (HC64.out _ _ _).mono ?_
  rintro e w' ⟨rfl, rfl⟩
  refine hK.out _ _ hHeld (fun hHeld => ?_)
  clear hK K
  try simp only [Act.put, List.setIfInBounds_toArray, List.set_cons_zero, List.set_cons_succ]
  refine takeV (i := 20) rfl (by kernel_rfl) (by rfl) (exec_slice4 rfl rfl rfl rfl rfl) (⟨Lib.hid (hHeld.1.out.alloc _), Lib.hid (hHeld.2.out.alloc _)⟩) ?_
  (try simp only [Act.put, List.setIfInBounds_toArray, List.set_cons_zero, List.set_cons_succ])
  have hHeld : Hid (Blk (((w.alloc (.cells #[.int .i64 x.a, .int .i64 x.k, .int .i64 x.n, .int .i64 x.m] 31)).alloc (.cells #[.int .i64 y.a, .int .i64 y.k, .int .i64 y.n, .int .i64 y.m] 31)).drew.alloc (.cells #[.int .i64 (cmpI x.a y.a), .int .i64 (cmpI x.k y.k), .int .i64 (cmpI x.n y.n), .int .i64 (cmpI x.m y.m)] 3)) w.heap.size 31 #[.int .i64 x.a, .int .i64 x.k, .int .i64 x.n, .int .i64 x.m]) ∧ Hid (Blk (((w.alloc (.cells #[.int .i64 x.a, .int .i64 x.k, .int .i64 x.n, .int .i64 x.m] 31)).alloc (.cells #[.int .i64 y.a, .int .i64 y.k, .int .i64 y.n, .int .i64 y.m] 31)).drew.alloc (.cells #[.int .i64 (cmpI x.a y.a), .int .i64 (cmpI x.k y.k), .int .i64 (cmpI x.n y.n), .int .i64 (cmpI x.m y.m)] 3)) (w.heap.size + 1) 31 #[.int .i64 y.a, .int .i64 y.k, .int .i64 y.n, .int .i64 y.m]) := ⟨Lib.hid (hHeld.1.out.alloc _), Lib.hid (hHeld.2.out.alloc _)⟩
  refine takeC (i := 21) rfl (by kernel_rfl) (by rfl) (fun K hK => ?_)
  go_simp
  refine (or_any _ _ _ (row4 (w := ((w.alloc (.cells #[.int .i64 x.a, .int .i64 x.k, .int .i64 x.n, .int .i64 x.m] 31)).alloc (.cells #[.int .i64 y.a, .int .i64 y.k, .int .i64 y.n, .int .i64 y.m] 31)).drew) (by simp) _ _ _ _)).mono ?_
  rintro e w' ⟨rfl, rfl⟩
  rw [← HE.out]
  refine hK.out _ _ hHeld (fun hHeld => ?_)
  clear hK K
  try simp only [Act.put, List.setIfInBounds_toArray, List.set_cons_zero, List.set_cons_succ]
  (refine takeW (i := 22) (v := ?_) rfl (by kernel_rfl) (by kernel_rfl) (by kernel_rfl) (fun _ _ _ h => h) (by rfl) (by assumption) ?_ ?_; rotate_left; (intro W hW; (try dsimp only at hW); go_simp; try with_reducible rfl); (try simp only [Act.put, List.setIfInBounds_toArray, List.set_cons_zero, List.set_cons_succ]))
  refine wpAnyH_done (by kernel_rfl) ?_ _
  go_wp2
  go_ret
  exact ⟨rfl, 1, _, by rw [Sort.alloc_eq_grow, Sort.alloc_eq_grow, Sort.alloc_eq_grow, Sort.drew_grow, Sort.drew_grow, Sort.grow_grow, Sort.grow_grow]; rfl⟩
end Go.Proofs.Ytbmnecdkjkffdaa
