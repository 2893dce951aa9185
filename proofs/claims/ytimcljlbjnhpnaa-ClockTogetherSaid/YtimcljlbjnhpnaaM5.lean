/- Contracts: least, Check of the program. -/
import Derived.Test.YtimcljlbjnhpnaaM4
import Derived.Lib.QuietBelow
namespace Go.Proofs.Ytimcljlbjnhpnaa
open Go.RowKit Go.Shelf Go.Sort
open Md

theorem nd_bd {n d : Int} (hn0 : 4 ≤ n) (hn1 : n ≤ 8) (hd0 : 0 ≤ d) (hd1 : d ≤ 64) : 0 ≤ 16 * n * d ∧ 16 * n * d ≤ 8192 := by
  have h1 : 0 ≤ n * d := Int.mul_nonneg (by omega) hd0
  have h2 : n * d ≤ 8 * 64 := Int.mul_le_mul hn1 hd1 hd0 (by omega)
  rw [Int.mul_assoc]
  omega

set_option maxRecDepth 100000 in
set_option maxHeartbeats 6400000 in
theorem mleast_any (m : Me) (w : World) (h : GoodMe w m) (hn0 : 4 ≤ m.nodes) (hn1 : m.nodes ≤ 8) (hd0 : 0 ≤ m.drift) (hd1 : m.drift ≤ 64) (he0 : 0 ≤ m.delay) (he1 : m.delay ≤ 64)
    (hw0 : 0 ≤ m.win) (hw1 : m.win ≤ 1048576) (hg0 : 0 ≤ m.gap) (hg1 : m.gap ≤ 1048576) :
    Calls Try.prog 53 #[mev m] w fun e w' => e = .returned (.tuple #[.int .i64 (16 * m.nodes * m.drift + 16), .int .i64 (2 * m.win + 2 * m.delay + 4), .int .i64 (2 * m.gap + maxAir m)]) ∧ Below w.heap.size w w' := by
  have hma := fun W (hW : Below w.heap.size w W) => maxAir_any m W (h.below hW)
  have hnd := nd_bd hn0 hn1 hd0 hd1
  have hair := airTo_bd m m.ml.length
  rw [show airTo m m.ml.length = maxAir m from rfl] at hair
  obtain ⟨nodes, slot, gap, win, drift, delay, ⟨ca, cc, cl⟩, ma, mc, ml⟩ := m
  unfold mev at *
  simp only at *
  clear h
  generalize maxAir _ = A at *
  generalize hND : 16 * nodes * drift = ND at *
  have HND := Lib.hid hND
  have hp : 16 * nodes * drift = ND := hND
  have hq : 0 ≤ nodes * drift ∧ nodes * drift ≤ 512 := by
    have e : 16 * nodes * drift = 16 * (nodes * drift) := Int.mul_assoc _ _ _
    omega
  clear hND
  have D : Hid (Blk (w.alloc (.cells #[.int .i64 nodes, .int .i64 slot, .int .i64 gap, .int .i64 win, .int .i64 drift, .int .i64 delay, .slice ca cl.length cc, .slice ma ml.length mc] 25)) w.heap.size 25 #[.int .i64 nodes, .int .i64 slot, .int .i64 gap, .int .i64 win, .int .i64 drift, .int .i64 delay, .slice ca cl.length cc, .slice ma ml.length mc]) := (Blk.new' rfl : Blk _ _ _ _)
  have hb1 := Lib.hid (below1 w (.cells #[.int .i64 nodes, .int .i64 slot, .int .i64 gap, .int .i64 win, .int .i64 drift, .int .i64 delay, .slice ca cl.length cc, .slice ma ml.length mc] 25))
  clear hq
  go_enter Try.func53, Try.ntmps53
  go_upto_region 3 with fail
  generalize w.alloc (.cells #[.int .i64 nodes, .int .i64 slot, .int .i64 gap, .int .i64 win, .int .i64 drift, .int .i64 delay, .slice ca cl.length cc, .slice ma ml.length mc] 25) = W0 at *
  obtain ⟨m0, m1, m2, m3, m4, m5, m6, m7⟩ := D.out.eight
  have H1 : W0.drew.cell? ⟨w.heap.size, 0, none⟩ = some (.int .i64 nodes) ∧ W0.drew.cell? ⟨w.heap.size, 1, none⟩ = some (.int .i64 slot) ∧ W0.drew.cell? ⟨w.heap.size, 2, none⟩ = some (.int .i64 gap) ∧ W0.drew.cell? ⟨w.heap.size, 3, none⟩ = some (.int .i64 win) ∧ W0.drew.cell? ⟨w.heap.size, 4, none⟩ = some (.int .i64 drift) ∧ W0.drew.cell? ⟨w.heap.size, 5, none⟩ = some (.int .i64 delay) ∧ W0.drew.cell? ⟨w.heap.size, 6, none⟩ = some (.slice ca cl.length cc) ∧ W0.drew.cell? ⟨w.heap.size, 7, none⟩ = some (.slice ma ml.length mc) ∧ Below W0.heap.size W0 W0.drew := ⟨m0, m1, m2, m3, m4, m5, m6, m7, (Below.refl _ _).drew⟩
  have hwr1 : IntKind.i64.wrap (2 * gap) = 2 * gap := IntWalk.i64_in _ (by omega)
  have hwr2 : IntKind.i64.wrap (2 * gap + A) = 2 * gap + A := IntWalk.i64_in _ (by omega)
  clear hp m0 m1 m2 m3 m4 m5 m6 m7
  refine wp_region_held_drew (S := (fun W => W.cell? ⟨w.heap.size, 0, none⟩ = some (.int .i64 nodes) ∧ W.cell? ⟨w.heap.size, 1, none⟩ = some (.int .i64 slot) ∧ W.cell? ⟨w.heap.size, 2, none⟩ = some (.int .i64 gap) ∧ W.cell? ⟨w.heap.size, 3, none⟩ = some (.int .i64 win) ∧ W.cell? ⟨w.heap.size, 4, none⟩ = some (.int .i64 drift) ∧ W.cell? ⟨w.heap.size, 5, none⟩ = some (.int .i64 delay) ∧ W.cell? ⟨w.heap.size, 6, none⟩ = some (.slice ca cl.length cc) ∧ W.cell? ⟨w.heap.size, 7, none⟩ = some (.slice ma ml.length mc) ∧ Below W0.heap.size W0 W)) (by kernel_rfl) (by assumption) (fun hHeld => ?_)
  generalize W0.drew = Wd at *
  (refine takeW (i := 0) (v := ?_) rfl (by kernel_rfl) (by kernel_rfl) (by kernel_rfl) (fun _ _ _ h => h) (by rfl) (by assumption) ?_ ?_; rotate_left; (intro W hW; (try dsimp only at hW); go_simp; try with_reducible rfl); (try simp only [Act.put, List.setIfInBounds_toArray, List.set_cons_zero, List.set_cons_succ]))
  (refine takeW (i := 1) (v := ?_) rfl (by kernel_rfl) (by kernel_rfl) (by kernel_rfl) (fun _ _ _ h => h) (by rfl) (by assumption) ?_ ?_; rotate_left; (intro W hW; (try dsimp only at hW); go_simp; try with_reducible rfl); (try simp only [Act.put, List.setIfInBounds_toArray, List.set_cons_zero, List.set_cons_succ]))
  (refine takeW (i := 2) (v := ?_) rfl (by kernel_rfl) (by kernel_rfl) (by kernel_rfl) (fun _ _ _ h => h) (by rfl) (by assumption) ?_ ?_; rotate_left; (intro W hW; (try dsimp only at hW); go_simp; try with_reducible rfl); (try simp only [Act.put, List.setIfInBounds_toArray, List.set_cons_zero, List.set_cons_succ]))
  (refine takeW (i := 3) (v := ?_) rfl (by kernel_rfl) (by kernel_rfl) (by kernel_rfl) (fun _ _ _ h => h) (by rfl) (by assumption) ?_ ?_; rotate_left; (intro W hW; (try dsimp only at hW); go_simp; try with_reducible rfl); (try simp only [Act.put, List.setIfInBounds_toArray, List.set_cons_zero, List.set_cons_succ]))
  (refine takeW (i := 4) (v := ?_) rfl (by kernel_rfl) (by kernel_rfl) (by kernel_rfl) (fun _ _ _ h => h) (by rfl) (by assumption) ?_ ?_; rotate_left; (intro W hW; (try dsimp only at hW); go_simp; try with_reducible rfl); (try simp only [Act.put, List.setIfInBounds_toArray, List.set_cons_zero, List.set_cons_succ]))
  (refine takeW (i := 5) (v := ?_) rfl (by kernel_rfl) (by kernel_rfl) (by kernel_rfl) (fun _ _ _ h => h) (by rfl) (by assumption) ?_ ?_; rotate_left; (intro W hW; (try dsimp only at hW); go_simp; try with_reducible rfl); (try simp only [Act.put, List.setIfInBounds_toArray, List.set_cons_zero, List.set_cons_succ]))
  (refine takeC (i := 6) rfl (by kernel_rfl) (by rfl) (fun K hK => ?_); go_simp; (refine (hma _ (hb1.out.trans (hHeld.2.2.2.2.2.2.2.2.mono hb1.out.size))).mono ?_; rintro e W6 ⟨rfl, hb⟩; have hs : W6.cell? ⟨w.heap.size, 0, none⟩ = some (.int .i64 nodes) ∧ W6.cell? ⟨w.heap.size, 1, none⟩ = some (.int .i64 slot) ∧ W6.cell? ⟨w.heap.size, 2, none⟩ = some (.int .i64 gap) ∧ W6.cell? ⟨w.heap.size, 3, none⟩ = some (.int .i64 win) ∧ W6.cell? ⟨w.heap.size, 4, none⟩ = some (.int .i64 drift) ∧ W6.cell? ⟨w.heap.size, 5, none⟩ = some (.int .i64 delay) ∧ W6.cell? ⟨w.heap.size, 6, none⟩ = some (.slice ca cl.length cc) ∧ W6.cell? ⟨w.heap.size, 7, none⟩ = some (.slice ma ml.length mc) ∧ Below W0.heap.size W0 W6 := ⟨keepCell hb hHeld.1, keepCell hb hHeld.2.1, keepCell hb hHeld.2.2.1, keepCell hb hHeld.2.2.2.1, keepCell hb hHeld.2.2.2.2.1, keepCell hb hHeld.2.2.2.2.2.1, keepCell hb hHeld.2.2.2.2.2.2.1, keepCell hb hHeld.2.2.2.2.2.2.2.1, hHeld.2.2.2.2.2.2.2.2.trans (hb.mono hHeld.2.2.2.2.2.2.2.2.size)⟩; clear hb); refine hK.out _ _ hs (fun hHeld => ?_); clear hK K; (try simp only [Act.put, List.setIfInBounds_toArray, List.set_cons_zero, List.set_cons_succ]))
  (refine takeW (i := 7) (v := ?_) rfl (by kernel_rfl) (by kernel_rfl) (by kernel_rfl) (fun _ _ _ h => h) (by rfl) (by assumption) ?_ ?_; rotate_left; (intro W hW; (try dsimp only at hW); go_simp; try with_reducible rfl); (try simp only [Act.put, List.setIfInBounds_toArray, List.set_cons_zero, List.set_cons_succ]))
  (refine takeW (i := 8) (v := ?_) rfl (by kernel_rfl) (by kernel_rfl) (by kernel_rfl) (fun _ _ _ h => h) (by rfl) (by assumption) ?_ ?_; rotate_left; (intro W hW; (try dsimp only at hW); go_simp; try with_reducible rfl); (try simp only [Act.put, List.setIfInBounds_toArray, List.set_cons_zero, List.set_cons_succ]))
  (refine takeW (i := 9) (v := ?_) rfl (by kernel_rfl) (by kernel_rfl) (by kernel_rfl) (fun _ _ _ h => h) (by rfl) (by assumption) ?_ ?_; rotate_left; (intro W hW; (try dsimp only at hW); go_simp; try with_reducible rfl); (try simp only [Act.put, List.setIfInBounds_toArray, List.set_cons_zero, List.set_cons_succ]))
  (refine takeW (i := 10) (v := ?_) rfl (by kernel_rfl) (by kernel_rfl) (by kernel_rfl) (fun _ _ _ h => h) (by rfl) (by assumption) ?_ ?_; rotate_left; (intro W hW; (try dsimp only at hW); go_simp; try with_reducible rfl); (try simp only [Act.put, List.setIfInBounds_toArray, List.set_cons_zero, List.set_cons_succ]))
  refine wpAnyH_done (by kernel_rfl) ?_ _
  skip
  go_wp2
  go_ret3
  exact ⟨rfl, hb1.out.trans (hHeld.2.2.2.2.2.2.2.2.mono hb1.out.size)⟩
end Go.Proofs.Ytimcljlbjnhpnaa
