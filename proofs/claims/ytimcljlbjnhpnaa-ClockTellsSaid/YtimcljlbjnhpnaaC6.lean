/- ClockTells: the walk. -/
import Derived.Test.YtimcljlbjnhpnaaC5
namespace Go.Proofs.Ytimcljlbjnhpnaa
open Go.RowKit Go.Shelf
open Md

set_option maxRecDepth 100000 in
set_option maxHeartbeats 6400000 in
theorem tells_walk (m : Me) (c o : Ck) (w : World) (h : GoodMe w m) (hc : GoodCk w c) (ho : GoodCk w o) :
    Calls Try.prog 6 #[mev m, clv c, clv o] w fun e w' => e = .returned (.bool true) ∧ Below w.heap.size w w' := by
  have hsl : ∀ W, Below w.heap.size w W → _ := fun W hW => slot_any m c W (h.below hW) (hc.below hW)
  have hrl : ∀ W, Below w.heap.size w W → _ := fun W hW => rslot_any m c W (h.below hW) (hc.below hW)
  have hck : ∀ W, Below w.heap.size w W → _ := fun W hW => ccheck_any m c W (h.below hW) (hc.below hW)
  have hrc : ∀ W, Below w.heap.size w W → _ := fun W hW => rccheck_any m c W (h.below hW) (hc.below hW)
  have hsa : ∀ W, Below w.heap.size w W → _ := fun W hW => same_any c o W (hc.below hW) (ho.below hW)
  have hrs : ∀ W, Below w.heap.size w W → _ := fun W hW => rsame_any c o W (hc.below hW) (ho.below hW)
  have hsc : ∀ W, Below w.heap.size w W → Calls Try.prog 20 #[clv c, clv c] W fun e w' => e = .returned (.bool true) ∧ Below W.heap.size W w' := fun W hW => (same_any c c W (hc.below hW) (hc.below hW)).mono fun e w' h => ⟨h.1.trans (by simp [sameB]), h.2⟩
  have hwi : ∀ W, Below w.heap.size w W → _ := fun W hW => window_any m c W (h.below hW) (hc.below hW)
  have hrw : ∀ W, Below w.heap.size w W → _ := fun W hW => rwindow_any m c W (h.below hW) (hc.below hW)
  have hse : ∀ W, Below w.heap.size w W → _ := fun W hW => send_any m c W (h.below hW) (hc.below hW)
  have hre : ∀ W, Below w.heap.size w W → _ := fun W hW => rsend_any m c W (h.below hW) (hc.below hW)
  have hco : ∀ W, Below w.heap.size w W → _ := fun W hW => correct_any m c W (h.below hW) (hc.below hW)
  have hrr : ∀ W, Below w.heap.size w W → _ := fun W hW => rcorrect_any m c W (h.below hW) (hc.below hW)
  generalize slotV _ _ = sv at *
  generalize winV _ _ = wv at *
  generalize sendV _ _ = se at *
  generalize corV _ _ = kv at *
  generalize sameB _ _ = sb at *
  generalize errC _ _ = ec at *
  obtain ⟨nodes, slot, gap, win, drift, delay, ⟨ca, cc, cl⟩, ma, mc, ml⟩ := m
  obtain ⟨st, sl, da, dc, dl⟩ := c
  obtain ⟨bst, bsl, bda, bdc, bdl⟩ := o
  obtain ⟨s0, s1⟩ := sv
  obtain ⟨x0, x1⟩ := wv
  obtain ⟨k, ke⟩ := kv
  unfold mev clv at *
  simp only at *
  clear h hc ho
  have HJ : Hid (Blk (((w.alloc (.cells #[.int .i64 nodes, .int .i64 slot, .int .i64 gap, .int .i64 win, .int .i64 drift, .int .i64 delay, .slice ca cl.length cc, .slice ma ml.length mc] 25)).alloc (.cells #[.int .i64 st, .int .i64 sl, .slice da dl.length dc] 28)).alloc (.cells #[.int .i64 bst, .int .i64 bsl, .slice bda bdl.length bdc] 28)) w.heap.size 25 #[.int .i64 nodes, .int .i64 slot, .int .i64 gap, .int .i64 win, .int .i64 drift, .int .i64 delay, .slice ca cl.length cc, .slice ma ml.length mc] ∧ Blk (((w.alloc (.cells #[.int .i64 nodes, .int .i64 slot, .int .i64 gap, .int .i64 win, .int .i64 drift, .int .i64 delay, .slice ca cl.length cc, .slice ma ml.length mc] 25)).alloc (.cells #[.int .i64 st, .int .i64 sl, .slice da dl.length dc] 28)).alloc (.cells #[.int .i64 bst, .int .i64 bsl, .slice bda bdl.length bdc] 28)) (w.heap.size + 1) 28 #[.int .i64 st, .int .i64 sl, .slice da dl.length dc] ∧ Blk (((w.alloc (.cells #[.int .i64 nodes, .int .i64 slot, .int .i64 gap, .int .i64 win, .int .i64 drift, .int .i64 delay, .slice ca cl.length cc, .slice ma ml.length mc] 25)).alloc (.cells #[.int .i64 st, .int .i64 sl, .slice da dl.length dc] 28)).alloc (.cells #[.int .i64 bst, .int .i64 bsl, .slice bda bdl.length bdc] 28)) (w.heap.size + 1 + 1) 28 #[.int .i64 bst, .int .i64 bsl, .slice bda bdl.length bdc] ∧ Below w.heap.size w (((w.alloc (.cells #[.int .i64 nodes, .int .i64 slot, .int .i64 gap, .int .i64 win, .int .i64 drift, .int .i64 delay, .slice ca cl.length cc, .slice ma ml.length mc] 25)).alloc (.cells #[.int .i64 st, .int .i64 sl, .slice da dl.length dc] 28)).alloc (.cells #[.int .i64 bst, .int .i64 bsl, .slice bda bdl.length bdc] 28))) :=
    ⟨((Blk.new' rfl).alloc _).alloc _, (Blk.new' (by simp)).alloc _, Blk.new' (by simp), below3 w _ _ _⟩
  go_enter Try.func6, Try.ntmps6
  go_wp2_with fail
  refine (hsl _ HJ.out.2.2.2).mono ?_
  rintro e w1 ⟨rfl, hb⟩
  replace HJ := Lib.hid (three_boxes HJ.out hb)
  clear hb hsl
  have HJ0 : Hid (w.heap.size + 1 + 1 < w1.heap.size) := HJ.out.2.2.1.lt
  replace HJ := Lib.hid (three_boxes HJ.out (below1 w1 (.cells #[.int .i64 s0, .int .i64 s1] 37)))
  have HX : Hid (Blk (w1.alloc (.cells #[.int .i64 s0, .int .i64 s1] 37)) w1.heap.size 37 #[.int .i64 s0, .int .i64 s1]) := (Blk.new' rfl : Blk _ _ _ _)
  obtain ⟨m0, m1, m2, m3, m4, m5, m6, m7⟩ := HJ.out.1.eight; obtain ⟨c0, c1, c2⟩ := HJ.out.2.1.three; obtain ⟨d0, d1, d2⟩ := HJ.out.2.2.1.three; have hz0 := HJ.out.1.lt; have hz1 := HJ.out.2.1.lt; have hz2 := HJ.out.2.2.1.lt
  go_upto_region 2 with fail
  clear m0 m1 m2 m3 m4 m5 m6 m7 c0 c1 c2 d0 d1 d2 hz0 hz1 hz2
  have hb7 : w.heap.size + 1 + 1 < w1.heap.size := HJ0.out
  generalize w1.heap.size = b7 at *
  generalize w1.alloc (.cells #[.int .i64 s0, .int .i64 s1] 37) = w2 at *
  obtain ⟨m0, m1, m2, m3, m4, m5, m6, m7⟩ := HJ.out.1.eight; obtain ⟨c0, c1, c2⟩ := HJ.out.2.1.three; obtain ⟨d0, d1, d2⟩ := HJ.out.2.2.1.three; have hz0 := HJ.out.1.lt; have hz1 := HJ.out.2.1.lt; have hz2 := HJ.out.2.2.1.lt
  go_wp2_with fail
  refine (hrl _ HJ.out.2.2.2).mono ?_
  rintro e w2' ⟨rfl, hb⟩
  clear m0 m1 m2 m3 m4 m5 m6 m7 c0 c1 c2 d0 d1 d2 hz0 hz1 hz2
  have hb9 : b7 < w2'.heap.size := (HX.out.keep hb).lt
  replace HJ := Lib.hid (three_boxes (three_boxes HJ.out hb) (below1 w2' (.cells #[.int .i64 s0, .int .i64 s1] 37)))
  replace HX := Lib.hid ((HX.out.keep hb).alloc (.cells #[.int .i64 s0, .int .i64 s1] 37))
  have HY : Hid (Blk (w2'.alloc (.cells #[.int .i64 s0, .int .i64 s1] 37)) w2'.heap.size 37 #[.int .i64 s0, .int .i64 s1]) := (Blk.new' rfl : Blk _ _ _ _)
  clear hb hrl
  obtain ⟨m0, m1, m2, m3, m4, m5, m6, m7⟩ := HJ.out.1.eight; obtain ⟨c0, c1, c2⟩ := HJ.out.2.1.three; obtain ⟨d0, d1, d2⟩ := HJ.out.2.2.1.three; have hz0 := HJ.out.1.lt; have hz1 := HJ.out.2.1.lt; have hz2 := HJ.out.2.2.1.lt
  go_upto_region 3 with fail
  clear m0 m1 m2 m3 m4 m5 m6 m7 c0 c1 c2 d0 d1 d2 hz0 hz1 hz2
  generalize w2'.heap.size = b9 at *
  generalize w2'.alloc (.cells #[.int .i64 s0, .int .i64 s1] 37) = w3 at *
  obtain ⟨m0, m1, m2, m3, m4, m5, m6, m7⟩ := HJ.out.1.eight; obtain ⟨c0, c1, c2⟩ := HJ.out.2.1.three; obtain ⟨d0, d1, d2⟩ := HJ.out.2.2.1.three; have hz0 := HJ.out.1.lt; have hz1 := HJ.out.2.1.lt; have hz2 := HJ.out.2.2.1.lt
  have H1 : w3.drew.cell? ⟨w.heap.size, 0, none⟩ = some (.int .i64 nodes) ∧ w3.drew.cell? ⟨w.heap.size, 1, none⟩ = some (.int .i64 slot) ∧ w3.drew.cell? ⟨w.heap.size, 2, none⟩ = some (.int .i64 gap) ∧ w3.drew.cell? ⟨w.heap.size, 3, none⟩ = some (.int .i64 win) ∧ w3.drew.cell? ⟨w.heap.size, 4, none⟩ = some (.int .i64 drift) ∧ w3.drew.cell? ⟨w.heap.size, 5, none⟩ = some (.int .i64 delay) ∧ w3.drew.cell? ⟨w.heap.size, 6, none⟩ = some (.slice ca cl.length cc) ∧ w3.drew.cell? ⟨w.heap.size, 7, none⟩ = some (.slice ma ml.length mc) ∧ w3.drew.cell? ⟨w.heap.size + 1, 0, none⟩ = some (.int .i64 st) ∧ w3.drew.cell? ⟨w.heap.size + 1, 1, none⟩ = some (.int .i64 sl) ∧ w3.drew.cell? ⟨w.heap.size + 1, 2, none⟩ = some (.slice da dl.length dc) ∧ w3.drew.cell? ⟨w.heap.size + 1 + 1, 0, none⟩ = some (.int .i64 bst) ∧ w3.drew.cell? ⟨w.heap.size + 1 + 1, 1, none⟩ = some (.int .i64 bsl) ∧ w3.drew.cell? ⟨w.heap.size + 1 + 1, 2, none⟩ = some (.slice bda bdl.length bdc) ∧ w3.drew.cell? ⟨b7, 0, none⟩ = some (.int .i64 s0) ∧ w3.drew.cell? ⟨b7, 1, none⟩ = some (.int .i64 s1) ∧ w3.drew.cell? ⟨b9, 0, none⟩ = some (.int .i64 s0) ∧ w3.drew.cell? ⟨b9, 1, none⟩ = some (.int .i64 s1) ∧ Below w3.heap.size w3 w3.drew := ⟨m0, m1, m2, m3, m4, m5, m6, m7, c0, c1, c2, d0, d1, d2, HX.out.cell 0, HX.out.cell 1, HY.out.cell 0, HY.out.cell 1, (Below.refl _ _).drew⟩
  clear m0 m1 m2 m3 m4 m5 m6 m7 c0 c1 c2 d0 d1 d2 hz0 hz1 hz2
  have hesp := eqSp s0 s1 s0 s1
  have hnsp := neSp s0 s1 s0 s1
  have hgd := guardSp
  have hsbe : (sb != sb) = false := by simp
  refine wp_region_held_drew (S := (fun W => W.cell? ⟨w.heap.size, 0, none⟩ = some (.int .i64 nodes) ∧ W.cell? ⟨w.heap.size, 1, none⟩ = some (.int .i64 slot) ∧ W.cell? ⟨w.heap.size, 2, none⟩ = some (.int .i64 gap) ∧ W.cell? ⟨w.heap.size, 3, none⟩ = some (.int .i64 win) ∧ W.cell? ⟨w.heap.size, 4, none⟩ = some (.int .i64 drift) ∧ W.cell? ⟨w.heap.size, 5, none⟩ = some (.int .i64 delay) ∧ W.cell? ⟨w.heap.size, 6, none⟩ = some (.slice ca cl.length cc) ∧ W.cell? ⟨w.heap.size, 7, none⟩ = some (.slice ma ml.length mc) ∧ W.cell? ⟨w.heap.size + 1, 0, none⟩ = some (.int .i64 st) ∧ W.cell? ⟨w.heap.size + 1, 1, none⟩ = some (.int .i64 sl) ∧ W.cell? ⟨w.heap.size + 1, 2, none⟩ = some (.slice da dl.length dc) ∧ W.cell? ⟨w.heap.size + 1 + 1, 0, none⟩ = some (.int .i64 bst) ∧ W.cell? ⟨w.heap.size + 1 + 1, 1, none⟩ = some (.int .i64 bsl) ∧ W.cell? ⟨w.heap.size + 1 + 1, 2, none⟩ = some (.slice bda bdl.length bdc) ∧ W.cell? ⟨b7, 0, none⟩ = some (.int .i64 s0) ∧ W.cell? ⟨b7, 1, none⟩ = some (.int .i64 s1) ∧ W.cell? ⟨b9, 0, none⟩ = some (.int .i64 s0) ∧ W.cell? ⟨b9, 1, none⟩ = some (.int .i64 s1) ∧ Below w3.heap.size w3 W)) (by kernel_rfl) (by assumption) (fun hHeld => ?_)
  generalize w3.drew = Wd at *
  (refine takeC (i := 0) rfl (by kernel_rfl) (by rfl) (fun K hK => ?_); go_simp; (refine (begun_any _).mono ?_; rintro e W0 ⟨rfl, hb⟩; have hs : W0.cell? ⟨w.heap.size, 0, none⟩ = some (.int .i64 nodes) ∧ W0.cell? ⟨w.heap.size, 1, none⟩ = some (.int .i64 slot) ∧ W0.cell? ⟨w.heap.size, 2, none⟩ = some (.int .i64 gap) ∧ W0.cell? ⟨w.heap.size, 3, none⟩ = some (.int .i64 win) ∧ W0.cell? ⟨w.heap.size, 4, none⟩ = some (.int .i64 drift) ∧ W0.cell? ⟨w.heap.size, 5, none⟩ = some (.int .i64 delay) ∧ W0.cell? ⟨w.heap.size, 6, none⟩ = some (.slice ca cl.length cc) ∧ W0.cell? ⟨w.heap.size, 7, none⟩ = some (.slice ma ml.length mc) ∧ W0.cell? ⟨w.heap.size + 1, 0, none⟩ = some (.int .i64 st) ∧ W0.cell? ⟨w.heap.size + 1, 1, none⟩ = some (.int .i64 sl) ∧ W0.cell? ⟨w.heap.size + 1, 2, none⟩ = some (.slice da dl.length dc) ∧ W0.cell? ⟨w.heap.size + 1 + 1, 0, none⟩ = some (.int .i64 bst) ∧ W0.cell? ⟨w.heap.size + 1 + 1, 1, none⟩ = some (.int .i64 bsl) ∧ W0.cell? ⟨w.heap.size + 1 + 1, 2, none⟩ = some (.slice bda bdl.length bdc) ∧ W0.cell? ⟨b7, 0, none⟩ = some (.int .i64 s0) ∧ W0.cell? ⟨b7, 1, none⟩ = some (.int .i64 s1) ∧ W0.cell? ⟨b9, 0, none⟩ = some (.int .i64 s0) ∧ W0.cell? ⟨b9, 1, none⟩ = some (.int .i64 s1) ∧ Below w3.heap.size w3 W0 := ⟨keepCell hb hHeld.1, keepCell hb hHeld.2.1, keepCell hb hHeld.2.2.1, keepCell hb hHeld.2.2.2.1, keepCell hb hHeld.2.2.2.2.1, keepCell hb hHeld.2.2.2.2.2.1, keepCell hb hHeld.2.2.2.2.2.2.1, keepCell hb hHeld.2.2.2.2.2.2.2.1, keepCell hb hHeld.2.2.2.2.2.2.2.2.1, keepCell hb hHeld.2.2.2.2.2.2.2.2.2.1, keepCell hb hHeld.2.2.2.2.2.2.2.2.2.2.1, keepCell hb hHeld.2.2.2.2.2.2.2.2.2.2.2.1, keepCell hb hHeld.2.2.2.2.2.2.2.2.2.2.2.2.1, keepCell hb hHeld.2.2.2.2.2.2.2.2.2.2.2.2.2.1, keepCell hb hHeld.2.2.2.2.2.2.2.2.2.2.2.2.2.2.1, keepCell hb hHeld.2.2.2.2.2.2.2.2.2.2.2.2.2.2.2.1, keepCell hb hHeld.2.2.2.2.2.2.2.2.2.2.2.2.2.2.2.2.1, keepCell hb hHeld.2.2.2.2.2.2.2.2.2.2.2.2.2.2.2.2.2.1, hHeld.2.2.2.2.2.2.2.2.2.2.2.2.2.2.2.2.2.2.trans (hb.mono hHeld.2.2.2.2.2.2.2.2.2.2.2.2.2.2.2.2.2.2.size)⟩; clear hb); refine hK.out _ _ hs (fun hHeld => ?_); clear hK K; (try simp only [Act.put, List.setIfInBounds_toArray, List.set_cons_zero, List.set_cons_succ]))
  (refine takeW (i := 1) (v := ?_) rfl (by kernel_rfl) (by kernel_rfl) (by kernel_rfl) (fun _ _ _ h => h) (by rfl) (by assumption) ?_ ?_; rotate_left; (intro W hW; (try dsimp only at hW); go_simp; try with_reducible rfl); (try simp only [Act.put, List.setIfInBounds_toArray, List.set_cons_zero, List.set_cons_succ]))
  (refine takeW (i := 2) (v := ?_) rfl (by kernel_rfl) (by kernel_rfl) (by kernel_rfl) (fun _ _ _ h => h) (by rfl) (by assumption) ?_ ?_; rotate_left; (intro W hW; (try dsimp only at hW); go_simp; try with_reducible rfl); (try simp only [Act.put, List.setIfInBounds_toArray, List.set_cons_zero, List.set_cons_succ]))
  first
    | (refine takeW (i := 3) (v := ?_) rfl (by kernel_rfl) (by kernel_rfl) (by kernel_rfl) (fun _ _ _ h => h) (by rfl) (by assumption) ?_ ?_; rotate_left; (intro W hW; (try dsimp only at hW); go_simp; try with_reducible rfl); (try simp only [Act.put, List.setIfInBounds_toArray, List.set_cons_zero, List.set_cons_succ]))
    | (refine takeU (i := 3) rfl (by kernel_rfl) (by kernel_rfl) (by kernel_rfl) (fun _ _ _ h => h) (by rfl) (by assumption) ?_; (try simp only [Act.put, List.setIfInBounds_toArray, List.set_cons_zero, List.set_cons_succ]))
  first
    | (refine takeW (i := 4) (v := ?_) rfl (by kernel_rfl) (by kernel_rfl) (by kernel_rfl) (fun _ _ _ h => h) (by rfl) (by assumption) ?_ ?_; rotate_left; (intro W hW; (try dsimp only at hW); go_simp; try with_reducible rfl); (try simp only [Act.put, List.setIfInBounds_toArray, List.set_cons_zero, List.set_cons_succ]))
    | (refine takeU (i := 4) rfl (by kernel_rfl) (by kernel_rfl) (by kernel_rfl) (fun _ _ _ h => h) (by rfl) (by assumption) ?_; (try simp only [Act.put, List.setIfInBounds_toArray, List.set_cons_zero, List.set_cons_succ]))
  first
    | (refine takeW (i := 5) (v := ?_) rfl (by kernel_rfl) (by kernel_rfl) (by kernel_rfl) (fun _ _ _ h => h) (by rfl) (by assumption) ?_ ?_; rotate_left; (intro W hW; (try dsimp only at hW); go_simp; try with_reducible rfl); (try simp only [Act.put, List.setIfInBounds_toArray, List.set_cons_zero, List.set_cons_succ]))
    | (refine takeU (i := 5) rfl (by kernel_rfl) (by kernel_rfl) (by kernel_rfl) (fun _ _ _ h => h) (by rfl) (by assumption) ?_; (try simp only [Act.put, List.setIfInBounds_toArray, List.set_cons_zero, List.set_cons_succ]))
  (refine takeW (i := 6) (v := ?_) rfl (by kernel_rfl) (by kernel_rfl) (by kernel_rfl) (fun _ _ _ h => h) (by rfl) (by assumption) ?_ ?_; rotate_left; (intro W hW; (try dsimp only at hW); go_simp; try with_reducible rfl); (try simp only [Act.put, List.setIfInBounds_toArray, List.set_cons_zero, List.set_cons_succ]))
  (refine takeW (i := 7) (v := ?_) rfl (by kernel_rfl) (by kernel_rfl) (by kernel_rfl) (fun _ _ _ h => h) (by rfl) (by assumption) ?_ ?_; rotate_left; (intro W hW; (try dsimp only at hW); go_simp; try with_reducible rfl); (try simp only [Act.put, List.setIfInBounds_toArray, List.set_cons_zero, List.set_cons_succ]))
  first
    | (refine takeW (i := 8) (v := ?_) rfl (by kernel_rfl) (by kernel_rfl) (by kernel_rfl) (fun _ _ _ h => h) (by rfl) (by assumption) ?_ ?_; rotate_left; (intro W hW; (try dsimp only at hW); go_simp; try with_reducible rfl); (try simp only [Act.put, List.setIfInBounds_toArray, List.set_cons_zero, List.set_cons_succ]))
    | (refine takeU (i := 8) rfl (by kernel_rfl) (by kernel_rfl) (by kernel_rfl) (fun _ _ _ h => h) (by rfl) (by assumption) ?_; (try simp only [Act.put, List.setIfInBounds_toArray, List.set_cons_zero, List.set_cons_succ]))
  first
    | (refine takeW (i := 9) (v := ?_) rfl (by kernel_rfl) (by kernel_rfl) (by kernel_rfl) (fun _ _ _ h => h) (by rfl) (by assumption) ?_ ?_; rotate_left; (intro W hW; (try dsimp only at hW); go_simp; try with_reducible rfl); (try simp only [Act.put, List.setIfInBounds_toArray, List.set_cons_zero, List.set_cons_succ]))
    | (refine takeU (i := 9) rfl (by kernel_rfl) (by kernel_rfl) (by kernel_rfl) (fun _ _ _ h => h) (by rfl) (by assumption) ?_; (try simp only [Act.put, List.setIfInBounds_toArray, List.set_cons_zero, List.set_cons_succ]))
  first
    | (refine takeW (i := 10) (v := ?_) rfl (by kernel_rfl) (by kernel_rfl) (by kernel_rfl) (fun _ _ _ h => h) (by rfl) (by assumption) ?_ ?_; rotate_left; (intro W hW; (try dsimp only at hW); go_simp; try with_reducible rfl); (try simp only [Act.put, List.setIfInBounds_toArray, List.set_cons_zero, List.set_cons_succ]))
    | (refine takeU (i := 10) rfl (by kernel_rfl) (by kernel_rfl) (by kernel_rfl) (fun _ _ _ h => h) (by rfl) (by assumption) ?_; (try simp only [Act.put, List.setIfInBounds_toArray, List.set_cons_zero, List.set_cons_succ]))
  (refine takeW (i := 11) (v := ?_) rfl (by kernel_rfl) (by kernel_rfl) (by kernel_rfl) (fun _ _ _ h => h) (by rfl) (by assumption) ?_ ?_; rotate_left; (intro W hW; (try dsimp only at hW); go_simp; try with_reducible rfl); (try simp only [Act.put, List.setIfInBounds_toArray, List.set_cons_zero, List.set_cons_succ]))
  (refine takeW (i := 12) (v := ?_) rfl (by kernel_rfl) (by kernel_rfl) (by kernel_rfl) (fun _ _ _ h => h) (by rfl) (by assumption) ?_ ?_; rotate_left; (intro W hW; (try dsimp only at hW); go_simp; try with_reducible rfl); (try simp only [Act.put, List.setIfInBounds_toArray, List.set_cons_zero, List.set_cons_succ]))
  first
    | (refine takeW (i := 13) (v := ?_) rfl (by kernel_rfl) (by kernel_rfl) (by kernel_rfl) (fun _ _ _ h => h) (by rfl) (by assumption) ?_ ?_; rotate_left; (intro W hW; (try dsimp only at hW); go_simp; try with_reducible rfl); (try simp only [Act.put, List.setIfInBounds_toArray, List.set_cons_zero, List.set_cons_succ]))
    | (refine takeU (i := 13) rfl (by kernel_rfl) (by kernel_rfl) (by kernel_rfl) (fun _ _ _ h => h) (by rfl) (by assumption) ?_; (try simp only [Act.put, List.setIfInBounds_toArray, List.set_cons_zero, List.set_cons_succ]))
  first
    | (refine takeW (i := 14) (v := ?_) rfl (by kernel_rfl) (by kernel_rfl) (by kernel_rfl) (fun _ _ _ h => h) (by rfl) (by assumption) ?_ ?_; rotate_left; (intro W hW; (try dsimp only at hW); go_simp; try with_reducible rfl); (try simp only [Act.put, List.setIfInBounds_toArray, List.set_cons_zero, List.set_cons_succ]))
    | (refine takeU (i := 14) rfl (by kernel_rfl) (by kernel_rfl) (by kernel_rfl) (fun _ _ _ h => h) (by rfl) (by assumption) ?_; (try simp only [Act.put, List.setIfInBounds_toArray, List.set_cons_zero, List.set_cons_succ]))
  first
    | (refine takeW (i := 16) (v := ?_) rfl (by kernel_rfl) (by kernel_rfl) (by kernel_rfl) (fun _ _ _ h => h) (by rfl) (by assumption) ?_ ?_; rotate_left; (intro W hW; (try dsimp only at hW); go_simp; try with_reducible rfl); (try simp only [Act.put, List.setIfInBounds_toArray, List.set_cons_zero, List.set_cons_succ]))
    | (refine takeU (i := 16) rfl (by kernel_rfl) (by kernel_rfl) (by kernel_rfl) (fun _ _ _ h => h) (by rfl) (by assumption) ?_; (try simp only [Act.put, List.setIfInBounds_toArray, List.set_cons_zero, List.set_cons_succ]))
  first
    | (refine takeW (i := 17) (v := ?_) rfl (by kernel_rfl) (by kernel_rfl) (by kernel_rfl) (fun _ _ _ h => h) (by rfl) (by assumption) ?_ ?_; rotate_left; (intro W hW; (try dsimp only at hW); go_simp; try with_reducible rfl); (try simp only [Act.put, List.setIfInBounds_toArray, List.set_cons_zero, List.set_cons_succ]))
    | (refine takeU (i := 17) rfl (by kernel_rfl) (by kernel_rfl) (by kernel_rfl) (fun _ _ _ h => h) (by rfl) (by assumption) ?_; (try simp only [Act.put, List.setIfInBounds_toArray, List.set_cons_zero, List.set_cons_succ]))
  first
    | (refine takeU (i := 15) rfl (by kernel_rfl) (by kernel_rfl) (by kernel_rfl) (fun _ _ _ h => h) (by rfl) (by assumption) ?_; (try simp only [Act.put, List.setIfInBounds_toArray, List.set_cons_zero, List.set_cons_succ]))
    | (refine takeC (i := 15) rfl (by kernel_rfl) (by rfl) (fun K hK => ?_); go_simp; (refine (hck _ (HJ.out.2.2.2.trans (hHeld.2.2.2.2.2.2.2.2.2.2.2.2.2.2.2.2.2.2.mono HJ.out.2.2.2.size))).mono ?_; rintro e W15 ⟨rfl, hb⟩; have hs : W15.cell? ⟨w.heap.size, 0, none⟩ = some (.int .i64 nodes) ∧ W15.cell? ⟨w.heap.size, 1, none⟩ = some (.int .i64 slot) ∧ W15.cell? ⟨w.heap.size, 2, none⟩ = some (.int .i64 gap) ∧ W15.cell? ⟨w.heap.size, 3, none⟩ = some (.int .i64 win) ∧ W15.cell? ⟨w.heap.size, 4, none⟩ = some (.int .i64 drift) ∧ W15.cell? ⟨w.heap.size, 5, none⟩ = some (.int .i64 delay) ∧ W15.cell? ⟨w.heap.size, 6, none⟩ = some (.slice ca cl.length cc) ∧ W15.cell? ⟨w.heap.size, 7, none⟩ = some (.slice ma ml.length mc) ∧ W15.cell? ⟨w.heap.size + 1, 0, none⟩ = some (.int .i64 st) ∧ W15.cell? ⟨w.heap.size + 1, 1, none⟩ = some (.int .i64 sl) ∧ W15.cell? ⟨w.heap.size + 1, 2, none⟩ = some (.slice da dl.length dc) ∧ W15.cell? ⟨w.heap.size + 1 + 1, 0, none⟩ = some (.int .i64 bst) ∧ W15.cell? ⟨w.heap.size + 1 + 1, 1, none⟩ = some (.int .i64 bsl) ∧ W15.cell? ⟨w.heap.size + 1 + 1, 2, none⟩ = some (.slice bda bdl.length bdc) ∧ W15.cell? ⟨b7, 0, none⟩ = some (.int .i64 s0) ∧ W15.cell? ⟨b7, 1, none⟩ = some (.int .i64 s1) ∧ W15.cell? ⟨b9, 0, none⟩ = some (.int .i64 s0) ∧ W15.cell? ⟨b9, 1, none⟩ = some (.int .i64 s1) ∧ Below w3.heap.size w3 W15 := ⟨keepCell hb hHeld.1, keepCell hb hHeld.2.1, keepCell hb hHeld.2.2.1, keepCell hb hHeld.2.2.2.1, keepCell hb hHeld.2.2.2.2.1, keepCell hb hHeld.2.2.2.2.2.1, keepCell hb hHeld.2.2.2.2.2.2.1, keepCell hb hHeld.2.2.2.2.2.2.2.1, keepCell hb hHeld.2.2.2.2.2.2.2.2.1, keepCell hb hHeld.2.2.2.2.2.2.2.2.2.1, keepCell hb hHeld.2.2.2.2.2.2.2.2.2.2.1, keepCell hb hHeld.2.2.2.2.2.2.2.2.2.2.2.1, keepCell hb hHeld.2.2.2.2.2.2.2.2.2.2.2.2.1, keepCell hb hHeld.2.2.2.2.2.2.2.2.2.2.2.2.2.1, keepCell hb hHeld.2.2.2.2.2.2.2.2.2.2.2.2.2.2.1, keepCell hb hHeld.2.2.2.2.2.2.2.2.2.2.2.2.2.2.2.1, keepCell hb hHeld.2.2.2.2.2.2.2.2.2.2.2.2.2.2.2.2.1, keepCell hb hHeld.2.2.2.2.2.2.2.2.2.2.2.2.2.2.2.2.2.1, hHeld.2.2.2.2.2.2.2.2.2.2.2.2.2.2.2.2.2.2.trans (hb.mono hHeld.2.2.2.2.2.2.2.2.2.2.2.2.2.2.2.2.2.2.size)⟩; clear hb); refine hK.out _ _ hs (fun hHeld => ?_); clear hK K; (try simp only [Act.put, List.setIfInBounds_toArray, List.set_cons_zero, List.set_cons_succ]))
  first
    | (refine takeU (i := 18) rfl (by kernel_rfl) (by kernel_rfl) (by kernel_rfl) (fun _ _ _ h => h) (by rfl) (by assumption) ?_; (try simp only [Act.put, List.setIfInBounds_toArray, List.set_cons_zero, List.set_cons_succ]))
    | (refine takeC (i := 18) rfl (by kernel_rfl) (by rfl) (fun K hK => ?_); go_simp; (refine (hrc _ (HJ.out.2.2.2.trans (hHeld.2.2.2.2.2.2.2.2.2.2.2.2.2.2.2.2.2.2.mono HJ.out.2.2.2.size))).mono ?_; rintro e W18 ⟨rfl, hb⟩; have hs : W18.cell? ⟨w.heap.size, 0, none⟩ = some (.int .i64 nodes) ∧ W18.cell? ⟨w.heap.size, 1, none⟩ = some (.int .i64 slot) ∧ W18.cell? ⟨w.heap.size, 2, none⟩ = some (.int .i64 gap) ∧ W18.cell? ⟨w.heap.size, 3, none⟩ = some (.int .i64 win) ∧ W18.cell? ⟨w.heap.size, 4, none⟩ = some (.int .i64 drift) ∧ W18.cell? ⟨w.heap.size, 5, none⟩ = some (.int .i64 delay) ∧ W18.cell? ⟨w.heap.size, 6, none⟩ = some (.slice ca cl.length cc) ∧ W18.cell? ⟨w.heap.size, 7, none⟩ = some (.slice ma ml.length mc) ∧ W18.cell? ⟨w.heap.size + 1, 0, none⟩ = some (.int .i64 st) ∧ W18.cell? ⟨w.heap.size + 1, 1, none⟩ = some (.int .i64 sl) ∧ W18.cell? ⟨w.heap.size + 1, 2, none⟩ = some (.slice da dl.length dc) ∧ W18.cell? ⟨w.heap.size + 1 + 1, 0, none⟩ = some (.int .i64 bst) ∧ W18.cell? ⟨w.heap.size + 1 + 1, 1, none⟩ = some (.int .i64 bsl) ∧ W18.cell? ⟨w.heap.size + 1 + 1, 2, none⟩ = some (.slice bda bdl.length bdc) ∧ W18.cell? ⟨b7, 0, none⟩ = some (.int .i64 s0) ∧ W18.cell? ⟨b7, 1, none⟩ = some (.int .i64 s1) ∧ W18.cell? ⟨b9, 0, none⟩ = some (.int .i64 s0) ∧ W18.cell? ⟨b9, 1, none⟩ = some (.int .i64 s1) ∧ Below w3.heap.size w3 W18 := ⟨keepCell hb hHeld.1, keepCell hb hHeld.2.1, keepCell hb hHeld.2.2.1, keepCell hb hHeld.2.2.2.1, keepCell hb hHeld.2.2.2.2.1, keepCell hb hHeld.2.2.2.2.2.1, keepCell hb hHeld.2.2.2.2.2.2.1, keepCell hb hHeld.2.2.2.2.2.2.2.1, keepCell hb hHeld.2.2.2.2.2.2.2.2.1, keepCell hb hHeld.2.2.2.2.2.2.2.2.2.1, keepCell hb hHeld.2.2.2.2.2.2.2.2.2.2.1, keepCell hb hHeld.2.2.2.2.2.2.2.2.2.2.2.1, keepCell hb hHeld.2.2.2.2.2.2.2.2.2.2.2.2.1, keepCell hb hHeld.2.2.2.2.2.2.2.2.2.2.2.2.2.1, keepCell hb hHeld.2.2.2.2.2.2.2.2.2.2.2.2.2.2.1, keepCell hb hHeld.2.2.2.2.2.2.2.2.2.2.2.2.2.2.2.1, keepCell hb hHeld.2.2.2.2.2.2.2.2.2.2.2.2.2.2.2.2.1, keepCell hb hHeld.2.2.2.2.2.2.2.2.2.2.2.2.2.2.2.2.2.1, hHeld.2.2.2.2.2.2.2.2.2.2.2.2.2.2.2.2.2.2.trans (hb.mono hHeld.2.2.2.2.2.2.2.2.2.2.2.2.2.2.2.2.2.2.size)⟩; clear hb); refine hK.out _ _ hs (fun hHeld => ?_); clear hK K; (try simp only [Act.put, List.setIfInBounds_toArray, List.set_cons_zero, List.set_cons_succ]))
  first
    | (refine takeW (i := 19) (v := ?_) rfl (by kernel_rfl) (by kernel_rfl) (by kernel_rfl) (fun _ _ _ h => h) (by rfl) (by assumption) ?_ ?_; rotate_left; (intro W hW; (try dsimp only at hW); go_simp; try with_reducible rfl); (try simp only [Act.put, List.setIfInBounds_toArray, List.set_cons_zero, List.set_cons_succ]))
    | (refine takeU (i := 19) rfl (by kernel_rfl) (by kernel_rfl) (by kernel_rfl) (fun _ _ _ h => h) (by rfl) (by assumption) ?_; (try simp only [Act.put, List.setIfInBounds_toArray, List.set_cons_zero, List.set_cons_succ]))
  (refine takeW (i := 20) (v := ?_) rfl (by kernel_rfl) (by kernel_rfl) (by kernel_rfl) (fun _ _ _ h => h) (by rfl) (by assumption) ?_ ?_; rotate_left; (intro W hW; (try dsimp only at hW); go_simp; try with_reducible rfl); (try simp only [Act.put, List.setIfInBounds_toArray, List.set_cons_zero, List.set_cons_succ]))
  (refine takeW (i := 21) (v := ?_) rfl (by kernel_rfl) (by kernel_rfl) (by kernel_rfl) (fun _ _ _ h => h) (by rfl) (by assumption) ?_ ?_; rotate_left; (intro W hW; (try dsimp only at hW); go_simp; try with_reducible rfl); (try simp only [Act.put, List.setIfInBounds_toArray, List.set_cons_zero, List.set_cons_succ]))
  first
    | (refine takeW (i := 22) (v := ?_) rfl (by kernel_rfl) (by kernel_rfl) (by kernel_rfl) (fun _ _ _ h => h) (by rfl) (by assumption) ?_ ?_; rotate_left; (intro W hW; (try dsimp only at hW); go_simp; try with_reducible rfl); (try simp only [Act.put, List.setIfInBounds_toArray, List.set_cons_zero, List.set_cons_succ]))
    | (refine takeU (i := 22) rfl (by kernel_rfl) (by kernel_rfl) (by kernel_rfl) (fun _ _ _ h => h) (by rfl) (by assumption) ?_; (try simp only [Act.put, List.setIfInBounds_toArray, List.set_cons_zero, List.set_cons_succ]))
  first
    | (refine takeW (i := 23) (v := ?_) rfl (by kernel_rfl) (by kernel_rfl) (by kernel_rfl) (fun _ _ _ h => h) (by rfl) (by assumption) ?_ ?_; rotate_left; (intro W hW; (try dsimp only at hW); go_simp; try with_reducible rfl); (try simp only [Act.put, List.setIfInBounds_toArray, List.set_cons_zero, List.set_cons_succ]))
    | (refine takeU (i := 23) rfl (by kernel_rfl) (by kernel_rfl) (by kernel_rfl) (fun _ _ _ h => h) (by rfl) (by assumption) ?_; (try simp only [Act.put, List.setIfInBounds_toArray, List.set_cons_zero, List.set_cons_succ]))
  first
    | (refine takeW (i := 25) (v := ?_) rfl (by kernel_rfl) (by kernel_rfl) (by kernel_rfl) (fun _ _ _ h => h) (by rfl) (by assumption) ?_ ?_; rotate_left; (intro W hW; (try dsimp only at hW); go_simp; try with_reducible rfl); (try simp only [Act.put, List.setIfInBounds_toArray, List.set_cons_zero, List.set_cons_succ]))
    | (refine takeU (i := 25) rfl (by kernel_rfl) (by kernel_rfl) (by kernel_rfl) (fun _ _ _ h => h) (by rfl) (by assumption) ?_; (try simp only [Act.put, List.setIfInBounds_toArray, List.set_cons_zero, List.set_cons_succ]))
  first
    | (refine takeW (i := 26) (v := ?_) rfl (by kernel_rfl) (by kernel_rfl) (by kernel_rfl) (fun _ _ _ h => h) (by rfl) (by assumption) ?_ ?_; rotate_left; (intro W hW; (try dsimp only at hW); go_simp; try with_reducible rfl); (try simp only [Act.put, List.setIfInBounds_toArray, List.set_cons_zero, List.set_cons_succ]))
    | (refine takeU (i := 26) rfl (by kernel_rfl) (by kernel_rfl) (by kernel_rfl) (fun _ _ _ h => h) (by rfl) (by assumption) ?_; (try simp only [Act.put, List.setIfInBounds_toArray, List.set_cons_zero, List.set_cons_succ]))
  first
    | (refine takeU (i := 24) rfl (by kernel_rfl) (by kernel_rfl) (by kernel_rfl) (fun _ _ _ h => h) (by rfl) (by assumption) ?_; (try simp only [Act.put, List.setIfInBounds_toArray, List.set_cons_zero, List.set_cons_succ]))
    | (refine takeC (i := 24) rfl (by kernel_rfl) (by rfl) (fun K hK => ?_); go_simp; (refine (hsa _ (HJ.out.2.2.2.trans (hHeld.2.2.2.2.2.2.2.2.2.2.2.2.2.2.2.2.2.2.mono HJ.out.2.2.2.size))).mono ?_; rintro e W24 ⟨rfl, hb⟩; have hs : W24.cell? ⟨w.heap.size, 0, none⟩ = some (.int .i64 nodes) ∧ W24.cell? ⟨w.heap.size, 1, none⟩ = some (.int .i64 slot) ∧ W24.cell? ⟨w.heap.size, 2, none⟩ = some (.int .i64 gap) ∧ W24.cell? ⟨w.heap.size, 3, none⟩ = some (.int .i64 win) ∧ W24.cell? ⟨w.heap.size, 4, none⟩ = some (.int .i64 drift) ∧ W24.cell? ⟨w.heap.size, 5, none⟩ = some (.int .i64 delay) ∧ W24.cell? ⟨w.heap.size, 6, none⟩ = some (.slice ca cl.length cc) ∧ W24.cell? ⟨w.heap.size, 7, none⟩ = some (.slice ma ml.length mc) ∧ W24.cell? ⟨w.heap.size + 1, 0, none⟩ = some (.int .i64 st) ∧ W24.cell? ⟨w.heap.size + 1, 1, none⟩ = some (.int .i64 sl) ∧ W24.cell? ⟨w.heap.size + 1, 2, none⟩ = some (.slice da dl.length dc) ∧ W24.cell? ⟨w.heap.size + 1 + 1, 0, none⟩ = some (.int .i64 bst) ∧ W24.cell? ⟨w.heap.size + 1 + 1, 1, none⟩ = some (.int .i64 bsl) ∧ W24.cell? ⟨w.heap.size + 1 + 1, 2, none⟩ = some (.slice bda bdl.length bdc) ∧ W24.cell? ⟨b7, 0, none⟩ = some (.int .i64 s0) ∧ W24.cell? ⟨b7, 1, none⟩ = some (.int .i64 s1) ∧ W24.cell? ⟨b9, 0, none⟩ = some (.int .i64 s0) ∧ W24.cell? ⟨b9, 1, none⟩ = some (.int .i64 s1) ∧ Below w3.heap.size w3 W24 := ⟨keepCell hb hHeld.1, keepCell hb hHeld.2.1, keepCell hb hHeld.2.2.1, keepCell hb hHeld.2.2.2.1, keepCell hb hHeld.2.2.2.2.1, keepCell hb hHeld.2.2.2.2.2.1, keepCell hb hHeld.2.2.2.2.2.2.1, keepCell hb hHeld.2.2.2.2.2.2.2.1, keepCell hb hHeld.2.2.2.2.2.2.2.2.1, keepCell hb hHeld.2.2.2.2.2.2.2.2.2.1, keepCell hb hHeld.2.2.2.2.2.2.2.2.2.2.1, keepCell hb hHeld.2.2.2.2.2.2.2.2.2.2.2.1, keepCell hb hHeld.2.2.2.2.2.2.2.2.2.2.2.2.1, keepCell hb hHeld.2.2.2.2.2.2.2.2.2.2.2.2.2.1, keepCell hb hHeld.2.2.2.2.2.2.2.2.2.2.2.2.2.2.1, keepCell hb hHeld.2.2.2.2.2.2.2.2.2.2.2.2.2.2.2.1, keepCell hb hHeld.2.2.2.2.2.2.2.2.2.2.2.2.2.2.2.2.1, keepCell hb hHeld.2.2.2.2.2.2.2.2.2.2.2.2.2.2.2.2.2.1, hHeld.2.2.2.2.2.2.2.2.2.2.2.2.2.2.2.2.2.2.trans (hb.mono hHeld.2.2.2.2.2.2.2.2.2.2.2.2.2.2.2.2.2.2.size)⟩; clear hb); refine hK.out _ _ hs (fun hHeld => ?_); clear hK K; (try simp only [Act.put, List.setIfInBounds_toArray, List.set_cons_zero, List.set_cons_succ]))
  first
    | (refine takeU (i := 27) rfl (by kernel_rfl) (by kernel_rfl) (by kernel_rfl) (fun _ _ _ h => h) (by rfl) (by assumption) ?_; (try simp only [Act.put, List.setIfInBounds_toArray, List.set_cons_zero, List.set_cons_succ]))
    | (refine takeC (i := 27) rfl (by kernel_rfl) (by rfl) (fun K hK => ?_); go_simp; (refine (hrs _ (HJ.out.2.2.2.trans (hHeld.2.2.2.2.2.2.2.2.2.2.2.2.2.2.2.2.2.2.mono HJ.out.2.2.2.size))).mono ?_; rintro e W27 ⟨rfl, hb⟩; have hs : W27.cell? ⟨w.heap.size, 0, none⟩ = some (.int .i64 nodes) ∧ W27.cell? ⟨w.heap.size, 1, none⟩ = some (.int .i64 slot) ∧ W27.cell? ⟨w.heap.size, 2, none⟩ = some (.int .i64 gap) ∧ W27.cell? ⟨w.heap.size, 3, none⟩ = some (.int .i64 win) ∧ W27.cell? ⟨w.heap.size, 4, none⟩ = some (.int .i64 drift) ∧ W27.cell? ⟨w.heap.size, 5, none⟩ = some (.int .i64 delay) ∧ W27.cell? ⟨w.heap.size, 6, none⟩ = some (.slice ca cl.length cc) ∧ W27.cell? ⟨w.heap.size, 7, none⟩ = some (.slice ma ml.length mc) ∧ W27.cell? ⟨w.heap.size + 1, 0, none⟩ = some (.int .i64 st) ∧ W27.cell? ⟨w.heap.size + 1, 1, none⟩ = some (.int .i64 sl) ∧ W27.cell? ⟨w.heap.size + 1, 2, none⟩ = some (.slice da dl.length dc) ∧ W27.cell? ⟨w.heap.size + 1 + 1, 0, none⟩ = some (.int .i64 bst) ∧ W27.cell? ⟨w.heap.size + 1 + 1, 1, none⟩ = some (.int .i64 bsl) ∧ W27.cell? ⟨w.heap.size + 1 + 1, 2, none⟩ = some (.slice bda bdl.length bdc) ∧ W27.cell? ⟨b7, 0, none⟩ = some (.int .i64 s0) ∧ W27.cell? ⟨b7, 1, none⟩ = some (.int .i64 s1) ∧ W27.cell? ⟨b9, 0, none⟩ = some (.int .i64 s0) ∧ W27.cell? ⟨b9, 1, none⟩ = some (.int .i64 s1) ∧ Below w3.heap.size w3 W27 := ⟨keepCell hb hHeld.1, keepCell hb hHeld.2.1, keepCell hb hHeld.2.2.1, keepCell hb hHeld.2.2.2.1, keepCell hb hHeld.2.2.2.2.1, keepCell hb hHeld.2.2.2.2.2.1, keepCell hb hHeld.2.2.2.2.2.2.1, keepCell hb hHeld.2.2.2.2.2.2.2.1, keepCell hb hHeld.2.2.2.2.2.2.2.2.1, keepCell hb hHeld.2.2.2.2.2.2.2.2.2.1, keepCell hb hHeld.2.2.2.2.2.2.2.2.2.2.1, keepCell hb hHeld.2.2.2.2.2.2.2.2.2.2.2.1, keepCell hb hHeld.2.2.2.2.2.2.2.2.2.2.2.2.1, keepCell hb hHeld.2.2.2.2.2.2.2.2.2.2.2.2.2.1, keepCell hb hHeld.2.2.2.2.2.2.2.2.2.2.2.2.2.2.1, keepCell hb hHeld.2.2.2.2.2.2.2.2.2.2.2.2.2.2.2.1, keepCell hb hHeld.2.2.2.2.2.2.2.2.2.2.2.2.2.2.2.2.1, keepCell hb hHeld.2.2.2.2.2.2.2.2.2.2.2.2.2.2.2.2.2.1, hHeld.2.2.2.2.2.2.2.2.2.2.2.2.2.2.2.2.2.2.trans (hb.mono hHeld.2.2.2.2.2.2.2.2.2.2.2.2.2.2.2.2.2.2.size)⟩; clear hb); refine hK.out _ _ hs (fun hHeld => ?_); clear hK K; (try simp only [Act.put, List.setIfInBounds_toArray, List.set_cons_zero, List.set_cons_succ]))
  first
    | (refine takeW (i := 28) (v := ?_) rfl (by kernel_rfl) (by kernel_rfl) (by kernel_rfl) (fun _ _ _ h => h) (by rfl) (by assumption) ?_ ?_; rotate_left; (intro W hW; (try dsimp only at hW); go_simp; try with_reducible rfl); (try simp only [Act.put, List.setIfInBounds_toArray, List.set_cons_zero, List.set_cons_succ]))
    | (refine takeU (i := 28) rfl (by kernel_rfl) (by kernel_rfl) (by kernel_rfl) (fun _ _ _ h => h) (by rfl) (by assumption) ?_; (try simp only [Act.put, List.setIfInBounds_toArray, List.set_cons_zero, List.set_cons_succ]))
  (refine takeW (i := 29) (v := ?_) rfl (by kernel_rfl) (by kernel_rfl) (by kernel_rfl) (fun _ _ _ h => h) (by rfl) (by assumption) ?_ ?_; rotate_left; (intro W hW; (try dsimp only at hW); go_simp; try with_reducible rfl); (try simp only [Act.put, List.setIfInBounds_toArray, List.set_cons_zero, List.set_cons_succ]))
  (refine takeW (i := 30) (v := ?_) rfl (by kernel_rfl) (by kernel_rfl) (by kernel_rfl) (fun _ _ _ h => h) (by rfl) (by assumption) ?_ ?_; rotate_left; (intro W hW; (try dsimp only at hW); go_simp; try with_reducible rfl); (try simp only [Act.put, List.setIfInBounds_toArray, List.set_cons_zero, List.set_cons_succ]))
  first
    | (refine takeW (i := 31) (v := ?_) rfl (by kernel_rfl) (by kernel_rfl) (by kernel_rfl) (fun _ _ _ h => h) (by rfl) (by assumption) ?_ ?_; rotate_left; (intro W hW; (try dsimp only at hW); go_simp; try with_reducible rfl); (try simp only [Act.put, List.setIfInBounds_toArray, List.set_cons_zero, List.set_cons_succ]))
    | (refine takeU (i := 31) rfl (by kernel_rfl) (by kernel_rfl) (by kernel_rfl) (fun _ _ _ h => h) (by rfl) (by assumption) ?_; (try simp only [Act.put, List.setIfInBounds_toArray, List.set_cons_zero, List.set_cons_succ]))
  first
    | (refine takeW (i := 32) (v := ?_) rfl (by kernel_rfl) (by kernel_rfl) (by kernel_rfl) (fun _ _ _ h => h) (by rfl) (by assumption) ?_ ?_; rotate_left; (intro W hW; (try dsimp only at hW); go_simp; try with_reducible rfl); (try simp only [Act.put, List.setIfInBounds_toArray, List.set_cons_zero, List.set_cons_succ]))
    | (refine takeU (i := 32) rfl (by kernel_rfl) (by kernel_rfl) (by kernel_rfl) (fun _ _ _ h => h) (by rfl) (by assumption) ?_; (try simp only [Act.put, List.setIfInBounds_toArray, List.set_cons_zero, List.set_cons_succ]))
  first
    | (refine takeU (i := 33) rfl (by kernel_rfl) (by kernel_rfl) (by kernel_rfl) (fun _ _ _ h => h) (by rfl) (by assumption) ?_; (try simp only [Act.put, List.setIfInBounds_toArray, List.set_cons_zero, List.set_cons_succ]))
    | (refine takeC (i := 33) rfl (by kernel_rfl) (by rfl) (fun K hK => ?_); go_simp; (refine (hsc _ (HJ.out.2.2.2.trans (hHeld.2.2.2.2.2.2.2.2.2.2.2.2.2.2.2.2.2.2.mono HJ.out.2.2.2.size))).mono ?_; rintro e W33 ⟨rfl, hb⟩; have hs : W33.cell? ⟨w.heap.size, 0, none⟩ = some (.int .i64 nodes) ∧ W33.cell? ⟨w.heap.size, 1, none⟩ = some (.int .i64 slot) ∧ W33.cell? ⟨w.heap.size, 2, none⟩ = some (.int .i64 gap) ∧ W33.cell? ⟨w.heap.size, 3, none⟩ = some (.int .i64 win) ∧ W33.cell? ⟨w.heap.size, 4, none⟩ = some (.int .i64 drift) ∧ W33.cell? ⟨w.heap.size, 5, none⟩ = some (.int .i64 delay) ∧ W33.cell? ⟨w.heap.size, 6, none⟩ = some (.slice ca cl.length cc) ∧ W33.cell? ⟨w.heap.size, 7, none⟩ = some (.slice ma ml.length mc) ∧ W33.cell? ⟨w.heap.size + 1, 0, none⟩ = some (.int .i64 st) ∧ W33.cell? ⟨w.heap.size + 1, 1, none⟩ = some (.int .i64 sl) ∧ W33.cell? ⟨w.heap.size + 1, 2, none⟩ = some (.slice da dl.length dc) ∧ W33.cell? ⟨w.heap.size + 1 + 1, 0, none⟩ = some (.int .i64 bst) ∧ W33.cell? ⟨w.heap.size + 1 + 1, 1, none⟩ = some (.int .i64 bsl) ∧ W33.cell? ⟨w.heap.size + 1 + 1, 2, none⟩ = some (.slice bda bdl.length bdc) ∧ W33.cell? ⟨b7, 0, none⟩ = some (.int .i64 s0) ∧ W33.cell? ⟨b7, 1, none⟩ = some (.int .i64 s1) ∧ W33.cell? ⟨b9, 0, none⟩ = some (.int .i64 s0) ∧ W33.cell? ⟨b9, 1, none⟩ = some (.int .i64 s1) ∧ Below w3.heap.size w3 W33 := ⟨keepCell hb hHeld.1, keepCell hb hHeld.2.1, keepCell hb hHeld.2.2.1, keepCell hb hHeld.2.2.2.1, keepCell hb hHeld.2.2.2.2.1, keepCell hb hHeld.2.2.2.2.2.1, keepCell hb hHeld.2.2.2.2.2.2.1, keepCell hb hHeld.2.2.2.2.2.2.2.1, keepCell hb hHeld.2.2.2.2.2.2.2.2.1, keepCell hb hHeld.2.2.2.2.2.2.2.2.2.1, keepCell hb hHeld.2.2.2.2.2.2.2.2.2.2.1, keepCell hb hHeld.2.2.2.2.2.2.2.2.2.2.2.1, keepCell hb hHeld.2.2.2.2.2.2.2.2.2.2.2.2.1, keepCell hb hHeld.2.2.2.2.2.2.2.2.2.2.2.2.2.1, keepCell hb hHeld.2.2.2.2.2.2.2.2.2.2.2.2.2.2.1, keepCell hb hHeld.2.2.2.2.2.2.2.2.2.2.2.2.2.2.2.1, keepCell hb hHeld.2.2.2.2.2.2.2.2.2.2.2.2.2.2.2.2.1, keepCell hb hHeld.2.2.2.2.2.2.2.2.2.2.2.2.2.2.2.2.2.1, hHeld.2.2.2.2.2.2.2.2.2.2.2.2.2.2.2.2.2.2.trans (hb.mono hHeld.2.2.2.2.2.2.2.2.2.2.2.2.2.2.2.2.2.2.size)⟩; clear hb); refine hK.out _ _ hs (fun hHeld => ?_); clear hK K; (try simp only [Act.put, List.setIfInBounds_toArray, List.set_cons_zero, List.set_cons_succ]))
  first
    | (refine takeW (i := 34) (v := ?_) rfl (by kernel_rfl) (by kernel_rfl) (by kernel_rfl) (fun _ _ _ h => h) (by rfl) (by assumption) ?_ ?_; rotate_left; (intro W hW; (try dsimp only at hW); go_simp; try with_reducible rfl); (try simp only [Act.put, List.setIfInBounds_toArray, List.set_cons_zero, List.set_cons_succ]))
    | (refine takeU (i := 34) rfl (by kernel_rfl) (by kernel_rfl) (by kernel_rfl) (fun _ _ _ h => h) (by rfl) (by assumption) ?_; (try simp only [Act.put, List.setIfInBounds_toArray, List.set_cons_zero, List.set_cons_succ]))
  (refine takeW (i := 35) (v := ?_) rfl (by kernel_rfl) (by kernel_rfl) (by kernel_rfl) (fun _ _ _ h => h) (by rfl) (by assumption) ?_ ?_; rotate_left; (intro W hW; (try dsimp only at hW); go_simp; try with_reducible rfl); (try simp only [Act.put, List.setIfInBounds_toArray, List.set_cons_zero, List.set_cons_succ]))
  refine wpAnyH_done (by kernel_rfl) ?_ _
  skip
  have hbz := hHeld.2.2.2.2.2.2.2.2.2.2.2.2.2.2.2.2.2.2
  replace HJ := Lib.hid (three_boxes HJ.out hbz)
  replace HX := Lib.hid (HX.out.keep hbz)
  replace HY := Lib.hid (HY.out.keep hbz)
  clear hHeld hbz hesp hnsp hsbe H1 hck hrc hsa hrs hsc
  obtain ⟨m0, m1, m2, m3, m4, m5, m6, m7⟩ := HJ.out.1.eight; obtain ⟨c0, c1, c2⟩ := HJ.out.2.1.three; obtain ⟨d0, d1, d2⟩ := HJ.out.2.2.1.three; have hz0 := HJ.out.1.lt; have hz1 := HJ.out.2.1.lt; have hz2 := HJ.out.2.2.1.lt
  obtain ⟨e0, e1⟩ := HX.out.two
  have fx0 := HX.out.frozen 0
  have fx1 := HX.out.frozen 1
  go_wp2_with fail
  refine (hwi _ HJ.out.2.2.2).mono ?_
  rintro e w5 ⟨rfl, hb⟩
  clear m0 m1 m2 m3 m4 m5 m6 m7 c0 c1 c2 d0 d1 d2 hz0 hz1 hz2
  clear e0 e1 fx0 fx1
  replace HJ := Lib.hid (three_boxes HJ.out hb)
  replace HX := Lib.hid (HX.out.keep hb)
  replace HY := Lib.hid (HY.out.keep hb)
  clear hb hwi
  obtain ⟨m0, m1, m2, m3, m4, m5, m6, m7⟩ := HJ.out.1.eight; obtain ⟨c0, c1, c2⟩ := HJ.out.2.1.three; obtain ⟨d0, d1, d2⟩ := HJ.out.2.2.1.three; have hz0 := HJ.out.1.lt; have hz1 := HJ.out.2.1.lt; have hz2 := HJ.out.2.2.1.lt
  obtain ⟨e0, e1⟩ := HX.out.two
  have fx0 := HX.out.frozen 0
  have fx1 := HX.out.frozen 1
  go_upto_region 6 with fail
  clear m0 m1 m2 m3 m4 m5 m6 m7 c0 c1 c2 d0 d1 d2 hz0 hz1 hz2
  clear e0 e1 fx0 fx1
  have HJ2 : Hid (Blk ((w5.setCell ⟨b7, 0, none⟩ (.int .i64 x0)).setCell ⟨b7, 1, none⟩ (.int .i64 x1)) w.heap.size 25 #[.int .i64 nodes, .int .i64 slot, .int .i64 gap, .int .i64 win, .int .i64 drift, .int .i64 delay, .slice ca cl.length cc, .slice ma ml.length mc] ∧ Blk ((w5.setCell ⟨b7, 0, none⟩ (.int .i64 x0)).setCell ⟨b7, 1, none⟩ (.int .i64 x1)) (w.heap.size + 1) 28 #[.int .i64 st, .int .i64 sl, .slice da dl.length dc] ∧ Blk ((w5.setCell ⟨b7, 0, none⟩ (.int .i64 x0)).setCell ⟨b7, 1, none⟩ (.int .i64 x1)) (w.heap.size + 1 + 1) 28 #[.int .i64 bst, .int .i64 bsl, .slice bda bdl.length bdc] ∧ Below w.heap.size w ((w5.setCell ⟨b7, 0, none⟩ (.int .i64 x0)).setCell ⟨b7, 1, none⟩ (.int .i64 x1))) := ⟨((HJ.out.1.far (by simp; omega) _).far (by simp; omega) _), ((HJ.out.2.1.far (by simp; omega) _).far (by simp; omega) _), ((HJ.out.2.2.1.far (by simp; omega) _).far (by simp; omega) _), (HJ.out.2.2.2.setCell (by simp; omega) _).setCell (by simp; omega) _⟩
  have HX2 : Hid (Blk ((w5.setCell ⟨b7, 0, none⟩ (.int .i64 x0)).setCell ⟨b7, 1, none⟩ (.int .i64 x1)) b7 37 #[.int .i64 x0, .int .i64 x1]) := by show Blk _ _ _ _; simpa using (HX.out.set 0 (.int .i64 x0)).set 1 (.int .i64 x1)
  have HY2 := Lib.hid (((HY.out.far (p := ⟨b7, 0, none⟩) (by simp; omega) (.int .i64 x0)).far (p := ⟨b7, 1, none⟩) (by simp; omega) (.int .i64 x1)))
  clear HJ HX HY
  have HJ := HJ2
  have HX := HX2
  have HY := HY2
  clear HJ2 HX2 HY2
  generalize ((w5.setCell ⟨b7, 0, none⟩ (.int .i64 x0)).setCell ⟨b7, 1, none⟩ (.int .i64 x1)) = w5z at *
  obtain ⟨m0, m1, m2, m3, m4, m5, m6, m7⟩ := HJ.out.1.eight; obtain ⟨c0, c1, c2⟩ := HJ.out.2.1.three; obtain ⟨d0, d1, d2⟩ := HJ.out.2.2.1.three; have hz0 := HJ.out.1.lt; have hz1 := HJ.out.2.1.lt; have hz2 := HJ.out.2.2.1.lt
  obtain ⟨e0, e1⟩ := HY.out.two
  have fx0 := HY.out.frozen 0
  have fx1 := HY.out.frozen 1
  go_wp2_with fail
  refine (hrw _ HJ.out.2.2.2).mono ?_
  rintro e w6 ⟨rfl, hb⟩
  clear m0 m1 m2 m3 m4 m5 m6 m7 c0 c1 c2 d0 d1 d2 hz0 hz1 hz2
  clear e0 e1 fx0 fx1
  replace HJ := Lib.hid (three_boxes HJ.out hb)
  replace HX := Lib.hid (HX.out.keep hb)
  replace HY := Lib.hid (HY.out.keep hb)
  clear hb hrw
  obtain ⟨m0, m1, m2, m3, m4, m5, m6, m7⟩ := HJ.out.1.eight; obtain ⟨c0, c1, c2⟩ := HJ.out.2.1.three; obtain ⟨d0, d1, d2⟩ := HJ.out.2.2.1.three; have hz0 := HJ.out.1.lt; have hz1 := HJ.out.2.1.lt; have hz2 := HJ.out.2.2.1.lt
  obtain ⟨e0, e1⟩ := HY.out.two
  have fx0 := HY.out.frozen 0
  have fx1 := HY.out.frozen 1
  go_upto_region 7 with fail
  clear m0 m1 m2 m3 m4 m5 m6 m7 c0 c1 c2 d0 d1 d2 hz0 hz1 hz2
  clear e0 e1 fx0 fx1
  have HJ2 : Hid (Blk ((w6.setCell ⟨b9, 0, none⟩ (.int .i64 x0)).setCell ⟨b9, 1, none⟩ (.int .i64 x1)) w.heap.size 25 #[.int .i64 nodes, .int .i64 slot, .int .i64 gap, .int .i64 win, .int .i64 drift, .int .i64 delay, .slice ca cl.length cc, .slice ma ml.length mc] ∧ Blk ((w6.setCell ⟨b9, 0, none⟩ (.int .i64 x0)).setCell ⟨b9, 1, none⟩ (.int .i64 x1)) (w.heap.size + 1) 28 #[.int .i64 st, .int .i64 sl, .slice da dl.length dc] ∧ Blk ((w6.setCell ⟨b9, 0, none⟩ (.int .i64 x0)).setCell ⟨b9, 1, none⟩ (.int .i64 x1)) (w.heap.size + 1 + 1) 28 #[.int .i64 bst, .int .i64 bsl, .slice bda bdl.length bdc] ∧ Below w.heap.size w ((w6.setCell ⟨b9, 0, none⟩ (.int .i64 x0)).setCell ⟨b9, 1, none⟩ (.int .i64 x1))) := ⟨((HJ.out.1.far (by simp; omega) _).far (by simp; omega) _), ((HJ.out.2.1.far (by simp; omega) _).far (by simp; omega) _), ((HJ.out.2.2.1.far (by simp; omega) _).far (by simp; omega) _), (HJ.out.2.2.2.setCell (by simp; omega) _).setCell (by simp; omega) _⟩
  have HX2 : Hid (Blk ((w6.setCell ⟨b9, 0, none⟩ (.int .i64 x0)).setCell ⟨b9, 1, none⟩ (.int .i64 x1)) b9 37 #[.int .i64 x0, .int .i64 x1]) := by show Blk _ _ _ _; simpa using (HY.out.set 0 (.int .i64 x0)).set 1 (.int .i64 x1)
  have HY2 := Lib.hid (((HX.out.far (p := ⟨b9, 0, none⟩) (by simp; omega) (.int .i64 x0)).far (p := ⟨b9, 1, none⟩) (by simp; omega) (.int .i64 x1)))
  clear HJ HX HY
  have HJ := HJ2
  have HY := HX2
  have HX := HY2
  clear HJ2 HX2 HY2
  generalize ((w6.setCell ⟨b9, 0, none⟩ (.int .i64 x0)).setCell ⟨b9, 1, none⟩ (.int .i64 x1)) = w6z at *
  obtain ⟨m0, m1, m2, m3, m4, m5, m6, m7⟩ := HJ.out.1.eight; obtain ⟨c0, c1, c2⟩ := HJ.out.2.1.three; obtain ⟨d0, d1, d2⟩ := HJ.out.2.2.1.three; have hz0 := HJ.out.1.lt; have hz1 := HJ.out.2.1.lt; have hz2 := HJ.out.2.2.1.lt
  go_wp2_with fail
  refine (hse _ HJ.out.2.2.2).mono ?_
  rintro e w7 ⟨rfl, hb⟩
  clear m0 m1 m2 m3 m4 m5 m6 m7 c0 c1 c2 d0 d1 d2 hz0 hz1 hz2
  replace HJ := Lib.hid (three_boxes HJ.out hb)
  replace HX := Lib.hid (HX.out.keep hb)
  replace HY := Lib.hid (HY.out.keep hb)
  clear hb hse
  obtain ⟨m0, m1, m2, m3, m4, m5, m6, m7⟩ := HJ.out.1.eight; obtain ⟨c0, c1, c2⟩ := HJ.out.2.1.three; obtain ⟨d0, d1, d2⟩ := HJ.out.2.2.1.three; have hz0 := HJ.out.1.lt; have hz1 := HJ.out.2.1.lt; have hz2 := HJ.out.2.2.1.lt
  go_wp2_with fail
  refine (hre _ HJ.out.2.2.2).mono ?_
  rintro e w8 ⟨rfl, hb⟩
  clear m0 m1 m2 m3 m4 m5 m6 m7 c0 c1 c2 d0 d1 d2 hz0 hz1 hz2
  replace HJ := Lib.hid (three_boxes HJ.out hb)
  replace HX := Lib.hid (HX.out.keep hb)
  replace HY := Lib.hid (HY.out.keep hb)
  clear hb hre
  obtain ⟨m0, m1, m2, m3, m4, m5, m6, m7⟩ := HJ.out.1.eight; obtain ⟨c0, c1, c2⟩ := HJ.out.2.1.three; obtain ⟨d0, d1, d2⟩ := HJ.out.2.2.1.three; have hz0 := HJ.out.1.lt; have hz1 := HJ.out.2.1.lt; have hz2 := HJ.out.2.2.1.lt
  go_wp2_with fail
  refine (hco _ HJ.out.2.2.2).mono ?_
  rintro e w9 ⟨rfl, hb⟩
  clear m0 m1 m2 m3 m4 m5 m6 m7 c0 c1 c2 d0 d1 d2 hz0 hz1 hz2
  replace HJ := Lib.hid (three_boxes HJ.out hb)
  replace HX := Lib.hid (HX.out.keep hb)
  replace HY := Lib.hid (HY.out.keep hb)
  clear hb hco
  obtain ⟨m0, m1, m2, m3, m4, m5, m6, m7⟩ := HJ.out.1.eight; obtain ⟨c0, c1, c2⟩ := HJ.out.2.1.three; obtain ⟨d0, d1, d2⟩ := HJ.out.2.2.1.three; have hz0 := HJ.out.1.lt; have hz1 := HJ.out.2.1.lt; have hz2 := HJ.out.2.2.1.lt
  go_wp2_with fail
  refine (hrr _ HJ.out.2.2.2).mono ?_
  rintro e w10 ⟨rfl, hb⟩
  clear m0 m1 m2 m3 m4 m5 m6 m7 c0 c1 c2 d0 d1 d2 hz0 hz1 hz2
  replace HJ := Lib.hid (three_boxes HJ.out hb)
  replace HX := Lib.hid (HX.out.keep hb)
  replace HY := Lib.hid (HY.out.keep hb)
  clear hb hrr
  obtain ⟨e0, e1⟩ := HX.out.two
  obtain ⟨g0, g1⟩ := HY.out.two
  have hesp := eqSp x0 x1 x0 x1
  go_wp2
  go_ret
  exact ⟨rfl, HJ.out.2.2.2⟩
end Go.Proofs.Ytimcljlbjnhpnaa
