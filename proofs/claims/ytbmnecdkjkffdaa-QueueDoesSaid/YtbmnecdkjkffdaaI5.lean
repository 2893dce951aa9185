/- QueueDoes: each answer of a queue is the document's. -/
import Derived.Test.YtbmnecdkjkffdaaI4
import Derived.Test.YtbmnecdkjkffdaaE14
namespace Go.Proofs.Ytbmnecdkjkffdaa
open Go.RowKit Go.Shelf

set_option maxRecDepth 100000 in
set_option maxHeartbeats 3200000 in
theorem does_long (v vs : Value) (l : List Ev) (x y : Ev) (w : World) (hv : Rd encE 4 w v l) (hl : 200 < l.length) : Calls Try.prog 6 #[v, vs, .agg (encE x).toArray, .agg (encE y).toArray] w (True1 w) := by
  have HP : Hid (∀ w', Below w.heap.size w w' → True1 w (.returned (.bool true)) w') := fun w' h => ⟨rfl, h⟩
  have HBG := Lib.hid begun_any
  have HB0 := Lib.hid (below2 w (.cells (encE x).toArray 31) (.cells (encE y).toArray 31))
  have HX0 : Hid (Blk ((w.alloc (.cells (encE x).toArray 31)).alloc (.cells (encE y).toArray 31)) w.heap.size 31 (encE x).toArray) := (Blk.new' rfl : Blk _ _ _ _).alloc _
  have HY0 : Hid (Blk ((w.alloc (.cells (encE x).toArray 31)).alloc (.cells (encE y).toArray 31)) (w.heap.size + 1) 31 (encE y).toArray) := Blk.new' (by simp)
  obtain ⟨a, cap, rfl, hcap, hcm, hlen⟩ := hv.shape
  clear hv
  generalize l.length = n at *
  go_enter Try.func6, Try.ntmps6
  go_upto_region 1 with fail
  change Code.wp _ _ _ _ ((w.alloc (.cells (encE x).toArray 31)).alloc (.cells (encE y).toArray 31))
  generalize ((w.alloc (.cells (encE x).toArray 31)).alloc (.cells (encE y).toArray 31)) = w0 at *
  obtain ⟨b, hb⟩ : ∃ b, b = w.heap.size := ⟨_, rfl⟩
  rw [← hb] at HX0 HY0 ⊢
  clear hb
  have hS : Hid (Blk w0.drew b 31 (encE x).toArray) ∧ Hid (Blk w0.drew (b + 1) 31 (encE y).toArray) := ⟨HX0, HY0⟩
  have hbig : (200 : Int) < (n : Int) := by omega
  refine wp_region_held_drew (S := fun X => Hid (Blk X b 31 (encE x).toArray) ∧ Hid (Blk X (b + 1) 31 (encE y).toArray)) (by kernel_rfl) hS (fun hHeld => ?_)
  refine takeC (i := 0) rfl (by kernel_rfl) (by rfl) (fun K hK => ?_)
  go_simp
  refine (HBG.out _).mono ?_
  rintro e W2 ⟨rfl, hb⟩
  have Ba : Hid (Below (w0.drew).heap.size (w0.drew) W2) := hb
  clear hb
  refine hK.out _ _ (⟨Lib.hid (hHeld.1.out.keep Ba.out), Lib.hid (hHeld.2.out.keep Ba.out)⟩) (fun hHeld => ?_)
  clear hK K
  try simp only [Act.put, List.setIfInBounds_toArray, List.set_cons_zero, List.set_cons_succ]
  (refine takeW (i := 1) (v := ?_) rfl (by kernel_rfl) (by kernel_rfl) (by kernel_rfl) (fun _ _ _ h => h) (by rfl) (by assumption) ?_ ?_; rotate_left; (intro W hW; (try dsimp only at hW); go_simp; try with_reducible rfl); (try simp only [Act.put, List.setIfInBounds_toArray, List.set_cons_zero, List.set_cons_succ]))
  (refine takeW (i := 2) (v := ?_) rfl (by kernel_rfl) (by kernel_rfl) (by kernel_rfl) (fun _ _ _ h => h) (by rfl) (by assumption) ?_ ?_; rotate_left; (intro W hW; (try dsimp only at hW); go_simp; try with_reducible rfl); (try simp only [Act.put, List.setIfInBounds_toArray, List.set_cons_zero, List.set_cons_succ]))
  first
    | (refine takeW (i := 3) (v := ?_) rfl (by kernel_rfl) (by kernel_rfl) (by kernel_rfl) (fun _ _ _ h => h) (by rfl) (by assumption) ?_ ?_; rotate_left; (intro W hW; (try dsimp only at hW); go_simp; try with_reducible rfl); (try simp only [Act.put, List.setIfInBounds_toArray, List.set_cons_zero, List.set_cons_succ]))
    | (refine takeU (i := 3) rfl (by kernel_rfl) (by kernel_rfl) (by kernel_rfl) (fun _ _ _ h => h) (by rfl) (by assumption) ?_; (try simp only [Act.put, List.setIfInBounds_toArray, List.set_cons_zero, List.set_cons_succ]))
  first
    | (refine takeW (i := 4) (v := ?_) rfl (by kernel_rfl) (by kernel_rfl) (by kernel_rfl) (fun _ _ _ h => h) (by rfl) (by assumption) ?_ ?_; rotate_left; (intro W hW; (try dsimp only at hW); go_simp; try with_reducible rfl); (try simp only [Act.put, List.setIfInBounds_toArray, List.set_cons_zero, List.set_cons_succ]))
    | (refine takeU (i := 4) rfl (by kernel_rfl) (by kernel_rfl) (by kernel_rfl) (fun _ _ _ h => h) (by rfl) (by assumption) ?_; (try simp only [Act.put, List.setIfInBounds_toArray, List.set_cons_zero, List.set_cons_succ]))
  first
    | (refine takeW (i := 5) (v := ?_) rfl (by kernel_rfl) (by kernel_rfl) (by kernel_rfl) (fun _ _ _ h => h) (by rfl) (by assumption) ?_ ?_; rotate_left; (intro W hW; (try dsimp only at hW); go_simp; try with_reducible rfl); (try simp only [Act.put, List.setIfInBounds_toArray, List.set_cons_zero, List.set_cons_succ]))
    | (refine takeU (i := 5) rfl (by kernel_rfl) (by kernel_rfl) (by kernel_rfl) (fun _ _ _ h => h) (by rfl) (by assumption) ?_; (try simp only [Act.put, List.setIfInBounds_toArray, List.set_cons_zero, List.set_cons_succ]))
  (refine takeW (i := 6) (v := ?_) rfl (by kernel_rfl) (by kernel_rfl) (by kernel_rfl) (fun _ _ _ h => h) (by rfl) (by assumption) ?_ ?_; rotate_left; (intro W hW; (try dsimp only at hW); go_simp; try with_reducible rfl); (try simp only [Act.put, List.setIfInBounds_toArray, List.set_cons_zero, List.set_cons_succ]))
  (refine takeW (i := 7) (v := ?_) rfl (by kernel_rfl) (by kernel_rfl) (by kernel_rfl) (fun _ _ _ h => h) (by rfl) (by assumption) ?_ ?_; rotate_left; (intro W hW; (try dsimp only at hW); go_simp; try with_reducible rfl); (try simp only [Act.put, List.setIfInBounds_toArray, List.set_cons_zero, List.set_cons_succ]))
  first
    | (refine takeW (i := 8) (v := ?_) rfl (by kernel_rfl) (by kernel_rfl) (by kernel_rfl) (fun _ _ _ h => h) (by rfl) (by assumption) ?_ ?_; rotate_left; (intro W hW; (try dsimp only at hW); go_simp; try with_reducible rfl); (try simp only [Act.put, List.setIfInBounds_toArray, List.set_cons_zero, List.set_cons_succ]))
    | (refine takeU (i := 8) rfl (by kernel_rfl) (by kernel_rfl) (by kernel_rfl) (fun _ _ _ h => h) (by rfl) (by assumption) ?_; (try simp only [Act.put, List.setIfInBounds_toArray, List.set_cons_zero, List.set_cons_succ]))
  first
    | (refine takeW (i := 9) (v := ?_) rfl (by kernel_rfl) (by kernel_rfl) (by kernel_rfl) (fun _ _ _ h => h) (by rfl) (by assumption) ?_ ?_; rotate_left; (intro W hW; (try dsimp only at hW); go_simp; try with_reducible rfl); (try simp only [Act.put, List.setIfInBounds_toArray, List.set_cons_zero, List.set_cons_succ]))
    | (refine takeU (i := 9) rfl (by kernel_rfl) (by kernel_rfl) (by kernel_rfl) (fun _ _ _ h => h) (by rfl) (by assumption) ?_; (try simp only [Act.put, List.setIfInBounds_toArray, List.set_cons_zero, List.set_cons_succ]))
  first
    | (refine takeW (i := 10) (v := ?_) rfl (by kernel_rfl) (by kernel_rfl) (by kernel_rfl) (fun _ _ _ h => h) (by rfl) (by assumption) ?_ ?_; rotate_left; (intro W hW; (try dsimp only at hW); go_simp; try with_reducible rfl); (try simp only [Act.put, List.setIfInBounds_toArray, List.set_cons_zero, List.set_cons_succ]))
    | (refine takeU (i := 10) rfl (by kernel_rfl) (by kernel_rfl) (by kernel_rfl) (fun _ _ _ h => h) (by rfl) (by assumption) ?_; (try simp only [Act.put, List.setIfInBounds_toArray, List.set_cons_zero, List.set_cons_succ]))
  first
    | (refine takeW (i := 11) (v := ?_) rfl (by kernel_rfl) (by kernel_rfl) (by kernel_rfl) (fun _ _ _ h => h) (by rfl) (by assumption) ?_ ?_; rotate_left; (intro W hW; (try dsimp only at hW); go_simp; try with_reducible rfl); (try simp only [Act.put, List.setIfInBounds_toArray, List.set_cons_zero, List.set_cons_succ]))
    | (refine takeU (i := 11) rfl (by kernel_rfl) (by kernel_rfl) (by kernel_rfl) (fun _ _ _ h => h) (by rfl) (by assumption) ?_; (try simp only [Act.put, List.setIfInBounds_toArray, List.set_cons_zero, List.set_cons_succ]))
  first
    | (refine takeW (i := 12) (v := ?_) rfl (by kernel_rfl) (by kernel_rfl) (by kernel_rfl) (fun _ _ _ h => h) (by rfl) (by assumption) ?_ ?_; rotate_left; (intro W hW; (try dsimp only at hW); go_simp; try with_reducible rfl); (try simp only [Act.put, List.setIfInBounds_toArray, List.set_cons_zero, List.set_cons_succ]))
    | (refine takeU (i := 12) rfl (by kernel_rfl) (by kernel_rfl) (by kernel_rfl) (fun _ _ _ h => h) (by rfl) (by assumption) ?_; (try simp only [Act.put, List.setIfInBounds_toArray, List.set_cons_zero, List.set_cons_succ]))
  first
    | (refine takeW (i := 13) (v := ?_) rfl (by kernel_rfl) (by kernel_rfl) (by kernel_rfl) (fun _ _ _ h => h) (by rfl) (by assumption) ?_ ?_; rotate_left; (intro W hW; (try dsimp only at hW); go_simp; try with_reducible rfl); (try simp only [Act.put, List.setIfInBounds_toArray, List.set_cons_zero, List.set_cons_succ]))
    | (refine takeU (i := 13) rfl (by kernel_rfl) (by kernel_rfl) (by kernel_rfl) (fun _ _ _ h => h) (by rfl) (by assumption) ?_; (try simp only [Act.put, List.setIfInBounds_toArray, List.set_cons_zero, List.set_cons_succ]))
  first
    | (refine takeW (i := 14) (v := ?_) rfl (by kernel_rfl) (by kernel_rfl) (by kernel_rfl) (fun _ _ _ h => h) (by rfl) (by assumption) ?_ ?_; rotate_left; (intro W hW; (try dsimp only at hW); go_simp; try with_reducible rfl); (try simp only [Act.put, List.setIfInBounds_toArray, List.set_cons_zero, List.set_cons_succ]))
    | (refine takeU (i := 14) rfl (by kernel_rfl) (by kernel_rfl) (by kernel_rfl) (fun _ _ _ h => h) (by rfl) (by assumption) ?_; (try simp only [Act.put, List.setIfInBounds_toArray, List.set_cons_zero, List.set_cons_succ]))
  (refine takeW (i := 15) (v := ?_) rfl (by kernel_rfl) (by kernel_rfl) (by kernel_rfl) (fun _ _ _ h => h) (by rfl) (by assumption) ?_ ?_; rotate_left; (intro W hW; (try dsimp only at hW); go_simp; try with_reducible rfl); (try simp only [Act.put, List.setIfInBounds_toArray, List.set_cons_zero, List.set_cons_succ]))
  refine wpAnyH_done (by kernel_rfl) ?_ _
  have HB1 : Hid (Below w.heap.size w W2) := (HB0.out.drew).trans (Ba.out.mono HB0.out.size)
  clear Ba hHeld hS HX0 HY0 HB0
  go_wp2_with fail
  refine (HBG.out _).mono ?_
  rintro e w2 ⟨rfl, hb2⟩
  have HB2 := Lib.hid hb2
  clear hb2
  go_wp2
  go_ret
  exact HP.out _ (bt HB1.out HB2.out)
set_option maxRecDepth 100000 in
set_option maxHeartbeats 3200000 in
theorem does_any (v vs : Value) (l : List Ev) (s : List DoV) (x y : Ev) (w : World) (hv : Rd encE 4 w v l) (hs : Rd encD 5 w vs s) (hl : l.length ≤ 200) : Calls Try.prog 6 #[v, vs, .agg (encE x).toArray, .agg (encE y).toArray] w (True1 w) := by
  have HP : Hid (∀ w', Below w.heap.size w w' → True1 w (.returned (.bool true)) w') := fun w' h => ⟨rfl, h⟩
  have HBG := Lib.hid begun_any
  have HV := Lib.hid hv
  have HSR := Lib.hid hs
  have HB0 := Lib.hid (below2 w (.cells (encE x).toArray 31) (.cells (encE y).toArray 31))
  have HX0 : Hid (Blk ((w.alloc (.cells (encE x).toArray 31)).alloc (.cells (encE y).toArray 31)) w.heap.size 31 (encE x).toArray) := (Blk.new' rfl : Blk _ _ _ _).alloc _
  have HY0 : Hid (Blk ((w.alloc (.cells (encE x).toArray 31)).alloc (.cells (encE y).toArray 31)) (w.heap.size + 1) 31 (encE y).toArray) := Blk.new' (by simp)
  obtain ⟨a, cap, rfl, hcap, hcm, hlen⟩ := hv.shape
  obtain ⟨sa, sc, rfl, hscap, hscm, hslen⟩ := hs.shape
  obtain ⟨n, hn⟩ : ∃ n, n = l.length := ⟨_, rfl⟩
  obtain ⟨m, hm⟩ : ∃ m, m = s.length := ⟨_, rfl⟩
  rw [← hn] at hl hcap hlen HV
  rw [← hm] at hscap hslen HSR
  rw [← hn, ← hm]
  have HN := Lib.hid hn
  have HM := Lib.hid hm
  clear hv hs hn hm
  go_enter Try.func6, Try.ntmps6
  go_upto_region 1 with fail
  change Code.wp _ _ _ _ ((w.alloc (.cells (encE x).toArray 31)).alloc (.cells (encE y).toArray 31))
  generalize ((w.alloc (.cells (encE x).toArray 31)).alloc (.cells (encE y).toArray 31)) = w0 at *
  obtain ⟨b, hb⟩ : ∃ b, b = w.heap.size := ⟨_, rfl⟩
  rw [← hb] at HX0 HY0 ⊢
  clear hb
  have hS : Hid (Blk w0.drew b 31 (encE x).toArray) ∧ Hid (Blk w0.drew (b + 1) 31 (encE y).toArray) := ⟨HX0, HY0⟩
  have hsm : ¬ (200 : Int) < (n : Int) := by omega
  refine wp_region_held_drew (S := fun X => Hid (Blk X b 31 (encE x).toArray) ∧ Hid (Blk X (b + 1) 31 (encE y).toArray)) (by kernel_rfl) hS (fun hHeld => ?_)
  refine takeC (i := 0) rfl (by kernel_rfl) (by rfl) (fun K hK => ?_)
  go_simp
  refine (HBG.out _).mono ?_
  rintro e W2 ⟨rfl, hb⟩
  have Ba : Hid (Below (w0.drew).heap.size (w0.drew) W2) := hb
  clear hb
  refine hK.out _ _ (⟨Lib.hid (hHeld.1.out.keep Ba.out), Lib.hid (hHeld.2.out.keep Ba.out)⟩) (fun hHeld => ?_)
  clear hK K
  try simp only [Act.put, List.setIfInBounds_toArray, List.set_cons_zero, List.set_cons_succ]
  (refine takeW (i := 1) (v := ?_) rfl (by kernel_rfl) (by kernel_rfl) (by kernel_rfl) (fun _ _ _ h => h) (by rfl) (by assumption) ?_ ?_; rotate_left; (intro W hW; (try dsimp only at hW); go_simp; try with_reducible rfl); (try simp only [Act.put, List.setIfInBounds_toArray, List.set_cons_zero, List.set_cons_succ]))
  (refine takeW (i := 2) (v := ?_) rfl (by kernel_rfl) (by kernel_rfl) (by kernel_rfl) (fun _ _ _ h => h) (by rfl) (by assumption) ?_ ?_; rotate_left; (intro W hW; (try dsimp only at hW); go_simp; try with_reducible rfl); (try simp only [Act.put, List.setIfInBounds_toArray, List.set_cons_zero, List.set_cons_succ]))
  first
    | (refine takeW (i := 3) (v := ?_) rfl (by kernel_rfl) (by kernel_rfl) (by kernel_rfl) (fun _ _ _ h => h) (by rfl) (by assumption) ?_ ?_; rotate_left; (intro W hW; (try dsimp only at hW); go_simp; try with_reducible rfl); (try simp only [Act.put, List.setIfInBounds_toArray, List.set_cons_zero, List.set_cons_succ]))
    | (refine takeU (i := 3) rfl (by kernel_rfl) (by kernel_rfl) (by kernel_rfl) (fun _ _ _ h => h) (by rfl) (by assumption) ?_; (try simp only [Act.put, List.setIfInBounds_toArray, List.set_cons_zero, List.set_cons_succ]))
  first
    | (refine takeW (i := 4) (v := ?_) rfl (by kernel_rfl) (by kernel_rfl) (by kernel_rfl) (fun _ _ _ h => h) (by rfl) (by assumption) ?_ ?_; rotate_left; (intro W hW; (try dsimp only at hW); go_simp; try with_reducible rfl); (try simp only [Act.put, List.setIfInBounds_toArray, List.set_cons_zero, List.set_cons_succ]))
    | (refine takeU (i := 4) rfl (by kernel_rfl) (by kernel_rfl) (by kernel_rfl) (fun _ _ _ h => h) (by rfl) (by assumption) ?_; (try simp only [Act.put, List.setIfInBounds_toArray, List.set_cons_zero, List.set_cons_succ]))
  first
    | (refine takeW (i := 5) (v := ?_) rfl (by kernel_rfl) (by kernel_rfl) (by kernel_rfl) (fun _ _ _ h => h) (by rfl) (by assumption) ?_ ?_; rotate_left; (intro W hW; (try dsimp only at hW); go_simp; try with_reducible rfl); (try simp only [Act.put, List.setIfInBounds_toArray, List.set_cons_zero, List.set_cons_succ]))
    | (refine takeU (i := 5) rfl (by kernel_rfl) (by kernel_rfl) (by kernel_rfl) (fun _ _ _ h => h) (by rfl) (by assumption) ?_; (try simp only [Act.put, List.setIfInBounds_toArray, List.set_cons_zero, List.set_cons_succ]))
  (refine takeW (i := 6) (v := ?_) rfl (by kernel_rfl) (by kernel_rfl) (by kernel_rfl) (fun _ _ _ h => h) (by rfl) (by assumption) ?_ ?_; rotate_left; (intro W hW; (try dsimp only at hW); go_simp; try with_reducible rfl); (try simp only [Act.put, List.setIfInBounds_toArray, List.set_cons_zero, List.set_cons_succ]))
  (refine takeW (i := 7) (v := ?_) rfl (by kernel_rfl) (by kernel_rfl) (by kernel_rfl) (fun _ _ _ h => h) (by rfl) (by assumption) ?_ ?_; rotate_left; (intro W hW; (try dsimp only at hW); go_simp; try with_reducible rfl); (try simp only [Act.put, List.setIfInBounds_toArray, List.set_cons_zero, List.set_cons_succ]))
  (refine takeW (i := 8) rfl (by kernel_rfl) (by kernel_rfl) (by kernel_rfl) (fun _ _ _ h => h) (by rfl) (by assumption) (fun W hW => exec_loadW W31 rfl rfl (cs := encE x) rfl (hW.1.out.list)) ?_; (try simp only [Act.put, List.setIfInBounds_toArray, List.set_cons_zero, List.set_cons_succ]))
  (refine takeW (i := 9) rfl (by kernel_rfl) (by kernel_rfl) (by kernel_rfl) (fun _ _ _ h => h) (by rfl) (by assumption) (fun W hW => exec_loadW W31 rfl rfl (cs := encE y) rfl (hW.2.out.list)) ?_; (try simp only [Act.put, List.setIfInBounds_toArray, List.set_cons_zero, List.set_cons_succ]))
  (refine takeW (i := 11) rfl (by kernel_rfl) (by kernel_rfl) (by kernel_rfl) (fun _ _ _ h => h) (by rfl) (by assumption) (fun W hW => exec_loadW W31 rfl rfl (cs := encE x) rfl (hW.1.out.list)) ?_; (try simp only [Act.put, List.setIfInBounds_toArray, List.set_cons_zero, List.set_cons_succ]))
  (refine takeW (i := 12) rfl (by kernel_rfl) (by kernel_rfl) (by kernel_rfl) (fun _ _ _ h => h) (by rfl) (by assumption) (fun W hW => exec_loadW W31 rfl rfl (cs := encE y) rfl (hW.2.out.list)) ?_; (try simp only [Act.put, List.setIfInBounds_toArray, List.set_cons_zero, List.set_cons_succ]))
  refine takeC (i := 10) rfl (by kernel_rfl) (by rfl) (fun K hK => ?_)
  go_simp
  refine (less_any x y W2).mono ?_
  rintro e W3 ⟨rfl, hb⟩
  have Bb : Hid (Below (W2).heap.size (W2) W3) := hb.below _ (Nat.le_refl _)
  clear hb
  refine hK.out _ _ (⟨Lib.hid (hHeld.1.out.keep Bb.out), Lib.hid (hHeld.2.out.keep Bb.out)⟩) (fun hHeld => ?_)
  clear hK K
  try simp only [Act.put, List.setIfInBounds_toArray, List.set_cons_zero, List.set_cons_succ]
  refine takeC (i := 13) rfl (by kernel_rfl) (by rfl) (fun K hK => ?_)
  go_simp
  refine (rless_any x y W3).mono ?_
  rintro e W4 ⟨rfl, hb⟩
  have Bc : Hid (Below (W3).heap.size (W3) W4) := hb
  clear hb
  refine hK.out _ _ (⟨Lib.hid (hHeld.1.out.keep Bc.out), Lib.hid (hHeld.2.out.keep Bc.out)⟩) (fun hHeld => ?_)
  clear hK K
  try simp only [Act.put, List.setIfInBounds_toArray, List.set_cons_zero, List.set_cons_succ]
  first
    | (refine takeW (i := 14) (v := ?_) rfl (by kernel_rfl) (by kernel_rfl) (by kernel_rfl) (fun _ _ _ h => h) (by rfl) (by assumption) ?_ ?_; rotate_left; (intro W hW; (try dsimp only at hW); go_simp; try with_reducible rfl); (try simp only [Act.put, List.setIfInBounds_toArray, List.set_cons_zero, List.set_cons_succ]))
    | (refine takeU (i := 14) rfl (by kernel_rfl) (by kernel_rfl) (by kernel_rfl) (fun _ _ _ h => h) (by rfl) (by assumption) ?_; (try simp only [Act.put, List.setIfInBounds_toArray, List.set_cons_zero, List.set_cons_succ]))
  (refine takeW (i := 15) (v := ?_) rfl (by kernel_rfl) (by kernel_rfl) (by kernel_rfl) (fun _ _ _ h => h) (by rfl) (by assumption) ?_ ?_; rotate_left; (intro W hW; (try dsimp only at hW); go_simp; try with_reducible rfl); (try simp only [Act.put, List.setIfInBounds_toArray, List.set_cons_zero, List.set_cons_succ]))
  refine wpAnyH_done (by kernel_rfl) ?_ _
  have HB1 : Hid (Below w.heap.size w W4) := (((HB0.out.drew).trans (Ba.out.mono HB0.out.size)).trans (Bb.out.mono (Nat.le_trans HB0.out.size Ba.out.size))).trans (Bc.out.mono (Nat.le_trans (Nat.le_trans HB0.out.size Ba.out.size) Bb.out.size))
  clear Ba Bb Bc hHeld hS HX0 HY0 HB0
  generalize W4 = w1 at *
  by_cases hbad : l.any badE = true
  · have HNW := Lib.hid (new_bad _ l w1 (HV.out.below HB1.out) (by have := HN.out; omega) hbad)
    have HRN : Hid (∀ W, Below w1.heap.size w1 W → Calls Try.prog 22 #[.slice a n cap] W (RNewNone l W)) := fun W hW =>
      (rnew_any _ l W ((HV.out.below HB1.out).below hW) (by have := HN.out; omega)).mono fun e w' h => by simpa [hbad] using h
    have HE : Hid (newE l = 140) := by show _ = _; unfold newE; rw [if_neg (by have := HN.out; omega), if_pos hbad]
    clear hbad
    go_wp2_with fail
    refine HNW.out.mono ?_
    rintro e w2 ⟨rfl, hb2⟩
    rw [HE.out]
    have HB2 := Lib.hid (bt HB1.out hb2)
    have HR2 := Lib.hid (HRN.out w2 hb2)
    clear hb2 HNW HRN
    go_wp2_with fail
    refine HR2.out.mono ?_
    rintro e w3 ⟨rfl, hb3⟩
    rw [HE.out]
    have HB3 := Lib.hid (bt HB2.out hb3)
    clear hb3 HR2
    go_wp2
    go_ret
    exact HP.out _ HB3.out
  · have HNW := Lib.hid (new_good _ l w1 (HV.out.below HB1.out) (by have := HN.out; omega) (by simpa using hbad))
    have HRN : Hid (∀ W, Below w1.heap.size w1 W → Calls Try.prog 22 #[.slice a n cap] W (RNewSome l W)) := fun W hW =>
      (rnew_any _ l W ((HV.out.below HB1.out).below hW) (by have := HN.out; omega)).mono fun e w' h => by simpa [hbad] using h
    clear hbad
    go_wp2_with fail
    refine HNW.out.mono ?_
    rintro e w2 ⟨q, sv, rfl, hq, hQ, hb2⟩
    have HQ2 := Lib.hid hQ
    have HB2 := Lib.hid (bt HB1.out hb2)
    have HQG : Hid (w.heap.size ≤ q) := Nat.le_trans HB1.out.size hq
    have HR2 := Lib.hid (HRN.out w2 hb2)
    clear hQ hq hb2 HNW HRN
    go_wp2_with fail
    refine HR2.out.mono ?_
    rintro e w3 ⟨r, v, rfl, hr, hR, hf, hb3⟩
    have HJ3 : Hid (JQ w q r (newL l) 0 w3) := by
      refine ⟨⟨sv, v, HQ2.out.below hb3, by rw [sortE_of_perm (newL_perm l)]; exact hR, fun b o n c e => .inr fun e2 => ?_⟩, newL_heap l, bt HB2.out hb3, HQG.out, Nat.le_trans HB2.out.size hr⟩
      have h1 := (HQ2.out.2.lt b e2).2
      have h2 := hf b o n c e
      omega
    have HJL : Hid (∃ h now, JQ w q r h now w3 ∧ h.length ≤ 200) := ⟨_, _, HJ3.out, by rw [newL_len]; have := HN.out; omega⟩
    clear hr hR hf hb3 HJ3 HR2 HQ2 HB2 HQG
    have hMM : ∃ M : Nat, imin (m : Int) 200 = M := ⟨(imin (m : Int) 200).toNat, by have := imin_le (m : Int) 200; omega⟩
    obtain ⟨M, hM⟩ := hMM
    have hMb := imin_le (m : Int) 200
    rw [hM] at hMb
    have hM1 : M ≤ m := by omega
    have hM2 : M ≤ 200 := by omega
    have hM3 : M ≤ sc := by omega
    have HMI := Lib.hid hM
    clear hM hMb
    go_wp2_with ((with_reducible show wpList _ _ _ (Oper.mk (some 69) _ _ _ _ _ :: _) _ _); refine wpList_min rfl rfl rfl rfl ?_; go_must (rw [HMI.out]))
    go_loopw [72] (fun i wr => ∃ j : Nat, j ≤ M ∧ i = .int .i64 j ∧ Hid (∃ h now, JQ w q r h now wr ∧ h.length ≤ 200 + j)) (fun i _ => M - (intOf i).toNat)
    case atStart => exact ⟨0, by omega, rfl, HJL⟩
    case round =>
      clear HJL
      obtain ⟨j, hj, rfl, HJ0⟩ := hrel
      obtain ⟨wo, rfl⟩ : ∃ wo : World, wo = wr := ⟨_, rfl⟩
      obtain ⟨h, now, hJ0, hlen0⟩ := HJ0.out
      clear HJ0
      have HJ0 := Lib.hid hJ0
      have HLN := Lib.hid hlen0
      clear hJ0 hlen0
      by_cases hlt : j < M
      · obtain ⟨d, hd⟩ : ∃ d, s[j]? = some d := ⟨_, List.getElem?_eq_getElem (by have := HM.out; omega)⟩
        obtain ⟨bl, off, rfl, hbl, hc⟩ := (HSR.out.below HJ0.out.bel).row (by rintro rfl; simp at hd)
        have HC := Lib.hid (hc j d hd)
        clear hd hc
        go_upto_region 12 with (first | ((with_reducible show wpList _ _ _ (Oper.mk (some 75) _ _ _ _ _ :: _) _ _); refine wpList_loadW W33 rfl rfl rfl (encD d) rfl HC.out ?_) | ((with_reducible show wpList _ _ _ (Oper.mk none (Op.store 33 _ _) _ _ _ _ :: _) _ _); refine wpList_boxW W33 rfl rfl rfl (encD d) rfl rfl (encD_one d) rfl ?_; intro W1 hbx hbel hsz; have HBX := Lib.hid hbx; have HE := Lib.hid hbel; clear hbx hbel hsz))
        have HJ := Lib.hid (HJ0.out.keep HE.out)
        generalize wo.heap.size = bx at *
        go_wp2_with ((with_reducible show wpList _ _ _ (Oper.mk (some 78) _ _ _ _ _ :: _) _ _); refine wpList_loadW W33 rfl rfl rfl (encD d) rfl HBX.out.list ?_)
        refine (same_any w q r h now d W1 HJ.out (by have := HLN.out; omega)).mono ?_
        rintro e w5 ⟨rfl, h', now', hj', hl'⟩
        have HJ5 : Hid (∃ h now, JQ w q r h now w5 ∧ h.length ≤ 200 + (j + 1)) := ⟨_, _, hj', by have := HLN.out; omega⟩
        clear hj' hl' HJ HJ0 HE HC HBX HLN
        go_wp2
        go_roundw
        case rel => exact ⟨j + 1, by omega, by go_num, HJ5⟩
        case measure => simp [intOf]; omega
      · have HBF := Lib.hid HJ0.out.bel
        clear HJ0 HLN
        go_wp2
        go_ret
        exact HP.out _ HBF.out
end Go.Proofs.Ytbmnecdkjkffdaa
