/- SignalHears: the walk. -/
import Derived.Test.YtehgiagefiakkaaB23
import Derived.Test.YtehgiagefiakkaaB10
import Derived.Test.YtehgiagefiakkaaArgs2
namespace Go.Proofs.Ytehgiagefiakkaa
open Go.RowKit Go.Shelf
open Sched (Sp bad)
open Sig

theorem ints_of {W : World} {D : Nat} {v : Option Addr} {n c : Nat} {X Y : List Nat} (ho : W.ownsRow D 3 1 (.slice v n c) n (X.map encI64)) (hn : n = X.length) (hX : X = Y) (hY : Y.length ≤ 1000 ∧ ∀ x ∈ Y, x ≤ 1000) :
    Nm.In.Ints W (.slice v n c) (Y.map Nat.cast) := by
  subst hX
  have e : (X.map encI64) = (X.map (Nat.cast : Nat → Int)).map (Value.int .i64) := by rw [List.map_map]; rfl
  rw [e] at ho
  have hl : (X.map (Nat.cast : Nat → Int)).length = n := by rw [List.length_map, hn]
  refine Nm.In.Ints.of_owns (by rw [hl]; exact ho) (by rw [hl, hn]; omega) (fun x hx => ?_)
  obtain ⟨y, hy, rfl⟩ := List.mem_map.1 hx
  have := hY.2 y hy
  unfold Nm.I64
  omega
theorem hits_lt {l : List Sg} {inn : Sp} {th : Int} {k : Nat} : ∀ x ∈ hitsTo l inn th k, x < k := fun _ hx => List.mem_range.1 (List.mem_filter.1 hx).1

set_option maxRecDepth 100000 in
set_option maxHeartbeats 3200000 in
theorem hears_walk (l0 : List Sg) (v0 : Value) (inn : Sp) (th most : Int) (w : World) (h : Sgs w v0 l0) (hm0 : 0 ≤ most) (hm1 : most ≤ 255) :
    Calls Try.prog 8 #[v0, spv inn, .int .i64 th, .int .u8 most] w fun e w' => e = .returned (.bool true) ∧ Below w.heap.size w w' := by
  obtain ⟨f, t⟩ := inn
  have hfew := few_any l0 v0 (w.alloc (.cells #[.int .i64 f, .int .i64 t] 23)) (h.below (below1 _ _))
  have hlen : (l0.take 60).length ≤ 60 := List.length_take_le _ _
  have hgood : ∀ v', Sgs (w.alloc (.cells #[.int .i64 f, .int .i64 t] 23)) v' (l0.take 60) → True := fun _ _ => trivial
  clear h hgood
  generalize l0.take 60 = l at *
  unfold spv
  go_enter Try.func8, Try.ntmps8
  go_wp2_with fail
  refine hfew.mono ?_
  rintro e w' ⟨⟨v, rfl, h⟩, rfl⟩
  clear hfew
  have HB := Lib.hid (below1 w (.cells #[.int .i64 f, .int .i64 t] 23))
  have HX : Hid (Blk (w.alloc (.cells #[.int .i64 f, .int .i64 t] 23)) w.heap.size 23 #[.int .i64 f, .int .i64 t]) := (Blk.new' rfl : Blk _ _ _ _)
  have HS := Lib.hid h
  clear h
  generalize w.alloc (.cells #[.int .i64 f, .int .i64 t] 23) = w1 at *
  have m0 : w1.cell? ⟨w.heap.size, 0, none⟩ = some (.int .i64 f) := HX.out.cell 0
  have m1 : w1.cell? ⟨w.heap.size, 1, none⟩ = some (.int .i64 t) := HX.out.cell 1
  have hrh := rheard_any l v (f, t) th w1 HS.out (by omega)
  obtain ⟨a, c, rfl, -⟩ := HS.out.1.shape
  unfold HeardPost spv at hrh
  have hHb : (hitsTo l (f, t) th l.length).length ≤ 1000 ∧ ∀ x ∈ hitsTo l (f, t) th l.length, x ≤ 1000 := ⟨by have := hitsTo_len l (f, t) th l.length; omega, fun x hx => by have := hits_lt x hx; omega⟩
  have hH99 : (hitsTo l (f, t) th l.length).length ≤ 99 := by have := hitsTo_len l (f, t) th l.length; omega
  have hl8 : l.length * 8 ≤ 140737488355328 := by omega
  have hl1 : l.length ≤ 1000 := by omega
  generalize hhit : hitsTo l (f, t) th l.length = H at *
  have HHIT := Lib.hid hhit
  clear hhit
  go_wp2_with fail
  refine hrh.mono ?_
  rintro e w2 ⟨⟨v2, rfl, ho⟩, hb⟩
  clear hrh
  obtain ⟨a9, c9, rfl, hc1, hc2, -⟩ := owns_shape ho
  have HH : Hid (Nm.In.Ints w2 (.slice a9 H.length c9) (H.map Nat.cast)) := ints_of ho rfl rfl hHb
  have HSg : Hid (∀ W, Below w.heap.size w W → True) := fun _ _ => trivial
  clear HSg
  replace m0 := keepCell hb m0
  replace m1 := keepCell hb m1
  have HSg : Hid (∀ W, Below w2.heap.size w2 W → Sgs W (.slice a l.length c) l) := fun W hW => (HS.out.below hb).below hW
  replace HB := Lib.hid (bt HB.out hb)
  clear ho hb HS HX
  obtain ⟨k, hk⟩ : ∃ k : Nat, min (H.length : Int) most = (k : Int) := ⟨(min (H.length : Int) most).toNat, by omega⟩
  have hkl : k ≤ H.length := by omega
  have hkc : k ≤ c9 := by omega
  have hHk : H.take most.toNat = H.take k := by
    by_cases hle : H.length ≤ most.toNat
    · rw [List.take_of_length_le hle, List.take_of_length_le (by omega)]
    · rw [show most.toNat = k by omega]
  have hHkb : (H.take k).length ≤ 1000 ∧ ∀ x ∈ H.take k, x ≤ 1000 := ⟨by rw [List.length_take]; omega, fun x hx => hHb.2 x (List.mem_of_mem_take hx)⟩
  have HHT : Hid (Nm.In.Ints w2 (.slice a9 k c9) ((H.take k).map Nat.cast)) := by
    have := Nm.In.Ints.take (n := H.length) (by exact HH.out) k (by simpa using hkl)
    rw [← List.map_take] at this
    exact this
  have hw1 : IntKind.i64.wrap most = most := IntWalk.i64_in _ (by omega)
  clear hlen
  go_wp2_with fail
  have H1 : w2.drew.cell? ⟨w.heap.size, 0, none⟩ = some (.int .i64 f) ∧ w2.drew.cell? ⟨w.heap.size, 1, none⟩ = some (.int .i64 t) ∧ Below w2.heap.size w2 w2.drew := ⟨m0, m1, (Below.refl _ _).drew⟩
  refine wp_region_held_drew (S := (fun W => W.cell? ⟨w.heap.size, 0, none⟩ = some (.int .i64 f) ∧ W.cell? ⟨w.heap.size, 1, none⟩ = some (.int .i64 t) ∧ Below w2.heap.size w2 W)) (by kernel_rfl) (by assumption) (fun hHeld => ?_)
  generalize w2.drew = Wd at *
  (refine takeC (i := 0) rfl (by kernel_rfl) (by rfl) (fun K hK => ?_); go_simp; ((refine (begun_any _).mono ?_); rintro e W0 ⟨rfl, hb⟩; have hB : Below w2.heap.size w2 W0 := hHeld.2.2.trans (hb.mono hHeld.2.2.size); clear hb; have hs : W0.cell? ⟨w.heap.size, 0, none⟩ = some (.int .i64 f) ∧ W0.cell? ⟨w.heap.size, 1, none⟩ = some (.int .i64 t) ∧ Below w2.heap.size w2 W0 := ⟨keepCell hB m0, keepCell hB m1, hB⟩; clear hB); refine hK.out _ _ hs (fun hHeld => ?_); clear hK K; (try simp only [Act.put, List.setIfInBounds_toArray, List.set_cons_zero, List.set_cons_succ]))
  (refine takeW (i := 1) (v := ?_) rfl (by kernel_rfl) (by kernel_rfl) (by kernel_rfl) (fun _ _ _ h => h) (by rfl) (by assumption) ?_ ?_; rotate_left; (intro W hW; (try dsimp only at hW); go_simp; try with_reducible rfl); (try simp only [Act.put, List.setIfInBounds_toArray, List.set_cons_zero, List.set_cons_succ]))
  first
    | (refine takeW (i := 2) (v := ?_) rfl (by kernel_rfl) (by kernel_rfl) (by kernel_rfl) (fun _ _ _ h => h) (by rfl) (by assumption) ?_ ?_; rotate_left; (intro W hW; (try dsimp only at hW); go_simp; try with_reducible rfl); (try simp only [Act.put, List.setIfInBounds_toArray, List.set_cons_zero, List.set_cons_succ]))
    | (refine takeU (i := 2) rfl (by kernel_rfl) (by kernel_rfl) (by kernel_rfl) (fun _ _ _ h => h) (by rfl) (by assumption) ?_; (try simp only [Act.put, List.setIfInBounds_toArray, List.set_cons_zero, List.set_cons_succ]))
  first
    | (refine takeW (i := 3) (v := ?_) rfl (by kernel_rfl) (by kernel_rfl) (by kernel_rfl) (fun _ _ _ h => h) (by rfl) (by assumption) ?_ ?_; rotate_left; (intro W hW; (try dsimp only at hW); go_simp; try with_reducible rfl); (try simp only [Act.put, List.setIfInBounds_toArray, List.set_cons_zero, List.set_cons_succ]))
    | (refine takeU (i := 3) rfl (by kernel_rfl) (by kernel_rfl) (by kernel_rfl) (fun _ _ _ h => h) (by rfl) (by assumption) ?_; (try simp only [Act.put, List.setIfInBounds_toArray, List.set_cons_zero, List.set_cons_succ]))
  first
    | (refine takeW (i := 4) (v := ?_) rfl (by kernel_rfl) (by kernel_rfl) (by kernel_rfl) (fun _ _ _ h => h) (by rfl) (by assumption) ?_ ?_; rotate_left; (intro W hW; (try dsimp only at hW); go_simp; try with_reducible rfl); (try simp only [Act.put, List.setIfInBounds_toArray, List.set_cons_zero, List.set_cons_succ]))
    | (refine takeU (i := 4) rfl (by kernel_rfl) (by kernel_rfl) (by kernel_rfl) (fun _ _ _ h => h) (by rfl) (by assumption) ?_; (try simp only [Act.put, List.setIfInBounds_toArray, List.set_cons_zero, List.set_cons_succ]))
  first
    | (refine takeW (i := 7) (v := ?_) rfl (by kernel_rfl) (by kernel_rfl) (by kernel_rfl) (fun _ _ _ h => h) (by rfl) (by assumption) ?_ ?_; rotate_left; (intro W hW; (try dsimp only at hW); go_simp; try with_reducible rfl); (try simp only [Act.put, List.setIfInBounds_toArray, List.set_cons_zero, List.set_cons_succ]))
    | (refine takeU (i := 7) rfl (by kernel_rfl) (by kernel_rfl) (by kernel_rfl) (fun _ _ _ h => h) (by rfl) (by assumption) ?_; (try simp only [Act.put, List.setIfInBounds_toArray, List.set_cons_zero, List.set_cons_succ]))
  first
    | (refine takeU (i := 5) rfl (by kernel_rfl) (by kernel_rfl) (by kernel_rfl) (fun _ _ _ h => h) (by rfl) (by assumption) ?_; (try simp only [Act.put, List.setIfInBounds_toArray, List.set_cons_zero, List.set_cons_succ]))
    | (refine takeC (i := 5) rfl (by kernel_rfl) (by rfl) (fun K hK => ?_); go_simp; (refine (heard_any _ _ _ _ _ _ _).mono ?_; rintro e W5 ⟨rfl, hwe⟩; have htold := fun most => told_heard l a l.length c hl8 f t th most W0 _ rfl (HSg.out _ hHeld.2.2); rw [hwe] at htold; have HBW := Lib.hid hHeld.2.2; have hB : Below w2.heap.size w2 W5 := hHeld.2.2.trans ((by rw [← hwe]; exact below3 _ _ _ _ : Below W0.heap.size W0 W5).mono hHeld.2.2.size); clear hwe; have hs : W5.cell? ⟨w.heap.size, 0, none⟩ = some (.int .i64 f) ∧ W5.cell? ⟨w.heap.size, 1, none⟩ = some (.int .i64 t) ∧ Below w2.heap.size w2 W5 := ⟨keepCell hB m0, keepCell hB m1, hB⟩; clear hB); refine hK.out _ _ hs (fun hHeld => ?_); clear hK K; (try simp only [Act.put, List.setIfInBounds_toArray, List.set_cons_zero, List.set_cons_succ]))
  first
    | (refine takeU (i := 6) rfl (by kernel_rfl) (by kernel_rfl) (by kernel_rfl) (fun _ _ _ h => h) (by rfl) (by assumption) ?_; (try simp only [Act.put, List.setIfInBounds_toArray, List.set_cons_zero, List.set_cons_succ]))
    | (refine takeC (i := 6) rfl (by kernel_rfl) (by rfl) (fun K hK => ?_); go_simp; (refine (htold _).mono ?_; rintro e W6 ⟨⟨a6, c6, n6, rfl, hn6, ho6⟩, hb⟩; clear htold; have HT1 : Hid (Nm.In.Ints W6 (.slice a6 n6 c6) (H.map Nat.cast)) := ints_of ho6 hn6 (by rw [HHIT.out]; exact List.take_of_length_le hH99) hHb; have hB : Below w2.heap.size w2 W6 := HBW.out.trans (hb.mono HBW.out.size); clear hb hn6 ho6 HBW; have hs : W6.cell? ⟨w.heap.size, 0, none⟩ = some (.int .i64 f) ∧ W6.cell? ⟨w.heap.size, 1, none⟩ = some (.int .i64 t) ∧ Below w2.heap.size w2 W6 := ⟨keepCell hB m0, keepCell hB m1, hB⟩; clear hB); refine hK.out _ _ hs (fun hHeld => ?_); clear hK K; (try simp only [Act.put, List.setIfInBounds_toArray, List.set_cons_zero, List.set_cons_succ]))
  first
    | (refine takeU (i := 8) rfl (by kernel_rfl) (by kernel_rfl) (by kernel_rfl) (fun _ _ _ h => h) (by rfl) (by assumption) ?_; (try simp only [Act.put, List.setIfInBounds_toArray, List.set_cons_zero, List.set_cons_succ]))
    | (refine takeC (i := 8) rfl (by kernel_rfl) (by rfl) (fun K hK => ?_); go_simp; (refine (Nm.In.equal_any _ _ _ _ _ HT1.out (HH.out.below hHeld.2.2)).mono ?_; rintro e W8 ⟨rfl, hb⟩; have hB : Below w2.heap.size w2 W8 := hHeld.2.2.trans (hb.mono hHeld.2.2.size); clear hb HT1; (try simp only [decide_true]); have hs : W8.cell? ⟨w.heap.size, 0, none⟩ = some (.int .i64 f) ∧ W8.cell? ⟨w.heap.size, 1, none⟩ = some (.int .i64 t) ∧ Below w2.heap.size w2 W8 := ⟨keepCell hB m0, keepCell hB m1, hB⟩; clear hB); refine hK.out _ _ hs (fun hHeld => ?_); clear hK K; (try simp only [Act.put, List.setIfInBounds_toArray, List.set_cons_zero, List.set_cons_succ]))
  (refine takeW (i := 9) (v := ?_) rfl (by kernel_rfl) (by kernel_rfl) (by kernel_rfl) (fun _ _ _ h => h) (by rfl) (by assumption) ?_ ?_; rotate_left; (intro W hW; (try dsimp only at hW); go_simp; try with_reducible rfl); (try simp only [Act.put, List.setIfInBounds_toArray, List.set_cons_zero, List.set_cons_succ]))
  (refine takeW (i := 10) (v := ?_) rfl (by kernel_rfl) (by kernel_rfl) (by kernel_rfl) (fun _ _ _ h => h) (by rfl) (by assumption) ?_ ?_; rotate_left; (intro W hW; (try dsimp only at hW); go_simp; try with_reducible rfl); (try simp only [Act.put, List.setIfInBounds_toArray, List.set_cons_zero, List.set_cons_succ]))
  first
    | (refine takeW (i := 11) (v := ?_) rfl (by kernel_rfl) (by kernel_rfl) (by kernel_rfl) (fun _ _ _ h => h) (by rfl) (by assumption) ?_ ?_; rotate_left; (intro W hW; (try dsimp only at hW); go_simp; try with_reducible rfl); (try simp only [Act.put, List.setIfInBounds_toArray, List.set_cons_zero, List.set_cons_succ]))
    | (refine takeU (i := 11) rfl (by kernel_rfl) (by kernel_rfl) (by kernel_rfl) (fun _ _ _ h => h) (by rfl) (by assumption) ?_; (try simp only [Act.put, List.setIfInBounds_toArray, List.set_cons_zero, List.set_cons_succ]))
  first
    | (refine takeW (i := 12) (v := ?_) rfl (by kernel_rfl) (by kernel_rfl) (by kernel_rfl) (fun _ _ _ h => h) (by rfl) (by assumption) ?_ ?_; rotate_left; (intro W hW; (try dsimp only at hW); go_simp; try with_reducible rfl); (try simp only [Act.put, List.setIfInBounds_toArray, List.set_cons_zero, List.set_cons_succ]))
    | (refine takeU (i := 12) rfl (by kernel_rfl) (by kernel_rfl) (by kernel_rfl) (fun _ _ _ h => h) (by rfl) (by assumption) ?_; (try simp only [Act.put, List.setIfInBounds_toArray, List.set_cons_zero, List.set_cons_succ]))
  first
    | (refine takeW (i := 13) (v := ?_) rfl (by kernel_rfl) (by kernel_rfl) (by kernel_rfl) (fun _ _ _ h => h) (by rfl) (by assumption) ?_ ?_; rotate_left; (intro W hW; (try dsimp only at hW); go_simp; try with_reducible rfl); (try simp only [Act.put, List.setIfInBounds_toArray, List.set_cons_zero, List.set_cons_succ]))
    | (refine takeU (i := 13) rfl (by kernel_rfl) (by kernel_rfl) (by kernel_rfl) (fun _ _ _ h => h) (by rfl) (by assumption) ?_; (try simp only [Act.put, List.setIfInBounds_toArray, List.set_cons_zero, List.set_cons_succ]))
  first
    | (refine takeW (i := 15) (v := ?_) rfl (by kernel_rfl) (by kernel_rfl) (by kernel_rfl) (fun _ _ _ h => h) (by rfl) (by assumption) ?_ ?_; rotate_left; (intro W hW; (try dsimp only at hW); go_simp; try with_reducible rfl); (try simp only [Act.put, List.setIfInBounds_toArray, List.set_cons_zero, List.set_cons_succ]))
    | (refine takeU (i := 15) rfl (by kernel_rfl) (by kernel_rfl) (by kernel_rfl) (fun _ _ _ h => h) (by rfl) (by assumption) ?_; (try simp only [Act.put, List.setIfInBounds_toArray, List.set_cons_zero, List.set_cons_succ]))
  first
    | (refine takeW (i := 16) (v := ?_) rfl (by kernel_rfl) (by kernel_rfl) (by kernel_rfl) (fun _ _ _ h => h) (by rfl) (by assumption) ?_ ?_; rotate_left; (intro W hW; (try dsimp only at hW); go_simp; try with_reducible rfl); (try simp only [Act.put, List.setIfInBounds_toArray, List.set_cons_zero, List.set_cons_succ]))
    | (refine takeU (i := 16) rfl (by kernel_rfl) (by kernel_rfl) (by kernel_rfl) (fun _ _ _ h => h) (by rfl) (by assumption) ?_; (try simp only [Act.put, List.setIfInBounds_toArray, List.set_cons_zero, List.set_cons_succ]))
  first
    | (refine takeW (i := 18) (v := ?_) rfl (by kernel_rfl) (by kernel_rfl) (by kernel_rfl) (fun _ _ _ h => h) (by rfl) (by assumption) ?_ ?_; rotate_left; (intro W hW; (try dsimp only at hW); go_simp; try with_reducible rfl); (try simp only [Act.put, List.setIfInBounds_toArray, List.set_cons_zero, List.set_cons_succ]))
    | (refine takeU (i := 18) rfl (by kernel_rfl) (by kernel_rfl) (by kernel_rfl) (fun _ _ _ h => h) (by rfl) (by assumption) ?_; (try simp only [Act.put, List.setIfInBounds_toArray, List.set_cons_zero, List.set_cons_succ]))
  first
    | (refine takeW (i := 19) (v := ?_) rfl (by kernel_rfl) (by kernel_rfl) (by kernel_rfl) (fun _ _ _ h => h) (by rfl) (by assumption) ?_ ?_; rotate_left; (intro W hW; (try dsimp only at hW); go_simp; try with_reducible rfl); (try simp only [Act.put, List.setIfInBounds_toArray, List.set_cons_zero, List.set_cons_succ]))
    | (refine takeU (i := 19) rfl (by kernel_rfl) (by kernel_rfl) (by kernel_rfl) (fun _ _ _ h => h) (by rfl) (by assumption) ?_; (try simp only [Act.put, List.setIfInBounds_toArray, List.set_cons_zero, List.set_cons_succ]))
  first
    | (refine takeW (i := 20) (v := ?_) rfl (by kernel_rfl) (by kernel_rfl) (by kernel_rfl) (fun _ _ _ h => h) (by rfl) (by assumption) ?_ ?_; rotate_left; (intro W hW; (try dsimp only at hW); go_simp; try with_reducible rfl); (try simp only [Act.put, List.setIfInBounds_toArray, List.set_cons_zero, List.set_cons_succ]))
    | (refine takeU (i := 20) rfl (by kernel_rfl) (by kernel_rfl) (by kernel_rfl) (fun _ _ _ h => h) (by rfl) (by assumption) ?_; (try simp only [Act.put, List.setIfInBounds_toArray, List.set_cons_zero, List.set_cons_succ]))
  first
    | (refine takeW (i := 21) (v := ?_) rfl (by kernel_rfl) (by kernel_rfl) (by kernel_rfl) (fun _ _ _ h => h) (by rfl) (by assumption) ?_ ?_; rotate_left; (intro W hW; (try dsimp only at hW); go_simp; try with_reducible rfl); (try simp only [Act.put, List.setIfInBounds_toArray, List.set_cons_zero, List.set_cons_succ]))
    | (refine takeU (i := 21) rfl (by kernel_rfl) (by kernel_rfl) (by kernel_rfl) (fun _ _ _ h => h) (by rfl) (by assumption) ?_; (try simp only [Act.put, List.setIfInBounds_toArray, List.set_cons_zero, List.set_cons_succ]))
  first
    | (refine takeW (i := 22) (v := ?_) rfl (by kernel_rfl) (by kernel_rfl) (by kernel_rfl) (fun _ _ _ h => h) (by rfl) (by assumption) ?_ ?_; rotate_left; (intro W hW; (try dsimp only at hW); go_simp; try with_reducible rfl); (try simp only [Act.put, List.setIfInBounds_toArray, List.set_cons_zero, List.set_cons_succ]))
    | (refine takeU (i := 22) rfl (by kernel_rfl) (by kernel_rfl) (by kernel_rfl) (fun _ _ _ h => h) (by rfl) (by assumption) ?_; (try simp only [Act.put, List.setIfInBounds_toArray, List.set_cons_zero, List.set_cons_succ]))
  first
    | (refine takeW (i := 23) (v := ?_) rfl (by kernel_rfl) (by kernel_rfl) (by kernel_rfl) (fun _ _ _ h => h) (by rfl) (by assumption) ?_ ?_; rotate_left; (intro W hW; (try dsimp only at hW); go_simp; try with_reducible rfl); (try simp only [Act.put, List.setIfInBounds_toArray, List.set_cons_zero, List.set_cons_succ]))
    | (refine takeU (i := 23) rfl (by kernel_rfl) (by kernel_rfl) (by kernel_rfl) (fun _ _ _ h => h) (by rfl) (by assumption) ?_; (try simp only [Act.put, List.setIfInBounds_toArray, List.set_cons_zero, List.set_cons_succ]))
  first
    | (refine takeW (i := 24) (v := ?_) rfl (by kernel_rfl) (by kernel_rfl) (by kernel_rfl) (fun _ _ _ h => h) (by rfl) (by assumption) ?_ ?_; rotate_left; (intro W hW; (try dsimp only at hW); go_simp; try with_reducible rfl); (try simp only [Act.put, List.setIfInBounds_toArray, List.set_cons_zero, List.set_cons_succ]))
    | (refine takeU (i := 24) rfl (by kernel_rfl) (by kernel_rfl) (by kernel_rfl) (fun _ _ _ h => h) (by rfl) (by assumption) ?_; (try simp only [Act.put, List.setIfInBounds_toArray, List.set_cons_zero, List.set_cons_succ]))
  first
    | (refine takeU (i := 14) rfl (by kernel_rfl) (by kernel_rfl) (by kernel_rfl) (fun _ _ _ h => h) (by rfl) (by assumption) ?_; (try simp only [Act.put, List.setIfInBounds_toArray, List.set_cons_zero, List.set_cons_succ]))
    | (refine takeC (i := 14) rfl (by kernel_rfl) (by rfl) (fun K hK => ?_); go_simp; (refine (heard_any _ _ _ _ _ _ _).mono ?_; rintro e W14 ⟨rfl, hwe⟩; have htold := fun most => told_heard l a l.length c hl8 f t th most W8 _ rfl (HSg.out _ hHeld.2.2); rw [hwe] at htold; have HBW := Lib.hid hHeld.2.2; have hB : Below w2.heap.size w2 W14 := hHeld.2.2.trans ((by rw [← hwe]; exact below3 _ _ _ _ : Below W8.heap.size W8 W14).mono hHeld.2.2.size); clear hwe; have hs : W14.cell? ⟨w.heap.size, 0, none⟩ = some (.int .i64 f) ∧ W14.cell? ⟨w.heap.size, 1, none⟩ = some (.int .i64 t) ∧ Below w2.heap.size w2 W14 := ⟨keepCell hB m0, keepCell hB m1, hB⟩; clear hB); refine hK.out _ _ hs (fun hHeld => ?_); clear hK K; (try simp only [Act.put, List.setIfInBounds_toArray, List.set_cons_zero, List.set_cons_succ]))
  first
    | (refine takeU (i := 17) rfl (by kernel_rfl) (by kernel_rfl) (by kernel_rfl) (fun _ _ _ h => h) (by rfl) (by assumption) ?_; (try simp only [Act.put, List.setIfInBounds_toArray, List.set_cons_zero, List.set_cons_succ]))
    | (refine takeC (i := 17) rfl (by kernel_rfl) (by rfl) (fun K hK => ?_); go_simp; (refine (htold _).mono ?_; rintro e W17 ⟨⟨a6, c6, n6, rfl, hn6, ho6⟩, hb⟩; clear htold; have HT2 : Hid (Nm.In.Ints W17 (.slice a6 n6 c6) ((H.take k).map Nat.cast)) := ints_of ho6 hn6 (by rw [HHIT.out]; exact hHk) hHkb; have hB : Below w2.heap.size w2 W17 := HBW.out.trans (hb.mono HBW.out.size); clear hb hn6 ho6 HBW; have hs : W17.cell? ⟨w.heap.size, 0, none⟩ = some (.int .i64 f) ∧ W17.cell? ⟨w.heap.size, 1, none⟩ = some (.int .i64 t) ∧ Below w2.heap.size w2 W17 := ⟨keepCell hB m0, keepCell hB m1, hB⟩; clear hB); refine hK.out _ _ hs (fun hHeld => ?_); clear hK K; (try simp only [Act.put, List.setIfInBounds_toArray, List.set_cons_zero, List.set_cons_succ]))
  first
    | (refine takeU (i := 25) rfl (by kernel_rfl) (by kernel_rfl) (by kernel_rfl) (fun _ _ _ h => h) (by rfl) (by assumption) ?_; (try simp only [Act.put, List.setIfInBounds_toArray, List.set_cons_zero, List.set_cons_succ]))
    | (refine takeC (i := 25) rfl (by kernel_rfl) (by rfl) (fun K hK => ?_); go_simp; (refine (Nm.In.equal_any _ _ _ _ _ HT2.out (HHT.out.below hHeld.2.2)).mono ?_; rintro e W25 ⟨rfl, hb⟩; have hB : Below w2.heap.size w2 W25 := hHeld.2.2.trans (hb.mono hHeld.2.2.size); clear hb HT2; (try simp only [decide_true]); have hs : W25.cell? ⟨w.heap.size, 0, none⟩ = some (.int .i64 f) ∧ W25.cell? ⟨w.heap.size, 1, none⟩ = some (.int .i64 t) ∧ Below w2.heap.size w2 W25 := ⟨keepCell hB m0, keepCell hB m1, hB⟩; clear hB); refine hK.out _ _ hs (fun hHeld => ?_); clear hK K; (try simp only [Act.put, List.setIfInBounds_toArray, List.set_cons_zero, List.set_cons_succ]))
  (refine takeW (i := 26) (v := ?_) rfl (by kernel_rfl) (by kernel_rfl) (by kernel_rfl) (fun _ _ _ h => h) (by rfl) (by assumption) ?_ ?_; rotate_left; (intro W hW; (try dsimp only at hW); go_simp; try with_reducible rfl); (try simp only [Act.put, List.setIfInBounds_toArray, List.set_cons_zero, List.set_cons_succ]))
  (refine takeW (i := 27) (v := ?_) rfl (by kernel_rfl) (by kernel_rfl) (by kernel_rfl) (fun _ _ _ h => h) (by rfl) (by assumption) ?_ ?_; rotate_left; (intro W hW; (try dsimp only at hW); go_simp; try with_reducible rfl); (try simp only [Act.put, List.setIfInBounds_toArray, List.set_cons_zero, List.set_cons_succ]))
  first
    | (refine takeW (i := 28) (v := ?_) rfl (by kernel_rfl) (by kernel_rfl) (by kernel_rfl) (fun _ _ _ h => h) (by rfl) (by assumption) ?_ ?_; rotate_left; (intro W hW; (try dsimp only at hW); go_simp; try with_reducible rfl); (try simp only [Act.put, List.setIfInBounds_toArray, List.set_cons_zero, List.set_cons_succ]))
    | (refine takeU (i := 28) rfl (by kernel_rfl) (by kernel_rfl) (by kernel_rfl) (fun _ _ _ h => h) (by rfl) (by assumption) ?_; (try simp only [Act.put, List.setIfInBounds_toArray, List.set_cons_zero, List.set_cons_succ]))
  first
    | (refine takeW (i := 29) (v := ?_) rfl (by kernel_rfl) (by kernel_rfl) (by kernel_rfl) (fun _ _ _ h => h) (by rfl) (by assumption) ?_ ?_; rotate_left; (intro W hW; (try dsimp only at hW); go_simp; try with_reducible rfl); (try simp only [Act.put, List.setIfInBounds_toArray, List.set_cons_zero, List.set_cons_succ]))
    | (refine takeU (i := 29) rfl (by kernel_rfl) (by kernel_rfl) (by kernel_rfl) (fun _ _ _ h => h) (by rfl) (by assumption) ?_; (try simp only [Act.put, List.setIfInBounds_toArray, List.set_cons_zero, List.set_cons_succ]))
  first
    | (refine takeW (i := 31) (v := ?_) rfl (by kernel_rfl) (by kernel_rfl) (by kernel_rfl) (fun _ _ _ h => h) (by rfl) (by assumption) ?_ ?_; rotate_left; (intro W hW; (try dsimp only at hW); go_simp; try with_reducible rfl); (try simp only [Act.put, List.setIfInBounds_toArray, List.set_cons_zero, List.set_cons_succ]))
    | (refine takeU (i := 31) rfl (by kernel_rfl) (by kernel_rfl) (by kernel_rfl) (fun _ _ _ h => h) (by rfl) (by assumption) ?_; (try simp only [Act.put, List.setIfInBounds_toArray, List.set_cons_zero, List.set_cons_succ]))
  first
    | (refine takeW (i := 32) (v := ?_) rfl (by kernel_rfl) (by kernel_rfl) (by kernel_rfl) (fun _ _ _ h => h) (by rfl) (by assumption) ?_ ?_; rotate_left; (intro W hW; (try dsimp only at hW); go_simp; try with_reducible rfl); (try simp only [Act.put, List.setIfInBounds_toArray, List.set_cons_zero, List.set_cons_succ]))
    | (refine takeU (i := 32) rfl (by kernel_rfl) (by kernel_rfl) (by kernel_rfl) (fun _ _ _ h => h) (by rfl) (by assumption) ?_; (try simp only [Act.put, List.setIfInBounds_toArray, List.set_cons_zero, List.set_cons_succ]))
  first
    | (refine takeU (i := 30) rfl (by kernel_rfl) (by kernel_rfl) (by kernel_rfl) (fun _ _ _ h => h) (by rfl) (by assumption) ?_; (try simp only [Act.put, List.setIfInBounds_toArray, List.set_cons_zero, List.set_cons_succ]))
    | (refine takeC (i := 30) rfl (by kernel_rfl) (by rfl) (fun K hK => ?_); go_simp; (refine (busy_any l _ th _ (HSg.out _ hHeld.2.2) hl1).mono ?_; rintro e W30 ⟨⟨v7, rfl, h7⟩, hb⟩; have HB7 := Lib.hid h7; have hB : Below w2.heap.size w2 W30 := hHeld.2.2.trans (hb.mono hHeld.2.2.size); clear hb h7; have hs : W30.cell? ⟨w.heap.size, 0, none⟩ = some (.int .i64 f) ∧ W30.cell? ⟨w.heap.size, 1, none⟩ = some (.int .i64 t) ∧ Below w2.heap.size w2 W30 := ⟨keepCell hB m0, keepCell hB m1, hB⟩; clear hB); refine hK.out _ _ hs (fun hHeld => ?_); clear hK K; (try simp only [Act.put, List.setIfInBounds_toArray, List.set_cons_zero, List.set_cons_succ]))
  first
    | (refine takeU (i := 33) rfl (by kernel_rfl) (by kernel_rfl) (by kernel_rfl) (fun _ _ _ h => h) (by rfl) (by assumption) ?_; (try simp only [Act.put, List.setIfInBounds_toArray, List.set_cons_zero, List.set_cons_succ]))
    | (refine takeC (i := 33) rfl (by kernel_rfl) (by rfl) (fun K hK => ?_); go_simp; (refine (rbusy_any l _ th _ (HSg.out _ hHeld.2.2) hl1).mono ?_; rintro e W33 ⟨⟨v8, rfl, h8⟩, hb⟩; have HB8 := Lib.hid h8; replace HB7 := Lib.hid (HB7.out.below hb); have hB : Below w2.heap.size w2 W33 := hHeld.2.2.trans (hb.mono hHeld.2.2.size); clear hb h8; have hs : W33.cell? ⟨w.heap.size, 0, none⟩ = some (.int .i64 f) ∧ W33.cell? ⟨w.heap.size, 1, none⟩ = some (.int .i64 t) ∧ Below w2.heap.size w2 W33 := ⟨keepCell hB m0, keepCell hB m1, hB⟩; clear hB); refine hK.out _ _ hs (fun hHeld => ?_); clear hK K; (try simp only [Act.put, List.setIfInBounds_toArray, List.set_cons_zero, List.set_cons_succ]))
  first
    | (refine takeU (i := 34) rfl (by kernel_rfl) (by kernel_rfl) (by kernel_rfl) (fun _ _ _ h => h) (by rfl) (by assumption) ?_; (try simp only [Act.put, List.setIfInBounds_toArray, List.set_cons_zero, List.set_cons_succ]))
    | (refine takeC (i := 34) rfl (by kernel_rfl) (by rfl) (fun K hK => ?_); go_simp; (refine (Nm.equal_any _ _ _ _ _ HB7.out HB8.out).mono ?_; rintro e W34 ⟨rfl, hb⟩; have hB : Below w2.heap.size w2 W34 := hHeld.2.2.trans (hb.mono hHeld.2.2.size); clear hb; (try simp only [decide_true]); have hs : W34.cell? ⟨w.heap.size, 0, none⟩ = some (.int .i64 f) ∧ W34.cell? ⟨w.heap.size, 1, none⟩ = some (.int .i64 t) ∧ Below w2.heap.size w2 W34 := ⟨keepCell hB m0, keepCell hB m1, hB⟩; clear hB); refine hK.out _ _ hs (fun hHeld => ?_); clear hK K; (try simp only [Act.put, List.setIfInBounds_toArray, List.set_cons_zero, List.set_cons_succ]))
  (refine takeW (i := 35) (v := ?_) rfl (by kernel_rfl) (by kernel_rfl) (by kernel_rfl) (fun _ _ _ h => h) (by rfl) (by assumption) ?_ ?_; rotate_left; (intro W hW; (try dsimp only at hW); go_simp; try with_reducible rfl); (try simp only [Act.put, List.setIfInBounds_toArray, List.set_cons_zero, List.set_cons_succ]))
  (refine takeW (i := 36) (v := ?_) rfl (by kernel_rfl) (by kernel_rfl) (by kernel_rfl) (fun _ _ _ h => h) (by rfl) (by assumption) ?_ ?_; rotate_left; (intro W hW; (try dsimp only at hW); go_simp; try with_reducible rfl); (try simp only [Act.put, List.setIfInBounds_toArray, List.set_cons_zero, List.set_cons_succ]))
  refine wpAnyH_done (by kernel_rfl) ?_ _
  skip
  have HBE := Lib.hid hHeld.2.2
  clear hHeld H1
  go_wp2
  go_ret
  exact ⟨rfl, HB.out.trans (HBE.out.mono HB.out.size)⟩
end Go.Proofs.Ytehgiagefiakkaa
