/- SignalJudges: the walk. -/
import Derived.Test.YtehgiagefiakkaaB10
import Derived.Test.YtehgiagefiakkaaB13
import Derived.Test.YtehgiagefiakkaaB14
namespace Go.Proofs.Ytehgiagefiakkaa
open Go.RowKit Go.Shelf
open Sched (Sp bad)
open Sig

theorem few_any (l : List Sg) (v : Value) (w : World) (h : Sgs w v l) :
    Calls Try.prog 17 #[v] w fun e w' => (∃ v', e = .returned v' ∧ Sgs w v' (l.take 60)) ∧ w = w' := by
  have h0 := h
  obtain ⟨a, cap, rfl, h1, h2, h3⟩ := h.1.shape
  clear h
  go_enter Try.func17, Try.ntmps17
  go_wp2
  · go_ret
    exact ⟨⟨_, rfl, h0.1.take 60 (by omega), fun s hs => h0.2 s (List.mem_of_mem_take hs)⟩, rfl⟩
  · go_ret
    exact ⟨⟨_, rfl, by rw [List.take_of_length_le (by omega)]; exact h0⟩, rfl⟩
theorem sameSn_self (x : Sn) : sameSn x x = true := by simp [sameSn, sameB]
def JB (w W : World) (yv : Array Value) (sf st wf wt : Int) : Prop :=
  Blk W w.heap.size 23 #[.int .i64 sf, .int .i64 st] ∧ Blk W (w.heap.size + 1) 23 #[.int .i64 wf, .int .i64 wt] ∧ Blk W (w.heap.size + 1 + 1) 39 yv ∧ Below w.heap.size w W
theorem JB.keep {w W W' : World} {yv : Array Value} {sf st wf wt : Int} (h : JB w W yv sf st wf wt) (hb : Below W.heap.size W W') : JB w W' yv sf st wf wt :=
  ⟨h.1.keep' hb, h.2.1.keep' hb, h.2.2.1.keep' hb, h.2.2.2.trans (hb.mono h.2.2.2.size)⟩
theorem JB.cells {w W : World} {yv : Array Value} {sf st wf wt : Int} (h : JB w W yv sf st wf wt) :
    W.cell? ⟨w.heap.size, 0, none⟩ = some (.int .i64 sf) ∧ W.cell? ⟨w.heap.size, 1, none⟩ = some (.int .i64 st) ∧ W.cell? ⟨w.heap.size + 1, 0, none⟩ = some (.int .i64 wf) ∧ W.cell? ⟨w.heap.size + 1, 1, none⟩ = some (.int .i64 wt) :=
  ⟨h.1.cell 0, h.1.cell 1, h.2.1.cell 0, h.2.1.cell 1⟩
theorem blk4 {w : World} {b : Nat} {t : TypeId} {v0 v1 v2 v3 : Value} (h : Blk w b t #[v0, v1, v2, v3]) :
    w.cell? ⟨b, 0, none⟩ = some v0 ∧ w.cell? ⟨b, 1, none⟩ = some v1 ∧ w.cell? ⟨b, 2, none⟩ = some v2 ∧ w.cell? ⟨b, 3, none⟩ = some v3 := ⟨h.cell 0, h.cell 1, h.cell 2, h.cell 3⟩

set_option maxRecDepth 100000 in
set_option maxHeartbeats 3200000 in
theorem judges_walk (l : List Sg) (v : Value) (slot win : Sp) (th : Int) (y : Sn) (a0 : Option Addr) (c0 : Nat) (w : World) (h : Sgs w v l) (hy : Byts w (.slice a0 y.b.length c0) y.b) :
    Calls Try.prog 4 #[v, spv slot, spv win, .int .i64 th, snv y a0 c0] w fun e w' => e = .returned (.bool true) ∧ Below w.heap.size w w' := by
  have hlen : (l.take 60).length * 8 ≤ 140737488355328 := by rw [List.length_take]; omega
  have hfew := fun W (hW : Below w.heap.size w W) => few_any l v W (h.below hW)
  have hj1 := fun W v' (hs : Sgs W v' (l.take 60)) => judge_any (l.take 60) v' slot win th W hs
  have hj2 := fun W v' (hs : Sgs W v' (l.take 60)) => rjudge_any (l.take 60) v' slot win th W hs hlen
  have HSY := Lib.hid (sameSn_self (judge (l.take 60) slot win th))
  obtain ⟨sf, st⟩ := slot
  obtain ⟨wf, wt⟩ := win
  obtain ⟨k0, m0, n0, B0⟩ := y
  unfold JudgePost spv snv at hj1 hj2
  unfold spv snv
  simp only at hj1 hj2 hy ⊢
  have hJB : JB w (((w.alloc (.cells #[.int .i64 sf, .int .i64 st] 23)).alloc (.cells #[.int .i64 wf, .int .i64 wt] 23)).alloc (.cells #[.int .i64 k0, .int .i64 m0, .int .i64 n0, .slice a0 B0.length c0] 39)) #[.int .i64 k0, .int .i64 m0, .int .i64 n0, .slice a0 B0.length c0] sf st wf wt := ⟨((Blk.new' rfl).alloc _).alloc _, (Blk.new' (by simp)).alloc _, Blk.new' (by simp), below3 w _ _ _⟩
  have HJB := Lib.hid hJB
  have HYB := Lib.hid hy
  clear hJB hlen h hy
  generalize judge _ _ _ _ = X at *
  obtain ⟨kx, mx, nx, Bx⟩ := X
  simp only at hj1 hj2
  generalize hL0 : B0.length = L0 at *
  generalize hLx : Bx.length = Lx at *
  have HL0 := Lib.hid hL0
  have HLx := Lib.hid hLx
  clear hL0 hLx
  go_enter Try.func4, Try.ntmps4
  go_upto_region 4 with (first
    | (go_at_call 17; refine (hfew _ HJB.out.2.2.2).mono ?_; rintro e w0 ⟨⟨v', rfl, hs⟩, rfl⟩; have HS := Lib.hid hs; clear hs hfew)
    | (go_at_call 18; refine (hj1 _ _ HS.out).mono ?_; rintro e w1 ⟨a1, c1, rfl, hx1, hb1⟩; have HX1 := Lib.hid hx1; have HJ1 := Lib.hid ((HJB.out.keep hb1).keep (below1 w1 (.cells #[.int .i64 kx, .int .i64 mx, .int .i64 nx, .slice a1 Lx c1] 39))); have HS1 := Lib.hid ((HS.out.below hb1).below (below1 w1 (.cells #[.int .i64 kx, .int .i64 mx, .int .i64 nx, .slice a1 Lx c1] 39))); have D1 : Hid (Blk (w1.alloc (.cells #[.int .i64 kx, .int .i64 mx, .int .i64 nx, .slice a1 Lx c1] 39)) w1.heap.size 39 #[.int .i64 kx, .int .i64 mx, .int .i64 nx, .slice a1 Lx c1]) := (Blk.new' rfl : Blk _ _ _ _); obtain ⟨s0, s1, s2, s3⟩ := HJ1.out.cells; have HX1b := Lib.hid (hx1.below (below1 w1 (.cells #[.int .i64 kx, .int .i64 mx, .int .i64 nx, .slice a1 Lx c1] 39))); clear hx1 hb1 hj1)
    | (go_at_call 19; refine (hj2 _ _ HS1.out).mono ?_; rintro e w2 ⟨a2, c2, rfl, hx2, hb2⟩; have HX2 := Lib.hid (hx2.below (below1 w2 (.cells #[.int .i64 kx, .int .i64 mx, .int .i64 nx, .slice a2 Lx c2] 39))); have HB2 := Lib.hid hb2; clear hx2 hb2 hj2 s0 s1 s2 s3))
  have XJ := (HJ1.out.keep HB2.out).keep (below1 w2 (.cells #[.int .i64 kx, .int .i64 mx, .int .i64 nx, .slice a2 Lx c2] 39))
  have X1 : Blk (w2.alloc (.cells #[.int .i64 kx, .int .i64 mx, .int .i64 nx, .slice a2 Lx c2] 39)) w1.heap.size 39 #[.int .i64 kx, .int .i64 mx, .int .i64 nx, .slice a1 Lx c1] := Blk.keep' (Blk.keep' D1.out HB2.out) (below1 w2 (.cells #[.int .i64 kx, .int .i64 mx, .int .i64 nx, .slice a2 Lx c2] 39))
  have X2 : Blk (w2.alloc (.cells #[.int .i64 kx, .int .i64 mx, .int .i64 nx, .slice a2 Lx c2] 39)) w2.heap.size 39 #[.int .i64 kx, .int .i64 mx, .int .i64 nx, .slice a2 Lx c2] := Blk.new' rfl
  have Y1 := (HX1b.out.below HB2.out).below (below1 w2 (.cells #[.int .i64 kx, .int .i64 mx, .int .i64 nx, .slice a2 Lx c2] 39))
  have Y2 := HX2.out
  have Y0 := HYB.out.below XJ.2.2.2
  clear HJ1 D1 HX1b HX2 HX1 HS HS1 HJB HYB HB2
  generalize w2.alloc (.cells #[.int .i64 kx, .int .i64 mx, .int .i64 nx, .slice a2 Lx c2] 39) = W3 at *
  have XA := XJ.2.2.2
  have k11 : ∀ W, Below W3.heap.size W3 W → Calls Try.prog 11 #[] W fun e w' => e = .returned (.bool true) ∧ Below W.heap.size W w' := fun W _ => begun_any W
  have k20 : ∀ W, Below W3.heap.size W3 W → Calls Try.prog 20 #[.agg #[.int .i64 kx, .int .i64 mx, .int .i64 nx, .slice a1 Lx c1], .agg #[.int .i64 kx, .int .i64 mx, .int .i64 nx, .slice a2 Lx c2]] W fun e w' => e = .returned (.bool true) ∧ Below W.heap.size W w' := fun W hW => by
    have := rseensame_any ⟨kx, mx, nx, Bx⟩ ⟨kx, mx, nx, Bx⟩ a1 c1 a2 c2 W (by simp only [HLx.out]; exact Y1.below hW) (by simp only [HLx.out]; exact Y2.below hW)
    rw [HSY.out] at this
    unfold snv at this
    simp only [HLx.out] at this
    exact this
  have k21p : ∀ W, Below W3.heap.size W3 W → Calls Try.prog 21 #[.agg #[.int .i64 kx, .int .i64 mx, .int .i64 nx, .slice a1 Lx c1], .agg #[.int .i64 kx, .int .i64 mx, .int .i64 nx, .slice a1 Lx c1]] W fun e w' => e = .returned (.bool true) ∧ Below W.heap.size W w' := fun W hW => by
    have := seensame_any ⟨kx, mx, nx, Bx⟩ ⟨kx, mx, nx, Bx⟩ a1 c1 a1 c1 W (by simp only [HLx.out]; exact Y1.below hW) (by simp only [HLx.out]; exact Y1.below hW)
    rw [HSY.out] at this
    unfold snv at this
    simp only [HLx.out] at this
    exact this
  have k21 : ∀ W, Below W3.heap.size W3 W → Calls Try.prog 21 #[.agg #[.int .i64 kx, .int .i64 mx, .int .i64 nx, .slice a1 Lx c1], .agg #[.int .i64 k0, .int .i64 m0, .int .i64 n0, .slice a0 L0 c0]] W fun e w' => e = .returned (.bool (sameSn ⟨kx, mx, nx, Bx⟩ ⟨k0, m0, n0, B0⟩)) ∧ Below W.heap.size W w' := fun W hW => by
    have := seensame_any ⟨kx, mx, nx, Bx⟩ ⟨k0, m0, n0, B0⟩ a1 c1 a0 c0 W (by simp only [HLx.out]; exact Y1.below hW) (by simp only [HL0.out]; exact Y0.below hW)
    unfold snv at this
    simp only [HLx.out, HL0.out] at this
    exact this
  have k20y : ∀ W, Below W3.heap.size W3 W → Calls Try.prog 20 #[.agg #[.int .i64 kx, .int .i64 mx, .int .i64 nx, .slice a2 Lx c2], .agg #[.int .i64 k0, .int .i64 m0, .int .i64 n0, .slice a0 L0 c0]] W fun e w' => e = .returned (.bool (sameSn ⟨kx, mx, nx, Bx⟩ ⟨k0, m0, n0, B0⟩)) ∧ Below W.heap.size W w' := fun W hW => by
    have := rseensame_any ⟨kx, mx, nx, Bx⟩ ⟨k0, m0, n0, B0⟩ a2 c2 a0 c0 W (by simp only [HLx.out]; exact Y2.below hW) (by simp only [HL0.out]; exact Y0.below hW)
    unfold snv at this
    simp only [HLx.out, HL0.out] at this
    exact this
  generalize sameSn _ _ = zz at *
  have H1 : W3.drew.cell? ⟨w.heap.size + 1 + 1, 0, none⟩ = some (.int .i64 k0) ∧ W3.drew.cell? ⟨w.heap.size + 1 + 1, 1, none⟩ = some (.int .i64 m0) ∧ W3.drew.cell? ⟨w.heap.size + 1 + 1, 2, none⟩ = some (.int .i64 n0) ∧ W3.drew.cell? ⟨w.heap.size + 1 + 1, 3, none⟩ = some (.slice a0 L0 c0) ∧ W3.drew.cell? ⟨w1.heap.size, 0, none⟩ = some (.int .i64 kx) ∧ W3.drew.cell? ⟨w1.heap.size, 1, none⟩ = some (.int .i64 mx) ∧ W3.drew.cell? ⟨w1.heap.size, 2, none⟩ = some (.int .i64 nx) ∧ W3.drew.cell? ⟨w1.heap.size, 3, none⟩ = some (.slice a1 Lx c1) ∧ W3.drew.cell? ⟨w2.heap.size, 0, none⟩ = some (.int .i64 kx) ∧ W3.drew.cell? ⟨w2.heap.size, 1, none⟩ = some (.int .i64 mx) ∧ W3.drew.cell? ⟨w2.heap.size, 2, none⟩ = some (.int .i64 nx) ∧ W3.drew.cell? ⟨w2.heap.size, 3, none⟩ = some (.slice a2 Lx c2) ∧ Below W3.heap.size W3 W3.drew := by
    obtain ⟨x0, x1, x2, x3⟩ := blk4 XJ.2.2.1
    obtain ⟨y0, y1, y2, y3⟩ := blk4 X1
    obtain ⟨z0, z1, z2, z3⟩ := blk4 X2
    exact ⟨x0, x1, x2, x3, y0, y1, y2, y3, z0, z1, z2, z3, (Below.refl _ _).drew⟩
  have KK : ∀ (k : Nat) (args : Array Value) (r : Value) (W : World), (∀ W, Below W3.heap.size W3 W → Calls Try.prog k args W fun e w' => e = .returned r ∧ Below W.heap.size W w') → (W.cell? ⟨w.heap.size + 1 + 1, 0, none⟩ = some (.int .i64 k0) ∧ W.cell? ⟨w.heap.size + 1 + 1, 1, none⟩ = some (.int .i64 m0) ∧ W.cell? ⟨w.heap.size + 1 + 1, 2, none⟩ = some (.int .i64 n0) ∧ W.cell? ⟨w.heap.size + 1 + 1, 3, none⟩ = some (.slice a0 L0 c0) ∧ W.cell? ⟨w1.heap.size, 0, none⟩ = some (.int .i64 kx) ∧ W.cell? ⟨w1.heap.size, 1, none⟩ = some (.int .i64 mx) ∧ W.cell? ⟨w1.heap.size, 2, none⟩ = some (.int .i64 nx) ∧ W.cell? ⟨w1.heap.size, 3, none⟩ = some (.slice a1 Lx c1) ∧ W.cell? ⟨w2.heap.size, 0, none⟩ = some (.int .i64 kx) ∧ W.cell? ⟨w2.heap.size, 1, none⟩ = some (.int .i64 mx) ∧ W.cell? ⟨w2.heap.size, 2, none⟩ = some (.int .i64 nx) ∧ W.cell? ⟨w2.heap.size, 3, none⟩ = some (.slice a2 Lx c2) ∧ Below W3.heap.size W3 W) →
      Calls Try.prog k args W fun e W => e = .returned r ∧ W.cell? ⟨w.heap.size + 1 + 1, 0, none⟩ = some (.int .i64 k0) ∧ W.cell? ⟨w.heap.size + 1 + 1, 1, none⟩ = some (.int .i64 m0) ∧ W.cell? ⟨w.heap.size + 1 + 1, 2, none⟩ = some (.int .i64 n0) ∧ W.cell? ⟨w.heap.size + 1 + 1, 3, none⟩ = some (.slice a0 L0 c0) ∧ W.cell? ⟨w1.heap.size, 0, none⟩ = some (.int .i64 kx) ∧ W.cell? ⟨w1.heap.size, 1, none⟩ = some (.int .i64 mx) ∧ W.cell? ⟨w1.heap.size, 2, none⟩ = some (.int .i64 nx) ∧ W.cell? ⟨w1.heap.size, 3, none⟩ = some (.slice a1 Lx c1) ∧ W.cell? ⟨w2.heap.size, 0, none⟩ = some (.int .i64 kx) ∧ W.cell? ⟨w2.heap.size, 1, none⟩ = some (.int .i64 mx) ∧ W.cell? ⟨w2.heap.size, 2, none⟩ = some (.int .i64 nx) ∧ W.cell? ⟨w2.heap.size, 3, none⟩ = some (.slice a2 Lx c2) ∧ Below W3.heap.size W3 W := fun k args r W h hs => (h W hs.2.2.2.2.2.2.2.2.2.2.2.2).mono fun e w' ⟨he, hb⟩ =>
    ⟨he, keepCell hb hs.1, keepCell hb hs.2.1, keepCell hb hs.2.2.1, keepCell hb hs.2.2.2.1, keepCell hb hs.2.2.2.2.1, keepCell hb hs.2.2.2.2.2.1, keepCell hb hs.2.2.2.2.2.2.1, keepCell hb hs.2.2.2.2.2.2.2.1, keepCell hb hs.2.2.2.2.2.2.2.2.1, keepCell hb hs.2.2.2.2.2.2.2.2.2.1, keepCell hb hs.2.2.2.2.2.2.2.2.2.2.1, keepCell hb hs.2.2.2.2.2.2.2.2.2.2.2.1, hs.2.2.2.2.2.2.2.2.2.2.2.2.trans (hb.mono hs.2.2.2.2.2.2.2.2.2.2.2.2.size)⟩
  have HXA := Lib.hid XA
  clear XJ X1 X2 XA Y0 Y1 Y2 HSY HL0 HLx
  refine wp_region_held_drew (S := (fun W => W.cell? ⟨w.heap.size + 1 + 1, 0, none⟩ = some (.int .i64 k0) ∧ W.cell? ⟨w.heap.size + 1 + 1, 1, none⟩ = some (.int .i64 m0) ∧ W.cell? ⟨w.heap.size + 1 + 1, 2, none⟩ = some (.int .i64 n0) ∧ W.cell? ⟨w.heap.size + 1 + 1, 3, none⟩ = some (.slice a0 L0 c0) ∧ W.cell? ⟨w1.heap.size, 0, none⟩ = some (.int .i64 kx) ∧ W.cell? ⟨w1.heap.size, 1, none⟩ = some (.int .i64 mx) ∧ W.cell? ⟨w1.heap.size, 2, none⟩ = some (.int .i64 nx) ∧ W.cell? ⟨w1.heap.size, 3, none⟩ = some (.slice a1 Lx c1) ∧ W.cell? ⟨w2.heap.size, 0, none⟩ = some (.int .i64 kx) ∧ W.cell? ⟨w2.heap.size, 1, none⟩ = some (.int .i64 mx) ∧ W.cell? ⟨w2.heap.size, 2, none⟩ = some (.int .i64 nx) ∧ W.cell? ⟨w2.heap.size, 3, none⟩ = some (.slice a2 Lx c2) ∧ Below W3.heap.size W3 W)) (by kernel_rfl) (by assumption) (fun hHeld => ?_)
  (refine takeC (i := 0) rfl (by kernel_rfl) (by rfl) (fun K hK => ?_); go_simp; (first | (go_at_call 11; with_reducible refine (KK _ _ _ _ k11 (by assumption)).mono ?_; rintro e w' ⟨rfl, hs⟩) | (go_at_call 20; with_reducible refine (KK _ _ _ _ k20 (by assumption)).mono ?_; rintro e w' ⟨rfl, hs⟩) | (go_at_call 21; with_reducible refine (KK _ _ _ _ k21 (by assumption)).mono ?_; rintro e w' ⟨rfl, hs⟩) | (go_at_call 20; with_reducible refine (KK _ _ _ _ k20y (by assumption)).mono ?_; rintro e w' ⟨rfl, hs⟩) | (go_at_call 21; with_reducible refine (KK _ _ _ _ k21p (by assumption)).mono ?_; rintro e w' ⟨rfl, hs⟩)); refine hK.out _ _ hs (fun hHeld => ?_); clear hK K; (try simp only [Act.put, List.setIfInBounds_toArray, List.set_cons_zero, List.set_cons_succ]))
  (refine takeW (i := 1) (v := ?_) rfl (by kernel_rfl) (by kernel_rfl) (by kernel_rfl) (fun _ _ _ h => h) (by rfl) (by assumption) ?_ ?_; rotate_left; (intro W hW; (try dsimp only at hW); go_simp; try with_reducible rfl); (try simp only [Act.put, List.setIfInBounds_toArray, List.set_cons_zero, List.set_cons_succ]))
  first
    | (refine takeW (i := 2) (v := ?_) rfl (by kernel_rfl) (by kernel_rfl) (by kernel_rfl) (fun _ _ _ h => h) (by rfl) (by assumption) ?_ ?_; rotate_left; (intro W hW; (try dsimp only at hW); go_simp; try with_reducible rfl); (try simp only [Act.put, List.setIfInBounds_toArray, List.set_cons_zero, List.set_cons_succ]))
    | (refine takeU (i := 2) rfl (by kernel_rfl) (by kernel_rfl) (by kernel_rfl) (fun _ _ _ h => h) (by rfl) (by assumption) ?_; (try simp only [Act.put, List.setIfInBounds_toArray, List.set_cons_zero, List.set_cons_succ]))
  first
    | (refine takeW (i := 3) (v := ?_) rfl (by kernel_rfl) (by kernel_rfl) (by kernel_rfl) (fun _ _ _ h => h) (by rfl) (by assumption) ?_ ?_; rotate_left; (intro W hW; (try dsimp only at hW); go_simp; try with_reducible rfl); (try simp only [Act.put, List.setIfInBounds_toArray, List.set_cons_zero, List.set_cons_succ]))
    | (refine takeU (i := 3) rfl (by kernel_rfl) (by kernel_rfl) (by kernel_rfl) (fun _ _ _ h => h) (by rfl) (by assumption) ?_; (try simp only [Act.put, List.setIfInBounds_toArray, List.set_cons_zero, List.set_cons_succ]))
  first
    | (refine takeC (i := 4) rfl (by kernel_rfl) (by rfl) (fun K hK => ?_); go_simp; (first | (go_at_call 11; with_reducible refine (KK _ _ _ _ k11 (by assumption)).mono ?_; rintro e w' ⟨rfl, hs⟩) | (go_at_call 20; with_reducible refine (KK _ _ _ _ k20 (by assumption)).mono ?_; rintro e w' ⟨rfl, hs⟩) | (go_at_call 21; with_reducible refine (KK _ _ _ _ k21 (by assumption)).mono ?_; rintro e w' ⟨rfl, hs⟩) | (go_at_call 20; with_reducible refine (KK _ _ _ _ k20y (by assumption)).mono ?_; rintro e w' ⟨rfl, hs⟩) | (go_at_call 21; with_reducible refine (KK _ _ _ _ k21p (by assumption)).mono ?_; rintro e w' ⟨rfl, hs⟩)); refine hK.out _ _ hs (fun hHeld => ?_); clear hK K; (try simp only [Act.put, List.setIfInBounds_toArray, List.set_cons_zero, List.set_cons_succ]))
    | (refine takeU (i := 4) rfl (by kernel_rfl) (by kernel_rfl) (by kernel_rfl) (fun _ _ _ h => h) (by rfl) (by assumption) ?_; (try simp only [Act.put, List.setIfInBounds_toArray, List.set_cons_zero, List.set_cons_succ]))
  (refine takeW (i := 5) (v := ?_) rfl (by kernel_rfl) (by kernel_rfl) (by kernel_rfl) (fun _ _ _ h => h) (by rfl) (by assumption) ?_ ?_; rotate_left; (intro W hW; (try dsimp only at hW); go_simp; try with_reducible rfl); (try simp only [Act.put, List.setIfInBounds_toArray, List.set_cons_zero, List.set_cons_succ]))
  (refine takeW (i := 6) (v := ?_) rfl (by kernel_rfl) (by kernel_rfl) (by kernel_rfl) (fun _ _ _ h => h) (by rfl) (by assumption) ?_ ?_; rotate_left; (intro W hW; (try dsimp only at hW); go_simp; try with_reducible rfl); (try simp only [Act.put, List.setIfInBounds_toArray, List.set_cons_zero, List.set_cons_succ]))
  first
    | (refine takeW (i := 7) (v := ?_) rfl (by kernel_rfl) (by kernel_rfl) (by kernel_rfl) (fun _ _ _ h => h) (by rfl) (by assumption) ?_ ?_; rotate_left; (intro W hW; (try dsimp only at hW); go_simp; try with_reducible rfl); (try simp only [Act.put, List.setIfInBounds_toArray, List.set_cons_zero, List.set_cons_succ]))
    | (refine takeU (i := 7) rfl (by kernel_rfl) (by kernel_rfl) (by kernel_rfl) (fun _ _ _ h => h) (by rfl) (by assumption) ?_; (try simp only [Act.put, List.setIfInBounds_toArray, List.set_cons_zero, List.set_cons_succ]))
  first
    | (refine takeW (i := 8) (v := ?_) rfl (by kernel_rfl) (by kernel_rfl) (by kernel_rfl) (fun _ _ _ h => h) (by rfl) (by assumption) ?_ ?_; rotate_left; (intro W hW; (try dsimp only at hW); go_simp; try with_reducible rfl); (try simp only [Act.put, List.setIfInBounds_toArray, List.set_cons_zero, List.set_cons_succ]))
    | (refine takeU (i := 8) rfl (by kernel_rfl) (by kernel_rfl) (by kernel_rfl) (fun _ _ _ h => h) (by rfl) (by assumption) ?_; (try simp only [Act.put, List.setIfInBounds_toArray, List.set_cons_zero, List.set_cons_succ]))
  first
    | (refine takeW (i := 10) (v := ?_) rfl (by kernel_rfl) (by kernel_rfl) (by kernel_rfl) (fun _ _ _ h => h) (by rfl) (by assumption) ?_ ?_; rotate_left; (intro W hW; (try dsimp only at hW); go_simp; try with_reducible rfl); (try simp only [Act.put, List.setIfInBounds_toArray, List.set_cons_zero, List.set_cons_succ]))
    | (refine takeU (i := 10) rfl (by kernel_rfl) (by kernel_rfl) (by kernel_rfl) (fun _ _ _ h => h) (by rfl) (by assumption) ?_; (try simp only [Act.put, List.setIfInBounds_toArray, List.set_cons_zero, List.set_cons_succ]))
  first
    | (refine takeW (i := 11) (v := ?_) rfl (by kernel_rfl) (by kernel_rfl) (by kernel_rfl) (fun _ _ _ h => h) (by rfl) (by assumption) ?_ ?_; rotate_left; (intro W hW; (try dsimp only at hW); go_simp; try with_reducible rfl); (try simp only [Act.put, List.setIfInBounds_toArray, List.set_cons_zero, List.set_cons_succ]))
    | (refine takeU (i := 11) rfl (by kernel_rfl) (by kernel_rfl) (by kernel_rfl) (fun _ _ _ h => h) (by rfl) (by assumption) ?_; (try simp only [Act.put, List.setIfInBounds_toArray, List.set_cons_zero, List.set_cons_succ]))
  first
    | (refine takeC (i := 9) rfl (by kernel_rfl) (by rfl) (fun K hK => ?_); go_simp; (first | (go_at_call 11; with_reducible refine (KK _ _ _ _ k11 (by assumption)).mono ?_; rintro e w' ⟨rfl, hs⟩) | (go_at_call 20; with_reducible refine (KK _ _ _ _ k20 (by assumption)).mono ?_; rintro e w' ⟨rfl, hs⟩) | (go_at_call 21; with_reducible refine (KK _ _ _ _ k21 (by assumption)).mono ?_; rintro e w' ⟨rfl, hs⟩) | (go_at_call 20; with_reducible refine (KK _ _ _ _ k20y (by assumption)).mono ?_; rintro e w' ⟨rfl, hs⟩) | (go_at_call 21; with_reducible refine (KK _ _ _ _ k21p (by assumption)).mono ?_; rintro e w' ⟨rfl, hs⟩)); refine hK.out _ _ hs (fun hHeld => ?_); clear hK K; (try simp only [Act.put, List.setIfInBounds_toArray, List.set_cons_zero, List.set_cons_succ]))
    | (refine takeU (i := 9) rfl (by kernel_rfl) (by kernel_rfl) (by kernel_rfl) (fun _ _ _ h => h) (by rfl) (by assumption) ?_; (try simp only [Act.put, List.setIfInBounds_toArray, List.set_cons_zero, List.set_cons_succ]))
  first
    | (refine takeC (i := 12) rfl (by kernel_rfl) (by rfl) (fun K hK => ?_); go_simp; (first | (go_at_call 11; with_reducible refine (KK _ _ _ _ k11 (by assumption)).mono ?_; rintro e w' ⟨rfl, hs⟩) | (go_at_call 20; with_reducible refine (KK _ _ _ _ k20 (by assumption)).mono ?_; rintro e w' ⟨rfl, hs⟩) | (go_at_call 21; with_reducible refine (KK _ _ _ _ k21 (by assumption)).mono ?_; rintro e w' ⟨rfl, hs⟩) | (go_at_call 20; with_reducible refine (KK _ _ _ _ k20y (by assumption)).mono ?_; rintro e w' ⟨rfl, hs⟩) | (go_at_call 21; with_reducible refine (KK _ _ _ _ k21p (by assumption)).mono ?_; rintro e w' ⟨rfl, hs⟩)); refine hK.out _ _ hs (fun hHeld => ?_); clear hK K; (try simp only [Act.put, List.setIfInBounds_toArray, List.set_cons_zero, List.set_cons_succ]))
    | (refine takeU (i := 12) rfl (by kernel_rfl) (by kernel_rfl) (by kernel_rfl) (fun _ _ _ h => h) (by rfl) (by assumption) ?_; (try simp only [Act.put, List.setIfInBounds_toArray, List.set_cons_zero, List.set_cons_succ]))
  first
    | (refine takeW (i := 13) (v := ?_) rfl (by kernel_rfl) (by kernel_rfl) (by kernel_rfl) (fun _ _ _ h => h) (by rfl) (by assumption) ?_ ?_; rotate_left; (intro W hW; (try dsimp only at hW); go_simp; try with_reducible rfl); (try simp only [Act.put, List.setIfInBounds_toArray, List.set_cons_zero, List.set_cons_succ]))
    | (refine takeU (i := 13) rfl (by kernel_rfl) (by kernel_rfl) (by kernel_rfl) (fun _ _ _ h => h) (by rfl) (by assumption) ?_; (try simp only [Act.put, List.setIfInBounds_toArray, List.set_cons_zero, List.set_cons_succ]))
  (refine takeW (i := 14) (v := ?_) rfl (by kernel_rfl) (by kernel_rfl) (by kernel_rfl) (fun _ _ _ h => h) (by rfl) (by assumption) ?_ ?_; rotate_left; (intro W hW; (try dsimp only at hW); go_simp; try with_reducible rfl); (try simp only [Act.put, List.setIfInBounds_toArray, List.set_cons_zero, List.set_cons_succ]))
  (refine takeW (i := 15) (v := ?_) rfl (by kernel_rfl) (by kernel_rfl) (by kernel_rfl) (fun _ _ _ h => h) (by rfl) (by assumption) ?_ ?_; rotate_left; (intro W hW; (try dsimp only at hW); go_simp; try with_reducible rfl); (try simp only [Act.put, List.setIfInBounds_toArray, List.set_cons_zero, List.set_cons_succ]))
  first
    | (refine takeW (i := 16) (v := ?_) rfl (by kernel_rfl) (by kernel_rfl) (by kernel_rfl) (fun _ _ _ h => h) (by rfl) (by assumption) ?_ ?_; rotate_left; (intro W hW; (try dsimp only at hW); go_simp; try with_reducible rfl); (try simp only [Act.put, List.setIfInBounds_toArray, List.set_cons_zero, List.set_cons_succ]))
    | (refine takeU (i := 16) rfl (by kernel_rfl) (by kernel_rfl) (by kernel_rfl) (fun _ _ _ h => h) (by rfl) (by assumption) ?_; (try simp only [Act.put, List.setIfInBounds_toArray, List.set_cons_zero, List.set_cons_succ]))
  first
    | (refine takeW (i := 17) (v := ?_) rfl (by kernel_rfl) (by kernel_rfl) (by kernel_rfl) (fun _ _ _ h => h) (by rfl) (by assumption) ?_ ?_; rotate_left; (intro W hW; (try dsimp only at hW); go_simp; try with_reducible rfl); (try simp only [Act.put, List.setIfInBounds_toArray, List.set_cons_zero, List.set_cons_succ]))
    | (refine takeU (i := 17) rfl (by kernel_rfl) (by kernel_rfl) (by kernel_rfl) (fun _ _ _ h => h) (by rfl) (by assumption) ?_; (try simp only [Act.put, List.setIfInBounds_toArray, List.set_cons_zero, List.set_cons_succ]))
  first
    | (refine takeC (i := 18) rfl (by kernel_rfl) (by rfl) (fun K hK => ?_); go_simp; (first | (go_at_call 11; with_reducible refine (KK _ _ _ _ k11 (by assumption)).mono ?_; rintro e w' ⟨rfl, hs⟩) | (go_at_call 20; with_reducible refine (KK _ _ _ _ k20 (by assumption)).mono ?_; rintro e w' ⟨rfl, hs⟩) | (go_at_call 21; with_reducible refine (KK _ _ _ _ k21 (by assumption)).mono ?_; rintro e w' ⟨rfl, hs⟩) | (go_at_call 20; with_reducible refine (KK _ _ _ _ k20y (by assumption)).mono ?_; rintro e w' ⟨rfl, hs⟩) | (go_at_call 21; with_reducible refine (KK _ _ _ _ k21p (by assumption)).mono ?_; rintro e w' ⟨rfl, hs⟩)); refine hK.out _ _ hs (fun hHeld => ?_); clear hK K; (try simp only [Act.put, List.setIfInBounds_toArray, List.set_cons_zero, List.set_cons_succ]))
    | (refine takeU (i := 18) rfl (by kernel_rfl) (by kernel_rfl) (by kernel_rfl) (fun _ _ _ h => h) (by rfl) (by assumption) ?_; (try simp only [Act.put, List.setIfInBounds_toArray, List.set_cons_zero, List.set_cons_succ]))
  (refine takeW (i := 19) (v := ?_) rfl (by kernel_rfl) (by kernel_rfl) (by kernel_rfl) (fun _ _ _ h => h) (by rfl) (by assumption) ?_ ?_; rotate_left; (intro W hW; (try dsimp only at hW); go_simp; try with_reducible rfl); (try simp only [Act.put, List.setIfInBounds_toArray, List.set_cons_zero, List.set_cons_succ]))
  (refine takeW (i := 20) (v := ?_) rfl (by kernel_rfl) (by kernel_rfl) (by kernel_rfl) (fun _ _ _ h => h) (by rfl) (by assumption) ?_ ?_; rotate_left; (intro W hW; (try dsimp only at hW); go_simp; try with_reducible rfl); (try simp only [Act.put, List.setIfInBounds_toArray, List.set_cons_zero, List.set_cons_succ]))
  refine wpAnyH_done (by kernel_rfl) ?_ _
  go_wp2
  go_ret
  exact ⟨rfl, HXA.out.trans (hs.2.2.2.2.2.2.2.2.2.2.2.2.mono HXA.out.size)⟩
end Go.Proofs.Ytehgiagefiakkaa
