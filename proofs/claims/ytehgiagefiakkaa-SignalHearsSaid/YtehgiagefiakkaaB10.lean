/- The law's small parts: begun. -/
import Derived.Test.YtehgiagefiakkaaB8
import Derived.Test.YtehgiagefiakkaaB9
namespace Go.Proofs.Ytehgiagefiakkaa
open Go.RowKit Go.Shelf
open Sched (Sp bad)
open Sig

def bsg (a : Option Addr) (c : Nat) : Sg := ⟨2, (50, 50 + air 20), 100, 20, a, c, [1, 2, 16]⟩
theorem begun_ok : mkOk 2 50 100 20 [1, 2, 16] = true := by decide +kernel
theorem begun_judge (a : Option Addr) (c : Nat) : judge [bsg a c] (0, 100) (40, 60) 50 = ⟨2, 50, 20, [1, 2, 16]⟩ := by kernel_rfl
theorem new_byts (w : World) : Byts (w.alloc (.cells #[.int .u8 1, .int .u8 2, .int .u8 16] 5)) (.slice (some ⟨w.heap.size, 0, none⟩) 3 3) [1, 2, 16] :=
  Byts.of_owns (base := w.heap.size) (World.ownsRow_lit w #[.int .u8 1, .int .u8 2, .int .u8 16] 3 (Nat.le_refl _) (by decide) rfl) (by decide) (by simp)

theorem bgood {w : World} {a : Option Addr} {c : Nat} (h : GoodSg w (bsg a c)) :
    Sgs ((w.alloc (.cells #[.int .i64 2, .int .i64 50, .int .i64 74, .int .i64 100, .int .i64 20, .slice a 3 c] 28)).alloc (.cells #[.int .i64 2, .int .i64 50, .int .i64 74, .int .i64 100, .int .i64 20, .slice a 3 c] 28)) (.slice (some ⟨w.heap.size + 1, 0, none⟩) 1 1) [bsg a c] := by
  refine ⟨?_, fun s hs => ?_⟩
  · have := Rd.new (w := w.alloc (.cells #[.int .i64 2, .int .i64 50, .int .i64 74, .int .i64 100, .int .i64 20, .slice a 3 c] 28)) (t := 28) encSg_len [bsg a c] (by simp)
    have e : (w.alloc (.cells #[.int .i64 2, .int .i64 50, .int .i64 74, .int .i64 100, .int .i64 20, .slice a 3 c] 28)).heap.size = w.heap.size + 1 := by simp
    rw [e] at this
    exact this
  · obtain rfl := List.mem_singleton.1 hs
    exact (h.below (below1 w _)).below (below1 _ _)

theorem bjudge {W : World} {v : Value} {a : Option Addr} {c : Nat} (h : Sgs W v [bsg a c]) :
    Calls Try.prog 18 #[v, .agg #[.int .i64 0, .int .i64 100], .agg #[.int .i64 40, .int .i64 60], .int .i64 50] W fun e w' => (∃ a' c', e = .returned (.agg #[.int .i64 2, .int .i64 50, .int .i64 20, .slice a' 3 c'])) ∧ Below W.heap.size W w' := by
  have := judge_any [bsg a c] v (0, 100) (40, 60) 50 W h
  unfold JudgePost at this
  rw [begun_judge] at this
  exact this.mono fun e w' ⟨a', c', he, _, hb⟩ => ⟨⟨a', c', he⟩, hb⟩

set_option maxRecDepth 100000 in
set_option maxHeartbeats 1600000 in
theorem begun_any (w : World) : Calls Try.prog 11 #[] w fun e w' => e = .returned (.bool true) ∧ Below w.heap.size w w' := by
  have h1 := make_any 2 50 100 20 (some ⟨w.heap.size, 0, none⟩) 3 [1, 2, 16] _ (new_byts w) (by unfold I64; omega) (by unfold I64; omega) (by unfold I64; omega)
  unfold MakePost at h1
  rw [begun_ok] at h1
  replace h1 : Calls Try.prog 9 _ _ fun e w1 => ∃ ba bc, e = .returned (.tuple #[.agg #[.int .i64 2, .int .i64 50, .int .i64 74, .int .i64 100, .int .i64 20, .slice ba 3 bc], .int .i64 0]) ∧ GoodSg w1 (bsg ba bc) ∧ Below w.heap.size w w1 :=
    h1.mono fun e w1 ⟨ba, bc, he, hg, hb⟩ => ⟨ba, bc, he, hg, bt (below1 w _) hb⟩
  go_enter Try.func11, Try.ntmps11
  go_wp2_with (first | (go_at_call 9; refine h1.mono ?_; rintro e w1 ⟨ba, bc, rfl, hg, hb1⟩; have hq := bjudge (bgood hg); have hbb := Lib.hid hb1; clear h1 hg hb1) | (go_at_call 18; (refine hq.mono ?_; rintro e w2 ⟨⟨a', c', rfl⟩, hb2⟩; have b2 := Lib.hid (hbb.out.trans (((below2 w1 _ _).trans (hb2.mono (below2 w1 _ _).size)).mono hbb.out.size)); have k2 : w2.cell? ⟨w1.heap.size, 2, none⟩ = some (.int .i64 74) := keepCell hb2 (by go_simp); have hlt : w1.heap.size < w2.heap.size := World.block_lt_of_cell? w2 _ k2; have k3 : (w2.alloc (.cells #[.int .i64 2, .int .i64 50, .int .i64 20, .slice a' 3 c'] 39)).cell? ⟨w1.heap.size, 2, none⟩ = some (.int .i64 74) := keepCell (below1 w2 _) k2; clear hb2 hq)))
  go_ret
  exact ⟨rfl, b2.out.alloc b2.out.size _⟩
end Go.Proofs.Ytehgiagefiakkaa
