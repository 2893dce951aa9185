/- Contract of clear: is a signal a frame, if it is alone? -/
import Derived.Test.YtehgiagefiakkaaB5
namespace Go.Proofs.Ytehgiagefiakkaa
open Go.RowKit Go.Shelf
open Sched (Sp bad)
open Sig

def clr (s : Sg) (slot win : Sp) : Bool := whole s && within s.sp slot && !bad win && decide (win.1 ≤ s.sp.1) && decide (s.sp.1 < win.2)

set_option maxRecDepth 100000 in
set_option maxHeartbeats 3200000 in
theorem clear_any (s : Sg) (slot win : Sp) (w : World) (h : GoodSg w s) :
    Calls Try.prog 42 #[sgv s, spv slot, spv win] w fun e w' => e = .returned (.bool (clr s slot win)) ∧ Below w.heap.size w w' := by
  obtain ⟨sf, st⟩ := slot
  obtain ⟨wf, wt⟩ := win
  have hwh : ∀ W, Below w.heap.size w W → _ := fun W hW => whole_any s W (h.below hW)
  have hin := fun W => within_any s.sp.1 s.sp.2 sf st W
  have hck := fun W => check_any wf wt W
  have HW : Hid (clr s (sf, st) (wf, wt) = (whole s && within s.sp (sf, st) && !bad (wf, wt) && decide (wf ≤ s.sp.1) && decide (s.sp.1 < wt))) := rfl
  have HS : Hid (chk (wf, wt) = if bad (wf, wt) then 60 else 0) := rfl
  have hal : ∀ o1 o2 o3, Below w.heap.size w (((w.alloc o1).alloc o2).alloc o3) := fun _ _ _ => below3 w _ _ _
  obtain ⟨fr, ⟨f, t⟩, lv, n, a, c, B⟩ := s
  unfold sgv spv at *
  simp only at hwh hin HW ⊢
  clear h
  generalize clr _ _ _ = z at *
  generalize whole _ = p at *
  generalize within _ _ = q at *
  generalize bad _ = r at *
  generalize chk _ = x at *
  generalize B.length = L at *
  cases p
  · go_enter Try.func42, Try.ntmps42
    go_wp2_with (go_at_call 14; refine (hwh _ (hal _ _ _)).mono ?_; rintro e w1 ⟨rfl, hb1⟩; have hc1 := bcell hb1; have bb1 := bt (hal _ _ _) hb1)
    go_ret
    exact ⟨ret_bool (by rw [HW.out]; simp), bb1⟩
  cases q
  · go_enter Try.func42, Try.ntmps42
    go_wp2_with fail
    refine (hwh _ (hal _ _ _)).mono ?_
    rintro e w1 ⟨rfl, hb1⟩
    have hc1 := bcell hb1
    have bb1 := bt (hal _ _ _) hb1
    go_wp2_with fail
    refine (hin _).mono ?_
    rintro e w2 ⟨rfl, hb2⟩
    go_wp2_with fail
    go_ret
    exact ⟨ret_bool (by rw [HW.out]; simp), bt bb1 hb2⟩
  have hrx : x = if r then 60 else 0 := HS.out
  clear HS
  cases r
  · obtain rfl : x = 0 := hrx
    go_enter Try.func42, Try.ntmps42
    go_wp2_with fail
    refine (hwh _ (hal _ _ _)).mono ?_
    rintro e w1 ⟨rfl, hb1⟩
    have hc1 := bcell hb1
    have bb1 := bt (hal _ _ _) hb1
    have hz1 : w.heap.size + 1 + 1 + 1 ≤ w1.heap.size := by have := hb1.size; simpa using this
    go_wp2_with fail
    refine (hin _).mono ?_
    rintro e w2 ⟨rfl, hb2⟩
    have hc2 := bcell (bt hb1 hb2)
    have bb2 := bt bb1 hb2
    have hz2 : w.heap.size + 1 + 1 + 1 ≤ w2.heap.size := Nat.le_trans hz1 hb2.size
    clear hc1
    go_wp2_with fail
    refine (hck _).mono ?_
    rintro e w3 ⟨rfl, hb3⟩
    have hc3 := bcell (bt (bt hb1 hb2) hb3)
    clear hc2
    go_wp2
    all_goals go_ret
    all_goals exact ⟨ret_bool (by rw [HW.out, Bool.eq_iff_iff]; try simp; try omega), bt bb2 hb3⟩
  · obtain rfl : x = 60 := hrx
    go_enter Try.func42, Try.ntmps42
    go_wp2_with fail
    refine (hwh _ (hal _ _ _)).mono ?_
    rintro e w1 ⟨rfl, hb1⟩
    have hc1 := bcell hb1
    have bb1 := bt (hal _ _ _) hb1
    go_wp2_with fail
    refine (hin _).mono ?_
    rintro e w2 ⟨rfl, hb2⟩
    have hc2 := bcell (bt hb1 hb2)
    have bb2 := bt bb1 hb2
    clear hc1
    go_wp2_with fail
    refine (hck _).mono ?_
    rintro e w3 ⟨rfl, hb3⟩
    clear hc2
    go_wp2_with fail
    go_ret
    exact ⟨ret_bool (by rw [HW.out]; simp), bt bb2 hb3⟩
end Go.Proofs.Ytehgiagefiakkaa
