/- Contracts of signals: Check of the program and of the document. -/
import Derived.Test.YtehgiagefiakkaaB2
namespace Go.Proofs.Ytehgiagefiakkaa
open Go.RowKit Go.Shelf
open Sched (Sp bad)
open Sig

/-- A signal as a value, its cells. -/
def encSg (s : Sg) : List Value := [.int .i64 s.fr, .int .i64 s.sp.1, .int .i64 s.sp.2, .int .i64 s.lv, .int .i64 s.n, .slice s.ba s.b.length s.bc]
def sgv (s : Sg) : Value := .agg #[.int .i64 s.fr, .int .i64 s.sp.1, .int .i64 s.sp.2, .int .i64 s.lv, .int .i64 s.n, .slice s.ba s.b.length s.bc]
/-- What is known of a signal that is read. -/
def GoodSg (w : World) (s : Sg) : Prop := Byts w (.slice s.ba s.b.length s.bc) s.b ∧ I64 s.fr ∧ I64 s.sp.1 ∧ I64 s.sp.2 ∧ I64 s.lv ∧ I64 s.n
theorem GoodSg.below {w w' : World} {s : Sg} (h : GoodSg w s) (hb : Below w.heap.size w w') : GoodSg w' s := ⟨h.1.below hb, h.2⟩

theorem errS_eq (s : Sg) : errS s = if s.fr < -1 ∨ 8 ≤ s.fr ∨ s.lv < 0 ∨ 200 < s.lv ∨ bad s.sp = true ∨ badBits s.n s.b = true then 110 else 0 := by
  unfold errS badS
  simp only [Bool.or_eq_true, decide_eq_true_eq, or_assoc]

set_option maxHeartbeats 1600000 in
theorem scheck_any (s : Sg) (w : World) (h : GoodSg w s) :
    Calls Try.prog 12 #[sgv s] w fun e w' => e = .returned (.int .i64 (errS s)) ∧ Below w.heap.size w w' := by
  have hE := Lib.hid (errS_eq s)
  obtain ⟨fr, ⟨f, t⟩, lv, n, a, c, B⟩ := s
  have hg := h.1
  unfold sgv
  simp only at hE hg ⊢
  have hal : Below w.heap.size w (w.alloc (.cells #[.int .i64 fr, .int .i64 f, .int .i64 t, .int .i64 lv, .int .i64 n, .slice a B.length c] 28)) := below1 w _
  have h1 := check_any f t
  have h2 : ∀ W, Below w.heap.size w W → _ := fun W hW => bcheck_any n a c B W (hg.below hW)
  have hz1 : Hid (chk (f, t) = if bad (f, t) then 60 else 0) := rfl
  have hz2 : Hid (errB n B = if badBits n B then 10 else 0) := rfl
  unfold spv at h1
  clear hg h
  generalize errS _ = z at *
  generalize bad (f, t) = p at *
  generalize badBits n B = q at *
  generalize chk (f, t) = x at *
  generalize errB n B = y at *
  generalize B.length = L at *
  cases p
  · obtain rfl : x = 0 := hz1.out
    cases q
    · obtain rfl : y = 0 := hz2.out
      clear hz1 hz2
      go_enter Try.func12, Try.ntmps12
      go_wp2_with (first | (go_at_call 38; refine (h1 _).mono ?_; rintro e w1 ⟨rfl, hb1⟩; have hc1 := bcell hb1; have b1 := bt hal hb1) | (go_at_call 39; refine (h2 _ b1).mono ?_; rintro e w2 ⟨rfl, hb2⟩; have b2 := bt b1 hb2))
      all_goals go_ret
      all_goals (refine ⟨ret_int ?_, ?_⟩; (rw [hE.out]; symm; first | exact if_pos (by first | (simp; omega) | simp | omega) | exact if_neg (by first | (simp; omega) | simp | omega)); first | exact b2 | exact b1 | exact hal)
    · obtain rfl : y = 10 := hz2.out
      clear hz1 hz2
      go_enter Try.func12, Try.ntmps12
      go_wp2_with (first | (go_at_call 38; refine (h1 _).mono ?_; rintro e w1 ⟨rfl, hb1⟩; have hc1 := bcell hb1; have b1 := bt hal hb1) | (go_at_call 39; refine (h2 _ b1).mono ?_; rintro e w2 ⟨rfl, hb2⟩; have b2 := bt b1 hb2))
      all_goals go_ret
      all_goals (refine ⟨ret_int ?_, ?_⟩; (rw [hE.out]; symm; first | exact if_pos (by first | (simp; omega) | simp | omega) | exact if_neg (by first | (simp; omega) | simp | omega)); first | exact b2 | exact b1 | exact hal)
  · obtain rfl : x = 60 := hz1.out
    · clear hz1 hz2
      go_enter Try.func12, Try.ntmps12
      go_wp2_with (first | (go_at_call 38; refine (h1 _).mono ?_; rintro e w1 ⟨rfl, hb1⟩; have hc1 := bcell hb1; have b1 := bt hal hb1) | (go_at_call 39; refine (h2 _ b1).mono ?_; rintro e w2 ⟨rfl, hb2⟩; have b2 := bt b1 hb2))
      all_goals go_ret
      all_goals (refine ⟨ret_int ?_, ?_⟩; (rw [hE.out]; symm; first | exact if_pos (by first | (simp; omega) | simp | omega) | exact if_neg (by first | (simp; omega) | simp | omega)); first | exact b2 | exact b1 | exact hal)

set_option maxHeartbeats 1600000 in
theorem rscheck_any (s : Sg) (w : World) (h : GoodSg w s) :
    Calls Try.prog 13 #[sgv s] w fun e w' => e = .returned (.int .i64 (errS s)) ∧ Below w.heap.size w w' := by
  have hE := Lib.hid (errS_eq s)
  obtain ⟨fr, ⟨f, t⟩, lv, n, a, c, B⟩ := s
  have hg := h.1
  unfold sgv
  simp only at hE hg ⊢
  have hal : Below w.heap.size w (w.alloc (.cells #[.int .i64 fr, .int .i64 f, .int .i64 t, .int .i64 lv, .int .i64 n, .slice a B.length c] 28)) := below1 w _
  have h1 := rcheck_any f t
  have h2 : ∀ W, Below w.heap.size w W → _ := fun W hW => rbcheck_any n a c B W (hg.below hW)
  have hz1 : Hid (chk (f, t) = if bad (f, t) then 60 else 0) := rfl
  have hz2 : Hid (errB n B = if badBits n B then 10 else 0) := rfl
  unfold spv at h1
  clear hg h
  generalize errS _ = z at *
  generalize bad (f, t) = p at *
  generalize badBits n B = q at *
  generalize chk (f, t) = x at *
  generalize errB n B = y at *
  generalize B.length = L at *
  cases p
  · obtain rfl : x = 0 := hz1.out
    cases q
    · obtain rfl : y = 0 := hz2.out
      clear hz1 hz2
      go_enter Try.func13, Try.ntmps13
      go_wp2_with (first | (go_at_call 25; refine (h1 _).mono ?_; rintro e w1 ⟨rfl, hb1⟩; have hc1 := bcell hb1; have b1 := bt hal hb1) | (go_at_call 40; refine (h2 _ b1).mono ?_; rintro e w2 ⟨rfl, hb2⟩; have b2 := bt b1 hb2))
      all_goals go_ret
      all_goals (refine ⟨ret_int ?_, ?_⟩; (rw [hE.out]; symm; first | exact if_pos (by first | (simp; omega) | simp | omega) | exact if_neg (by first | (simp; omega) | simp | omega)); first | exact b2 | exact b1 | exact hal)
    · obtain rfl : y = 10 := hz2.out
      clear hz1 hz2
      go_enter Try.func13, Try.ntmps13
      go_wp2_with (first | (go_at_call 25; refine (h1 _).mono ?_; rintro e w1 ⟨rfl, hb1⟩; have hc1 := bcell hb1; have b1 := bt hal hb1) | (go_at_call 40; refine (h2 _ b1).mono ?_; rintro e w2 ⟨rfl, hb2⟩; have b2 := bt b1 hb2))
      all_goals go_ret
      all_goals (refine ⟨ret_int ?_, ?_⟩; (rw [hE.out]; symm; first | exact if_pos (by first | (simp; omega) | simp | omega) | exact if_neg (by first | (simp; omega) | simp | omega)); first | exact b2 | exact b1 | exact hal)
  · obtain rfl : x = 60 := hz1.out
    · clear hz1 hz2
      go_enter Try.func13, Try.ntmps13
      go_wp2_with (first | (go_at_call 25; refine (h1 _).mono ?_; rintro e w1 ⟨rfl, hb1⟩; have hc1 := bcell hb1; have b1 := bt hal hb1) | (go_at_call 40; refine (h2 _ b1).mono ?_; rintro e w2 ⟨rfl, hb2⟩; have b2 := bt b1 hb2))
      all_goals go_ret
      all_goals (refine ⟨ret_int ?_, ?_⟩; (rw [hE.out]; symm; first | exact if_pos (by first | (simp; omega) | simp | omega) | exact if_neg (by first | (simp; omega) | simp | omega)); first | exact b2 | exact b1 | exact hal)
end Go.Proofs.Ytehgiagefiakkaa
