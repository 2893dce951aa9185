/- Same of the program and of the document: of two seen. -/
import Derived.Test.YtehgiagefiakkaaB7
namespace Go.Proofs.Ytehgiagefiakkaa
open Go.RowKit Go.Shelf
open Sched (Sp bad)
open Sig

def sameSn (x y : Sn) : Bool := decide (x.kind = y.kind) && decide (x.at_ = y.at_) && sameB x.n x.b y.n y.b

set_option maxRecDepth 100000 in
set_option maxHeartbeats 1600000 in
theorem rseensame_any (x y : Sn) (a : Option Addr) (c : Nat) (a' : Option Addr) (c' : Nat) (w : World) (h : Byts w (.slice a x.b.length c) x.b) (h' : Byts w (.slice a' y.b.length c') y.b) :
    Calls Try.prog 20 #[snv x a c, snv y a' c'] w fun e w' => e = .returned (.bool (sameSn x y)) ∧ Below w.heap.size w w' := by
  obtain ⟨k, m, n, B⟩ := x
  obtain ⟨k', m', n', B'⟩ := y
  have hZ : Hid (sameSn ⟨k, m, n, B⟩ ⟨k', m', n', B'⟩ = (decide (k = k') && decide (m = m') && sameB n B n' B')) := rfl
  have hb := fun W (hW : Below w.heap.size w W) => rbsame_any n a c B n' a' c' B' W (h.below hW) (h'.below hW)
  have hal : Below w.heap.size w ((w.alloc (.cells #[.int .i64 k, .int .i64 m, .int .i64 n, .slice a B.length c] 39)).alloc (.cells #[.int .i64 k', .int .i64 m', .int .i64 n', .slice a' B'.length c'] 39)) := below2 w _ _
  unfold snv
  simp only at hb ⊢
  clear h h'
  generalize sameSn _ _ = z at *
  generalize sameB _ _ _ _ = q at *
  generalize B.length = L at *
  generalize B'.length = L' at *
  by_cases e1 : k = k'
  · by_cases e2 : m = m'
    · subst e1 e2
      obtain rfl : z = q := by rw [hZ.out]; simp
      clear hZ
      go_enter Try.func20, Try.ntmps20
      go_wp2_with (go_at_call 41; refine (hb _ hal).mono ?_; rintro e w5 ⟨rfl, hb5⟩; have b5 := bt hal hb5)
      go_ret
      exact ⟨rfl, b5⟩
    · subst e1
      obtain rfl : z = false := by rw [hZ.out]; simp [e2]
      have n2 : (m == m') = false := by simpa using e2
      clear hZ hb e2
      go_enter Try.func20, Try.ntmps20
      go_wp2
      all_goals go_ret
      exact ⟨rfl, hal⟩
  · obtain rfl : z = false := by rw [hZ.out]; simp [e1]
    have n1 : (k == k') = false := by simpa using e1
    clear hZ hb e1
    go_enter Try.func20, Try.ntmps20
    go_wp2
    all_goals go_ret
    exact ⟨rfl, hal⟩

set_option maxRecDepth 100000 in
set_option maxHeartbeats 1600000 in
theorem seensame_any (x y : Sn) (a : Option Addr) (c : Nat) (a' : Option Addr) (c' : Nat) (w : World) (h : Byts w (.slice a x.b.length c) x.b) (h' : Byts w (.slice a' y.b.length c') y.b) :
    Calls Try.prog 21 #[snv x a c, snv y a' c'] w fun e w' => e = .returned (.bool (sameSn x y)) ∧ Below w.heap.size w w' := by
  obtain ⟨k, m, n, B⟩ := x
  obtain ⟨k', m', n', B'⟩ := y
  have hZ : Hid (sameSn ⟨k, m, n, B⟩ ⟨k', m', n', B'⟩ = (decide (k = k') && decide (m = m') && sameB n B n' B')) := rfl
  have hb := fun W (hW : Below w.heap.size w W) => bsame_any n a c B n' a' c' B' W (h.below hW) (h'.below hW)
  have hal : Below w.heap.size w ((w.alloc (.cells #[.int .i64 k, .int .i64 m, .int .i64 n, .slice a B.length c] 39)).alloc (.cells #[.int .i64 k', .int .i64 m', .int .i64 n', .slice a' B'.length c'] 39)) := below2 w _ _
  unfold snv
  simp only at hb ⊢
  clear h h'
  generalize sameSn _ _ = z at *
  generalize sameB _ _ _ _ = q at *
  generalize B.length = L at *
  generalize B'.length = L' at *
  by_cases e1 : k = k'
  · by_cases e2 : m = m'
    · subst e1 e2
      obtain rfl : z = q := by rw [hZ.out]; simp
      clear hZ
      go_enter Try.func21, Try.ntmps21
      go_wp2_with (go_at_call 43; refine (hb _ hal).mono ?_; rintro e w5 ⟨rfl, hb5⟩; have b5 := bt hal hb5)
      go_ret
      exact ⟨rfl, b5⟩
    · subst e1
      obtain rfl : z = false := by rw [hZ.out]; simp [e2]
      have n2 : (m == m') = false := by simpa using e2
      clear hZ hb e2
      go_enter Try.func21, Try.ntmps21
      go_wp2
      all_goals go_ret
      exact ⟨rfl, hal⟩
  · obtain rfl : z = false := by rw [hZ.out]; simp [e1]
    have n1 : (k == k') = false := by simpa using e1
    clear hZ hb e1
    go_enter Try.func21, Try.ntmps21
    go_wp2
    all_goals go_ret
    exact ⟨rfl, hal⟩
end Go.Proofs.Ytehgiagefiakkaa
