/- The document's SameSignal. -/
import Derived.Test.YtehgiagefiakkaaB5
namespace Go.Proofs.Ytehgiagefiakkaa
open Go.RowKit Go.Shelf
open Sched (Sp bad)
open Sig

def sameSg (s r : Sg) : Bool := decide (s.fr = r.fr) && decide (s.sp = r.sp) && decide (s.lv = r.lv) && sameB s.n s.b r.n r.b
theorem sameSg_iff (fr f t lv n : Int) (a : Option Addr) (c : Nat) (B : List Int) (fr' f' t' lv' n' : Int) (a' : Option Addr) (c' : Nat) (B' : List Int) :
    sameSg ⟨fr, (f, t), lv, n, a, c, B⟩ ⟨fr', (f', t'), lv', n', a', c', B'⟩ = (decide (fr = fr') && (decide (f = f') && decide (t = t')) && decide (lv = lv') && sameB n B n' B') := by
  unfold sameSg
  congr 3
  rw [Bool.eq_iff_iff]
  simp

set_option maxRecDepth 100000 in
set_option maxHeartbeats 1600000 in
theorem rsame_any (s r : Sg) (w : World) (h : GoodSg w s) (h' : GoodSg w r) :
    Calls Try.prog 16 #[sgv s, sgv r] w fun e w' => e = .returned (.bool (sameSg s r)) ∧ Below w.heap.size w w' := by
  obtain ⟨fr, ⟨f, t⟩, lv, n, a, c, B⟩ := s
  obtain ⟨fr', ⟨f', t'⟩, lv', n', a', c', B'⟩ := r
  have hZ := Lib.hid (sameSg_iff fr f t lv n a c B fr' f' t' lv' n' a' c' B')
  have hb := fun W (hW : Below w.heap.size w W) => rbsame_any n a c B n' a' c' B' W (h.1.below hW) (h'.1.below hW)
  have hal : Below w.heap.size w ((w.alloc (.cells #[.int .i64 fr, .int .i64 f, .int .i64 t, .int .i64 lv, .int .i64 n, .slice a B.length c] 28)).alloc (.cells #[.int .i64 fr', .int .i64 f', .int .i64 t', .int .i64 lv', .int .i64 n', .slice a' B'.length c'] 28)) := below2 w _ _
  unfold sgv
  simp only at hb ⊢
  clear h h'
  generalize sameSg _ _ = z at *
  generalize sameB _ _ _ _ = q at *
  generalize B.length = L at *
  generalize B'.length = L' at *
  by_cases e1 : fr = fr'
  · by_cases e2 : f = f'
    · by_cases e3 : t = t'
      · by_cases e4 : lv = lv'
        · subst e1 e2 e3 e4
          obtain rfl : z = q := by rw [hZ.out]; simp
          clear hZ
          go_enter Try.func16, Try.ntmps16
          go_wp2_with (go_at_call 41; refine (hb _ hal).mono ?_; rintro e w5 ⟨rfl, hb5⟩; have b5 := bt hal hb5)
          go_ret
          exact ⟨rfl, b5⟩
        · subst e1 e2 e3
          obtain rfl : z = false := by rw [hZ.out]; simp [e4]
          have n4 : (lv == lv') = false := by simpa using e4
          clear hZ hb e4
          go_enter Try.func16, Try.ntmps16
          go_wp2
          all_goals go_ret
          exact ⟨rfl, hal⟩
      · subst e1 e2
        obtain rfl : z = false := by rw [hZ.out]; simp [e3]
        have n3 : (t == t') = false := by simpa using e3
        clear hZ hb e3
        go_enter Try.func16, Try.ntmps16
        go_wp2
        all_goals go_ret
        exact ⟨rfl, hal⟩
    · subst e1
      obtain rfl : z = false := by rw [hZ.out]; simp [e2]
      have n2 : (f == f') = false := by simpa using e2
      clear hZ hb e2
      go_enter Try.func16, Try.ntmps16
      go_wp2
      all_goals go_ret
      exact ⟨rfl, hal⟩
  · obtain rfl : z = false := by rw [hZ.out]; simp [e1]
    have n1 : (fr == fr') = false := by simpa using e1
    clear hZ hb e1
    go_enter Try.func16, Try.ntmps16
    go_wp2
    all_goals go_ret
    exact ⟨rfl, hal⟩
end Go.Proofs.Ytehgiagefiakkaa
