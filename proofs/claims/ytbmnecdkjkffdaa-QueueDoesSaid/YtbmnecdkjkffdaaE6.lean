/- isMade, Len, Now. -/
import Derived.Test.YtbmnecdkjkffdaaE4
namespace Go.Proofs.Ytbmnecdkjkffdaa
open Go.RowKit

theorem made_any (q : Nat) (b : Bool) (sv : Value) (now : Int) (w : World) (h : Blk w q 47 #[.bool b, sv, .int .i64 now]) : Calls Try.prog 27 #[.pointer (some ⟨q, 0, none⟩)] w fun e w' => e = .returned (.bool b) ∧ w = w' := by
  have c0 := h.three.1
  clear h
  go_enter Try.func27, Try.ntmps27
  go_wp2
  go_ret
  exact ⟨rfl, rfl⟩
theorem made_nil (w : World) : Calls Try.prog 27 #[.pointer none] w fun e w' => e = .returned (.bool false) ∧ w = w' := by
  go_enter Try.func27, Try.ntmps27
  go_wp2
  go_ret
  exact ⟨rfl, rfl⟩
theorem len_any (q : Nat) (sv : Value) (l : List Ev) (now : Int) (w : World) (h : Qu w q sv l now) : Calls Try.prog 12 #[.pointer (some ⟨q, 0, none⟩)] w fun e w' => e = .returned (.int .i64 l.length) ∧ w = w' := by
  have hc := made_any q true sv now w h.1
  have c1 := h.1.three.2.1
  obtain ⟨a, cap, rfl, h1, h2, -⟩ := owns_shape h.2
  clear h
  go_enter Try.func12, Try.ntmps12
  go_wp2_with (go_at_call 27; refine hc.mono ?_; rintro e w' ⟨rfl, rfl⟩)
  go_ret
  exact ⟨rfl, rfl⟩
theorem now_any (q : Nat) (sv : Value) (l : List Ev) (now : Int) (w : World) (h : Qu w q sv l now) : Calls Try.prog 19 #[.pointer (some ⟨q, 0, none⟩)] w fun e w' => e = .returned (.int .i64 now) ∧ w = w' := by
  have hc := made_any q true sv now w h.1
  have c1 := h.1.three.2.2
  clear h
  go_enter Try.func19, Try.ntmps19
  go_wp2_with (go_at_call 27; refine hc.mono ?_; rintro e w' ⟨rfl, rfl⟩)
  go_ret
  exact ⟨rfl, rfl⟩
end Go.Proofs.Ytbmnecdkjkffdaa
