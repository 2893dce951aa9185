/- SchedSlots, its arguments as they read. -/
import Derived.Test.YtiahmhmchppjgaaQ10
import Derived.Test.YtiahmhmchppjgaaArgs
namespace Go.Proofs.Ytiahmhmchppjgaa
open Go.RowKit

theorem slotsw_any (g : Int × Int × Int) (v0 : Value) (k p0 p : Int) (x : Sched.Sp) (v4 : Value) (m : Int) (w : World) (h0 : Grid1 w v0 g) (h4 : Span1 w v4 x) (m0 : 0 ≤ m) (m1 : m ≤ 255) :
    Calls Try.prog 7 #[v0, .int .i64 k, .int .i64 p0, .int .i64 p, v4, .int .u8 m] w fun e w' => e = .returned (.bool true) ∧ Below w.heap.size w w' := by
  obtain ⟨rfl, _⟩ := h0
  obtain ⟨rfl, _⟩ := h4
  obtain ⟨M, rfl⟩ : ∃ M : Nat, m = M := ⟨m.toNat, by omega⟩
  exact slots_walk g.1 g.2.1 g.2.2 k p0 p x.1 x.2 M w (by omega)
end Go.Proofs.Ytiahmhmchppjgaa
