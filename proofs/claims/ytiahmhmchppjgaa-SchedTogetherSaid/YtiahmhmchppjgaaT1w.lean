/- SchedTogether, its arguments as they read. -/
import Derived.Test.YtiahmhmchppjgaaT1
import Derived.Test.YtiahmhmchppjgaaArgs
namespace Go.Proofs.Ytiahmhmchppjgaa
open Go.RowKit

theorem together_any (x : Sched.Sp) (v0 : Value) (y : Sched.Sp) (v1 : Value) (z : Sched.Sp) (v2 : Value) (w : World) (h0 : Span1 w v0 x) (h1 : Span1 w v1 y) (h2 : Span1 w v2 z) :
    Calls Try.prog 3 #[v0, v1, v2] w fun e w' => e = .returned (.bool true) ∧ Below w.heap.size w w' := by
  obtain ⟨rfl, _⟩ := h0
  obtain ⟨rfl, _⟩ := h1
  obtain ⟨rfl, _⟩ := h2
  exact together_walk x y z w
end Go.Proofs.Ytiahmhmchppjgaa
