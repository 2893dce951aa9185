/- SchedSpans, its arguments as they read. -/
import Derived.Test.YtiahmhmchppjgaaT2
import Derived.Test.YtiahmhmchppjgaaArgs
namespace Go.Proofs.Ytiahmhmchppjgaa
open Go.RowKit

theorem spans_any (x : Sched.Sp) (v0 : Value) (y : Sched.Sp) (v1 : Value) (b : Int) (w : World) (h0 : Span1 w v0 x) (h1 : Span1 w v1 y) (_ : -9223372036854775808 ≤ b) (_ : b ≤ 9223372036854775807) :
    Calls Try.prog 5 #[v0, v1, .int .i64 b] w fun e w' => e = .returned (.bool true) ∧ Below w.heap.size w w' := by
  obtain ⟨rfl, _⟩ := h0
  obtain ⟨rfl, _⟩ := h1
  exact spans_walk x.1 x.2 y.1 y.2 b w
end Go.Proofs.Ytiahmhmchppjgaa
