/- SchedGrid, its arguments as they read. -/
import Derived.Test.YtiahmhmchppjgaaT4
import Derived.Test.YtiahmhmchppjgaaArgs
namespace Go.Proofs.Ytiahmhmchppjgaa
open Go.RowKit

theorem grid_any (g : Int × Int × Int) (v0 : Value) (t a b pos : Int) (w : World) (h0 : Grid1 w v0 g) (_ : -9223372036854775808 ≤ t) (_ : t ≤ 9223372036854775807) (a0 : 0 ≤ a) (a1 : a ≤ 65535) (b0 : 0 ≤ b) (b1 : b ≤ 65535)
    (_ : -9223372036854775808 ≤ pos) (_ : pos ≤ 9223372036854775807) :
    Calls Try.prog 6 #[v0, .int .i64 t, .int .u16 a, .int .u16 b, .int .i64 pos] w fun e w' => e = .returned (.bool true) ∧ Below w.heap.size w w' := by
  obtain ⟨rfl, _⟩ := h0
  exact grid_walk g.1 g.2.1 g.2.2 t a b pos w a0 a1 b0 b1
end Go.Proofs.Ytiahmhmchppjgaa
