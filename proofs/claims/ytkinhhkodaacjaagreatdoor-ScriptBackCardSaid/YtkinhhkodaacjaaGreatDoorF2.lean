/- Faults as they lie. -/
import Derived.Test.YtkinhhkodaacjaaGreatDoorQ1
import Derived.Test.YtkinhhkodaacjaaGreatDoorLA
import Derived.Sort.CutIn
import Derived.Test.YtkinhhkodaacjaaGreatDoorProg
import Derived.OwnWalk
import Derived.Sort.Grow
import Derived.Deep.Draws
namespace Go.Proofs.YtkinhhkodaacjaaGreatDoor
open Go.RowKit

theorem W25 : Wide Tryz.prog 38 8 := ⟨⟨_, Tryz.underlying38, rfl⟩, by kernel_rfl⟩
theorem F3 : Flat Tryz.prog 3 := ⟨⟨_, Tryz.underlying3, rfl⟩, by kernel_rfl⟩
theorem W33 : Wide Tryz.prog 81 7 := ⟨⟨_, Tryz.underlying81, rfl⟩, by kernel_rfl⟩
/-- A fault: kind, node, channel, round, slot, a, b. -/
structure Fa where
  k : Int
  n : Int
  c : Int
  r : Int
  s : Int
  a : Int
  b : Int
deriving DecidableEq
def encF (e : Fa) : List Value := [.int .i64 e.k, .int .i64 e.n, .int .i64 e.c, .int .i64 e.r, .int .i64 e.s, .int .i64 e.a, .int .i64 e.b]
theorem encF_len (e : Fa) : (encF e).length = 7 := rfl
theorem encF_one (e : Fa) : ∀ u ∈ encF e, u.oneCell' = true := by
  intro u hu
  simp only [encF, List.mem_cons, List.not_mem_nil, or_false] at hu
  rcases hu with rfl | rfl | rfl | rfl | rfl | rfl | rfl <;> rfl
end Go.Proofs.YtkinhhkodaacjaaGreatDoor
