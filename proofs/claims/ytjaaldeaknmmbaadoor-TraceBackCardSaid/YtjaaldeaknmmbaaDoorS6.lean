/- told: the first ones that an iterator tells. -/
import Derived.Test.YtjaaldeaknmmbaaDoorS5
import Derived.Test.YtjaaldeaknmmbaaDoorLA
import Derived.OwnWalkIn
import Derived.Deep.DeepMust
namespace Go.Proofs.YtjaaldeaknmmbaaDoor
open Go.RowKit Go.Shelf
attribute [local go_sem] Oper.semAt_some

theorem own_set {w : World} {base e size n : Nat} {v : Value} {xs : List Value} (h : w.ownsRow base e size v n xs) {p : Addr} (hp : p.block < base) (u : Value) : (w.setCell p u).ownsRow base e size v n xs := by
  refine h.kept (grownBy_setCell w p u) ?_
  rcases h.2 with ⟨rfl, _⟩ | ⟨g, cap, cur, rfl, hg, _, _⟩
  · exact .inl rfl
  · refine .inr fun e' => ?_
    have : g = p.block := by simpa [Value.ownBlock] using e'
    omega

end Go.Proofs.YtjaaldeaknmmbaaDoor
