/- A region that draws its order, step by step, one way alone: operations that only read are taken first, a guarded one that is not wanted too; a call that only makes memory comes up alone. -/
import Derived.Test.YtkinhhkodaacjaaKit
import Derived.Deep.RegionHeld3
namespace Go.Proofs.Ytkinhhkodaacjaa
open Go.RowKit

variable {P : Program} {l : List Oper} {Q : Exit → Act → World → Prop} {md : Region.Mode} {S : World → Prop}

theorem at_drop {i : Nat} {oi : Oper} {r : List Oper} (h : l.drop i = oi :: r) : l.toArray[i]? = some oi := by
  have := congrArg (·[0]?) h
  simpa using this

/-- Wanted: it yields its value in every world that meets S. -/
theorem takeW {i : Nat} {oi : Oper} {r : List Oper} {v : Value} {fuel : Nat} {listed : Array Bool} {a : Act} {w : World} (hi : l.drop i = oi :: r)
    (hs : Region.noSelect l.toArray = true) (hf : Region.free md l.toArray listed i = true) (hr : (Region.ready md l.toArray listed).contains i = true)
    (hQ : ∀ c a w, Q (.panic c) (a.put oi.dst v) w → Q (.panic c) a w) (hw : Region.wanted oi (yielded l.toArray a.tmps) = true) (hS : S w)
    (hy : ∀ w, S w → (execOp a.eval oi).run P w = .ok (.value v) w)
    (h : wpAnyH P md l.toArray Q S fuel (listed.setIfInBounds i true) (a.put oi.dst v) w) : wpAnyH P md l.toArray Q S (fuel + 1) listed a w :=
  wpAnyH_take (at_drop hi) hs hf hr hQ (.inl ⟨hw, hy⟩) hS h
/-- Not wanted. -/
theorem takeU {i : Nat} {oi : Oper} {r : List Oper} {fuel : Nat} {listed : Array Bool} {a : Act} {w : World} (hi : l.drop i = oi :: r)
    (hs : Region.noSelect l.toArray = true) (hf : Region.free md l.toArray listed i = true) (hr : (Region.ready md l.toArray listed).contains i = true)
    (hQ : ∀ c a w, Q (.panic c) (a.put oi.dst undef) w → Q (.panic c) a w) (hw : Region.wanted oi (yielded l.toArray a.tmps) = false) (hS : S w)
    (h : wpAnyH P md l.toArray Q S fuel (listed.setIfInBounds i true) (a.put oi.dst undef) w) : wpAnyH P md l.toArray Q S (fuel + 1) listed a w :=
  wpAnyH_take (at_drop hi) hs hf hr hQ (.inr ⟨hw, rfl⟩) hS h
/-- A call, the only one that may come up. -/
theorem takeC {i : Nat} {oi : Oper} {r : List Oper} {fuel : Nat} {listed : Array Bool} {a : Act} {w : World} (hi : l.drop i = oi :: r)
    (hr : Region.ready md l.toArray listed = [i]) (hw : Region.wanted oi (yielded l.toArray a.tmps) = true)
    (h : ∀ K : Act → World → Prop, Shut (∀ a w, S w → (S w → wpAnyH P md l.toArray Q S fuel (listed.setIfInBounds i true) a w) → K a w) → Oper.wp P oi a w K Q) :
    wpAnyH P md l.toArray Q S (fuel + 1) listed a w :=
  wpAnyH_ready hr (by simp) (AllReadyH.cons (at_drop hi) (fun K hK => by rw [if_pos hw]; exact h K hK) AllReadyH.nil)
/-- A call and an allocation that waits for nothing: either may come up first. -/
theorem takeC2 {i j : Nat} {oi oj : Oper} {r r' : List Oper} {fuel : Nat} {listed : Array Bool} {a : Act} {w : World} (hi : l.drop i = oi :: r) (hj : l.drop j = oj :: r')
    (hr : Region.ready md l.toArray listed = [i, j]) (hw : Region.wanted oi (yielded l.toArray a.tmps) = true) (hw' : Region.wanted oj (yielded l.toArray a.tmps) = true)
    (h : ∀ K : Act → World → Prop, Shut (∀ a w, S w → (S w → wpAnyH P md l.toArray Q S fuel (listed.setIfInBounds i true) a w) → K a w) → Oper.wp P oi a w K Q)
    (h' : ∀ K : Act → World → Prop, Shut (∀ a w, S w → (S w → wpAnyH P md l.toArray Q S fuel (listed.setIfInBounds j true) a w) → K a w) → Oper.wp P oj a w K Q) :
    wpAnyH P md l.toArray Q S (fuel + 1) listed a w :=
  wpAnyH_ready hr (by simp) (AllReadyH.cons (at_drop hi) (fun K hK => by rw [if_pos hw]; exact h K hK) (AllReadyH.cons (at_drop hj) (fun K hK => by rw [if_pos hw']; exact h' K hK) AllReadyH.nil))

end Go.Proofs.Ytkinhhkodaacjaa
