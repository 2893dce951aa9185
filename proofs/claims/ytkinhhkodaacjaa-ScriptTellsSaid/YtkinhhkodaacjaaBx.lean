/- Any number of boxes of a walk, as one predicate. (Text of no seat: Ytkinhhkodaacjaa stands for the seat's name.) -/
import Derived.Test.YtkinhhkodaacjaaBlk
namespace Go.Proofs.Ytkinhhkodaacjaa
open Go.RowKit

/-- Blocks that are known whole, and that nothing below w's end has changed. -/
def Bx (w W : World) (l : List (Nat × TypeId × Array Value)) : Prop := (∀ x ∈ l, Blk W x.1 x.2.1 x.2.2) ∧ Below w.heap.size w W
section
variable {w W W' : World} {l : List (Nat × TypeId × Array Value)}
theorem Bx.nil (w : World) : Bx w w [] := ⟨by simp, Below.refl _ _⟩
theorem Bx.get (h : Bx w W l) (i : Nat) {b : Nat} {t : TypeId} {cs : Array Value} (hi : l[i]? = some (b, t, cs)) : Blk W b t cs := h.1 _ (List.mem_of_getElem? hi)
theorem Bx.at (h : Bx w W l) (i j : Nat) {b : Nat} {t : TypeId} {cs : Array Value} {v : Value} (hi : l[i]? = some (b, t, cs)) (hj : cs[j]? = some v) : W.cell? ⟨b, j, none⟩ = some v := ((h.get i hi).cell j).trans hj
theorem Bx.fz (h : Bx w W l) (i j : Nat) {b : Nat} {t : TypeId} {cs : Array Value} (hi : l[i]? = some (b, t, cs)) : W.frozen? ⟨b, j, none⟩ = false := (h.get i hi).frozen j
theorem Bx.keep (h : Bx w W l) (hb : Below W.heap.size W W') : Bx w W' l := ⟨fun x hx => (h.1 x hx).keep hb, h.2.trans (hb.mono h.2.size)⟩
theorem Bx.drew (h : Bx w W l) : Bx w W.drew l := h.keep (Below.refl _ _).drew
theorem Bx.skip (h : Bx w W l) (o : Obj) : Bx w (W.alloc o) l := h.keep (below1 W o)
theorem Bx.new (h : Bx w W l) {b : Nat} (cs : Array Value) (t : TypeId) (hb : W.heap.size = b) : Bx w (W.alloc (.cells cs t)) (l ++ [(b, t, cs)]) := by
  refine ⟨fun x hx => ?_, (h.skip _).2⟩
  rcases List.mem_append.1 hx with hx | hx
  · exact (h.1 x hx).alloc _
  · obtain rfl := List.mem_singleton.1 hx
    exact Blk.new' hb
theorem Bx.set (h : Bx w W l) (k : Nat) {b : Nat} {t : TypeId} {cs : Array Value} (hk : l[k]? = some (b, t, cs)) (hd : ∀ x ∈ l.eraseIdx k, x.1 ≠ b) (hb : w.heap.size ≤ b) (i : Nat) (v : Value) :
    Bx w (W.setCell ⟨b, i, none⟩ v) (l.set k (b, t, cs.setIfInBounds i v)) := by
  refine ⟨fun x hx => ?_, h.2.setCell (by simpa using hb) _⟩
  obtain ⟨j, hj⟩ := List.getElem?_of_mem hx
  by_cases hjk : k = j
  · subst hjk
    have hlt := (List.getElem?_eq_some_iff.1 hk).1
    rw [List.getElem?_set_self hlt] at hj
    cases hj
    exact (h.get k hk).set i v
  · rw [List.getElem?_set_ne hjk] at hj
    have hm : x ∈ l.eraseIdx k := List.mem_iff_getElem?.2 (by
      rcases Nat.lt_or_gt_of_ne hjk with hlt | hlt
      · exact ⟨j - 1, by rw [List.getElem?_eraseIdx, if_neg (by omega), show j - 1 + 1 = j by omega]; exact hj⟩
      · exact ⟨j, by rw [List.getElem?_eraseIdx, if_pos hlt]; exact hj⟩)
    exact (h.1 x (List.mem_of_getElem? hj)).far (fun e => hd x hm e) v
theorem Bx.far (h : Bx w W l) {p : Addr} (hd : ∀ x ∈ l, x.1 ≠ p.block) (hb : w.heap.size ≤ p.block) (v : Value) : Bx w (W.setCell p v) l :=
  ⟨fun x hx => (h.1 x hx).far (hd x hx) v, h.2.setCell hb _⟩
theorem Bx.lt (h : Bx w W l) (i : Nat) {b : Nat} {t : TypeId} {cs : Array Value} (hi : l[i]? = some (b, t, cs)) : b < W.heap.size := (h.get i hi).lt
/-- Behind a turn of one row that the call owns. -/
theorem Bx.kept (h : Bx w W l) {base : Nat} {e : TypeId} {size : Nat} {v : Value} {n : Nat} {xs : List Value} (hg : W.grownBy W' v.ownBlock) (ho : W.ownsRow base e size v n xs)
    (hd : ∀ x ∈ l, v.ownBlock ≠ some x.1) (hb : w.heap.size ≤ base) : Bx w W' l :=
  ⟨fun x hx => (h.1 x hx).kept hg (fun e => hd x hx e.symm), below_app h.2 hb ho hg h.2.size⟩
end
end Go.Proofs.Ytkinhhkodaacjaa
