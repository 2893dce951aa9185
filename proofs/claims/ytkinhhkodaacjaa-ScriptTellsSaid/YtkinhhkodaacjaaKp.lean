/- What a round of a range over a function keeps. (Text of no seat: Ytkinhhkodaacjaa stands for the seat's name.) -/
import Derived.RangeFuncNested
import Derived.RangeFuncBound
import Derived.RangeFuncCalls
import Derived.RangeFuncLeaves
import Derived.Shelf.Abstract
import Derived.Shelf.RegionOpen
import Derived.TacticsInMore
import Derived.LoopNIn
import Derived.LoopIn
import Derived.Sort.CutIn
import Derived.Test.YtkinhhkodaacjaaAgg
namespace Go.Proofs.Ytkinhhkodaacjaa
open Go.RowKit Go.Shelf

theorem grown_of_below {w w' : World} (hb : Below w.heap.size w w') : w.grownBy w' none := ⟨hb.os, hb.tape, hb.output, hb.size, fun k hk _ => hb.block k hk⟩
/-- Whatever lay below n₀, and the blocks from lo to hi. -/
def KP (n₀ lo hi : Nat) (A B : World) : Prop := Below n₀ A B ∧ ∀ b, lo ≤ b → b < hi → b < A.heap.size → B.heap[b]? = A.heap[b]?
section
variable {n₀ lo hi : Nat} {A B C W : World}
theorem KP.refl (n₀ lo hi : Nat) (A : World) : KP n₀ lo hi A A := ⟨Below.refl _ _, fun _ _ _ _ => rfl⟩
theorem KP.trans (h : KP n₀ lo hi A B) (k : KP n₀ lo hi B C) : KP n₀ lo hi A C :=
  ⟨h.1.trans k.1, fun b h1 h2 h3 => (k.2 b h1 h2 (Nat.lt_of_lt_of_le h3 h.1.size)).trans (h.2 b h1 h2 h3)⟩
theorem KP.of_below (h : Below A.heap.size A B) (hn : n₀ ≤ A.heap.size) : KP n₀ lo hi A B := ⟨h.mono hn, fun b _ _ h3 => h.block b h3⟩
theorem KP.of_low (h : Below n₀ A B) (hn : hi ≤ n₀) : KP n₀ lo hi A B := ⟨h, fun b _ h2 _ => h.block b (Nat.lt_of_lt_of_le h2 hn)⟩
theorem KP.block (h : KP n₀ lo hi A B) {b : Nat} (h1 : lo ≤ b) (h2 : b < hi) (hlt : b < A.heap.size) : B.heap[b]? = A.heap[b]? := h.2 b h1 h2 hlt
theorem KP.cell {b o : Nat} {v : Value} (h : KP n₀ lo hi A B) (h1 : lo ≤ b) (h2 : b < hi) (hc : A.cell? ⟨b, o, none⟩ = some v) : B.cell? ⟨b, o, none⟩ = some v := by
  have hlt := World.block_lt_of_cell? _ _ hc
  rw [← hc]
  exact World.cell?_of_block (h.2 b h1 h2 hlt)
theorem KP.setCell {p : Addr} (h1 : n₀ ≤ p.block) (h2 : p.block < lo ∨ hi ≤ p.block) (v : Value) : KP n₀ lo hi W (W.setCell p v) :=
  ⟨(Below.refl _ _).setCell h1 v, fun b h3 h4 _ => Below.heap_setCell W p v b (by omega)⟩
theorem KP.put {w : World} (hn : n₀ ≤ w.heap.size) (hh : hi ≤ w.heap.size) (W : World) (l : Nat) (o o' : Obj) (hl : w.heap.size ≤ l) (h : W.heap[l]? = some o) (h1 : o.isCells = false) (h2 : o.isWalk = false) : KP n₀ lo hi W (W.putObj l o') :=
  ⟨belowK_b hn W l o o' hl h h1 h2, fun b _ h3 _ => World.putObj_heap_other (by omega)⟩
/-- A row that a call owns and that lies there. -/
theorem KP.owns (h : KP n₀ lo hi A B) {base : Nat} {e : TypeId} {size : Nat} {v : Value} {n : Nat} {xs : List Value} (ho : A.ownsRow base e size v n xs) (h1 : lo ≤ base) (h2 : A.heap.size ≤ hi) : B.ownsRow base e size v n xs := by
  refine ⟨ho.1, ho.2.imp id ?_⟩
  rintro ⟨g, cap, cur, hv, hg, hh, r⟩
  have hlt := (Array.getElem?_eq_some_iff.1 hh).1
  exact ⟨g, cap, cur, hv, hg, (h.2 g (by omega) (by omega) hlt).trans hh, r⟩
/-- .. and that reads as something. -/
theorem KP.reads {α : Type} {enc : α → List Value} {size : Nat} (h : KP n₀ lo hi A B) {v : Value} {l : List α} (ho : Rd enc size A v l) (h1 : ∀ b o n c, v = .slice (some ⟨b, o, none⟩) n c → lo ≤ b ∧ b < hi) : Rd enc size B v l := by
  obtain ⟨a, cap, rfl, q1, q2, q3, q5, q4⟩ := ho
  refine ⟨a, cap, rfl, q1, q2, q3, q5, q4.imp id ?_⟩
  rintro ⟨b, off, rfl, hlt, hc⟩
  obtain ⟨k1, k2⟩ := h1 _ _ _ _ rfl
  exact ⟨b, off, rfl, Nat.lt_of_lt_of_le hlt h.1.size, fun j x hj i u hu => by
    rw [World.cell?_of_block (h.2 b k1 k2 hlt)]
    exact hc j x hj i u hu⟩
end
theorem own_blk_ne {W : World} {base : Nat} {e : TypeId} {size : Nat} {v : Value} {n : Nat} {xs : List Value} (h : W.ownsRow base e size v n xs) {b : Nat} {t : TypeId} {cs : Array Value} (hb : Blk W b t cs) (hne : e ≠ t) : v.ownBlock ≠ some b := fun hv => by
  rcases h.2 with ⟨rfl, _⟩ | ⟨g, cap, cur, rfl, hg, hh, _⟩
  · simp [Value.ownBlock] at hv
  · have : g = b := by simpa [Value.ownBlock] using hv
    subst this
    rw [show W.heap[g]? = _ from hb] at hh
    cases hh
    exact hne rfl
/-- How far a round has come: what it keeps. -/
structure Rnd (n₀ lo hi : Nat) (w W X : World) : Prop where
  ko : KeepsOthers W X
  kp : KP n₀ lo hi W X
  bl : Below n₀ w X
  sz : hi ≤ X.heap.size
section
variable {n₀ lo hi : Nat} {w W X Y : World}
theorem Rnd.start (hb : Below n₀ w W) (hs : hi ≤ W.heap.size) : Rnd n₀ lo hi w W W := ⟨KeepsOthers.refl _, KP.refl _ _ _ _, hb, hs⟩
theorem Rnd.below (h : Rnd n₀ lo hi w W X) (hb : Below X.heap.size X Y) (hn : n₀ ≤ hi) : Rnd n₀ lo hi w W Y :=
  have h1 : n₀ ≤ X.heap.size := Nat.le_trans hn h.sz
  ⟨h.ko.trans (KeepsOthers.of_grownBy (grown_of_below hb) (by intro j o e; cases e)), h.kp.trans (KP.of_below hb h1), h.bl.trans (hb.mono h1), Nat.le_trans h.sz hb.size⟩
theorem Rnd.grown (h : Rnd n₀ lo hi w W X) {e : TypeId} {size : Nat} {v : Value} {n : Nat} {xs : List Value} (ho : X.ownsRow hi e size v n xs) (hg : X.grownBy Y v.ownBlock) (hn : n₀ ≤ hi) : Rnd n₀ lo hi w W Y := by
  have hB : Below n₀ X Y := (Below.refl _ _).grown hg (Nat.le_trans hn h.sz) (fun k e => Nat.le_trans hn (ho.lt k e).1)
  refine ⟨h.ko.trans (KeepsOthers.of_grownBy hg (fun j o e hj => own_cells ho e hj)), h.kp.trans ⟨hB, fun b h1 h2 h3 => hg.block b h3 (fun e => ?_)⟩, h.bl.trans hB, Nat.le_trans h.sz hg.size⟩
  have := (ho.lt b e.symm).1
  omega
theorem Rnd.set (h : Rnd n₀ lo hi w W X) {p : Addr} (h1 : n₀ ≤ p.block) (h2 : p.block < lo ∨ hi ≤ p.block) (v : Value) : Rnd n₀ lo hi w W (X.setCell p v) :=
  ⟨h.ko.trans (KeepsOthers.setCell _ _ _), h.kp.trans (KP.setCell h1 h2 v), h.bl.setCell h1 v, by simpa using h.sz⟩
theorem Rnd.alloc (h : Rnd n₀ lo hi w W X) (o : Obj) (hn : n₀ ≤ hi) : Rnd n₀ lo hi w W (X.alloc o) := h.below (below1 X o) hn
theorem Rnd.drew (h : Rnd n₀ lo hi w W X) (hn : n₀ ≤ hi) : Rnd n₀ lo hi w W X.drew := h.below (Below.refl _ _).drew hn
end
theorem filter_prefix {α : Type} (p : α → Bool) (l : List α) {k m : Nat} (h : k ≤ m) : (l.take k).filter p <+: (l.take m).filter p := by
  refine List.IsPrefix.filter p ?_
  rw [show l.take k = (l.take m).take k by rw [List.take_take]; congr 1; omega]
  exact List.take_prefix _ _
end Go.Proofs.Ytkinhhkodaacjaa
