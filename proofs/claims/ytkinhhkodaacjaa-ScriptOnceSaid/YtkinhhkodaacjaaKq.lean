/- What a round keeps that writes into a builder. -/
import Derived.Test.YtkinhhkodaacjaaBd
import Derived.Test.YtkinhhkodaacjaaLA
import Derived.Lib.OthersKept
namespace Go.Proofs.Ytkinhhkodaacjaa
open Go.RowKit Go.Shelf

/-- Whatever lay below n₀, and some blocks. -/
def KQ (n₀ : Nat) (p : Nat → Prop) (A B : World) : Prop := Below n₀ A B ∧ ∀ b, p b → b < A.heap.size → B.heap[b]? = A.heap[b]?
section
variable {n₀ : Nat} {p : Nat → Prop} {A B C W X : World}
theorem KQ.refl (n₀ : Nat) (p : Nat → Prop) (A : World) : KQ n₀ p A A := ⟨Below.refl _ _, fun _ _ _ => rfl⟩
theorem KQ.trans (h : KQ n₀ p A B) (k : KQ n₀ p B C) : KQ n₀ p A C := ⟨h.1.trans k.1, fun b h1 h3 => (k.2 b h1 (Nat.lt_of_lt_of_le h3 h.1.size)).trans (h.2 b h1 h3)⟩
theorem KQ.of_below (h : Below A.heap.size A B) (hn : n₀ ≤ A.heap.size) : KQ n₀ p A B := ⟨h.mono hn, fun b _ h3 => h.block b h3⟩
theorem KQ.cell {b o : Nat} {v : Value} (h : KQ n₀ p A B) (h1 : p b) (hc : A.cell? ⟨b, o, none⟩ = some v) : B.cell? ⟨b, o, none⟩ = some v := by
  have hlt := World.block_lt_of_cell? _ _ hc
  rw [← hc]
  exact World.cell?_of_block (h.2 b h1 hlt)
theorem KQ.put {w : World} (hn : n₀ ≤ w.heap.size) (hh : ∀ k, p k → k < w.heap.size) (W : World) (l : Nat) (o o' : Obj) (hl : w.heap.size ≤ l) (h : W.heap[l]? = some o) (h1 : o.isCells = false) (h2 : o.isWalk = false) : KQ n₀ p W (W.putObj l o') :=
  ⟨belowK_b hn W l o o' hl h h1 h2, fun b h3 _ => World.putObj_heap_other (by have := hh b h3; omega)⟩
/-- .. and that reads as something. -/
theorem KQ.reads {α : Type} {enc : α → List Value} {size : Nat} (h : KQ n₀ p A B) {v : Value} {l : List α} (ho : Rd enc size A v l) (h1 : ∀ b o n c, v = .slice (some ⟨b, o, none⟩) n c → p b) : Rd enc size B v l := by
  obtain ⟨a, cap, rfl, q1, q2, q3, q5, q4⟩ := ho
  refine ⟨a, cap, rfl, q1, q2, q3, q5, q4.imp id ?_⟩
  rintro ⟨b, off, rfl, hlt, hc⟩
  have k1 := h1 _ _ _ _ rfl
  exact ⟨b, off, rfl, Nat.lt_of_lt_of_le hlt h.1.size, fun j x hj i u hu => by
    rw [World.cell?_of_block (h.2 b k1 hlt)]
    exact hc j x hj i u hu⟩
theorem othersOfBelow {e : TypeId} {b : Option Nat} (h : Below A.heap.size A B) : Lib.OthersKept e b A B := fun k _ hk _ _ => (h.block k (Array.getElem?_eq_some_iff.1 hk).1).trans hk
theorem isB_kept {T e : TypeId} {B b : Nat} {bs : List Value} {row : Option Nat} (h : Lib.IsBuilderF T e B b bs W) (hg : W.grownBy X row) (h1 : row ≠ some b) (h2 : ∀ r, row = some r → ∃ o : Obj, W.heap[r]? = some o ∧ o.isCells = false) : Lib.IsBuilderF T e B b bs X := by
  have go : ∀ p, Lib.BuilderAtF T e B b p bs W → Lib.BuilderAtF T e B b p bs X := fun p h => by
    obtain ⟨hB, v, hbk, hown, hne⟩ := h
    have hlt : b < W.heap.size := (Array.getElem?_eq_some_iff.1 hbk).1
    refine ⟨hB, v, (hg.block b hlt (fun e => h1 e.symm)).trans hbk, hown.kept hg ?_, hne⟩
    rcases hv : v.ownBlock with _ | g
    · exact .inl rfl
    · refine .inr fun e => ?_
      obtain ⟨o, ho, hc⟩ := h2 g e.symm
      obtain ⟨c, fz, hcell⟩ := Lib.ownsRowF_kind hown g hv
      rw [ho] at hcell
      cases hcell; cases hc
  rcases h with h | h
  · exact .inl (go _ h)
  · exact .inr (go _ h)
end
/-- The builder holds l; what else there was in w1 stands. -/
structure BI (w : World) (n₀ b : Nat) (w1 : World) (l : List UInt8) (W : World) : Prop where
  bld : Bld n₀ b l W
  ok : Lib.OthersKept 5 (some b) w1 W
  bel : Below n₀ w W
  sz : w1.heap.size ≤ W.heap.size
section
variable {w w1 W X : World} {n₀ b : Nat} {l l' : List UInt8}
theorem Bld.blk (h : Bld n₀ b l W) : ∃ cs fz, W.heap[b]? = some (.cells cs 88 fz) := by
  rcases h with h | h <;> obtain ⟨_, v, hb, _⟩ := h <;> exact ⟨_, _, hb⟩
theorem Bld.lt (h : Bld n₀ b l W) : n₀ ≤ b ∧ b < W.heap.size := by
  obtain ⟨cs, fz, hb⟩ := h.blk
  refine ⟨?_, (Array.getElem?_eq_some_iff.1 hb).1⟩
  rcases h with h | h <;> exact h.1
theorem Bld.keep (h : Bld n₀ b l W) (hb : Below W.heap.size W X) : Bld n₀ b l X := isB_kept h (grown_of_below hb) (by simp) (by simp)
theorem BI.start (h : Bld n₀ b l W) (hb : Below n₀ w W) : BI w n₀ b W l W := ⟨h, Lib.OthersKept.refl _ _ _, hb, Nat.le_refl _⟩
theorem BI.post (h : BI w n₀ b w1 l W) (k : BPost n₀ b l' W X) : BI w n₀ b w1 l' X := ⟨k.1, h.ok.trans k.2.2.1, h.bel.trans k.2.1, Nat.le_trans h.sz k.2.2.2⟩
theorem BI.below (h : BI w n₀ b w1 l W) (k : Below W.heap.size W X) : BI w n₀ b w1 l X :=
  ⟨h.bld.keep k, h.ok.trans (othersOfBelow k), h.bel.trans (k.mono (by have := h.bld.lt; omega)), Nat.le_trans h.sz k.size⟩
theorem BI.le (h : BI w n₀ b w1 l W) : n₀ ≤ W.heap.size := by have := h.bld.lt; omega
theorem BI.own {β : Type} {f : β → List UInt8} {H : Nat} (hH : w1.heap.size ≤ H) (hn : n₀ ≤ H) : OwnFrom H (fun s W => BI w n₀ b w1 (f s) W) := fun s A A' row hs hg hr => by
  have hrb : row ≠ some b := fun e => by
    obtain ⟨_, o, ho, hc⟩ := hr b e
    obtain ⟨cs, fz, hb⟩ := hs.bld.blk
    rw [hb] at ho; cases ho; cases hc
  exact ⟨isB_kept hs.bld hg hrb (fun r e => (hr r e).2), fun k o hk hkb ho => by
    have := hs.ok k o hk hkb ho
    refine (hg.block k (Array.getElem?_eq_some_iff.1 this).1 (fun e => ?_)).trans this
    have h1 := (hr k e.symm).1
    have h2 := (Array.getElem?_eq_some_iff.1 hk).1
    omega, hs.bel.grown hg hs.le (fun r e => Nat.le_trans hn (hr r e).1), Nat.le_trans hs.sz hg.size⟩
/-- The body's word: what is no cells lies as it lay. -/
theorem BI.others (h : BI w n₀ b W l' X) (h0 : Bld n₀ b l W) : KeepsOthers W X := ⟨h.sz, fun k o hk ho => h.ok k o hk (fun e => by
    cases e
    obtain ⟨cs, fz, hb⟩ := h0.blk
    rw [hb] at hk; cases hk; cases ho) (fun c fz e => by subst e; cases ho)⟩
theorem BI.kq {p : Nat → Prop} (h1 : BI w n₀ b w1 l W) (h2 : BI w n₀ b W l' X) (hp : ∀ k, p k → k < w1.heap.size ∧ k ≠ b ∧ ∀ c fz, w1.heap[k]? ≠ some (.cells c 5 fz)) : KQ n₀ p W X := by
  refine ⟨⟨?_, ?_, ?_, h2.sz, fun k hk => ?_⟩, fun k hk hlt => ?_⟩
  · rw [h2.bel.os, h1.bel.os]
  · rw [h2.bel.tape, h1.bel.tape]
  · rw [h2.bel.output, h1.bel.output]
  · rw [h2.bel.block k hk, h1.bel.block k hk]
  · obtain ⟨q1, q2, q3⟩ := hp k hk
    have e1 := h1.ok k _ (Array.getElem?_eq_getElem q1) (by simpa using q2) (fun c fz e => q3 c fz (by rw [Array.getElem?_eq_getElem q1, e]))
    have e2 := h2.ok k _ e1 (by simpa using q2) (fun c fz e => q3 c fz (by rw [Array.getElem?_eq_getElem q1, e]))
    rw [e1, e2]
theorem BI.join (h1 : BI w n₀ b w1 l W) (h2 : BI w n₀ b W l' X) : BI w n₀ b w1 l' X := ⟨h2.bld, h1.ok.trans h2.ok, h2.bel, Nat.le_trans h1.sz h2.sz⟩
end
end Go.Proofs.Ytkinhhkodaacjaa
