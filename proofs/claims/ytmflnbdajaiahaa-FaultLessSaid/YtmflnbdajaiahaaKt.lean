/- What a round of a range over a function leaves as it was, where the iterator has made memory of its own behind the body's box. (Text of no seat: Ytmflnbdajaiahaa stands for the seat's name.) -/
import Derived.Test.YtmflnbdajaiahaaKp
namespace Go.Proofs.Ytmflnbdajaiahaa
open Go.RowKit Go.Shelf

/-- What a round leaves as it was: all that lies below n₀; every row of cells but the box bx and the row that it holds; that row is the old one, or a new one. -/
structure KT (n₀ bx : Nat) (A B : World) : Prop where
  bel : Below n₀ A B
  row : ∀ k o v, A.heap[k]? = some o → o.isCells = true → k ≠ bx → A.cell? ⟨bx, 0, none⟩ = some v → v.ownBlock ≠ some k → B.heap[k]? = some o
  box : ∀ v, A.cell? ⟨bx, 0, none⟩ = some v → ∃ v', B.cell? ⟨bx, 0, none⟩ = some v' ∧ (v'.ownBlock = v.ownBlock ∨ ∀ g, v'.ownBlock = some g → A.heap.size ≤ g)
theorem KT.refl (n₀ bx : Nat) (A : World) : KT n₀ bx A A := ⟨Below.refl _ _, fun _ _ _ h _ _ _ _ => h, fun v h => ⟨v, h, .inl rfl⟩⟩
theorem KT.trans {n₀ bx : Nat} {A B C : World} (h : KT n₀ bx A B) (k : KT n₀ bx B C) : KT n₀ bx A C := by
  refine ⟨h.bel.trans k.bel, fun j o v hj ho hne hv hvj => ?_, fun v hv => ?_⟩
  · obtain ⟨v2, h2, h3⟩ := h.box v hv
    refine k.row j o v2 (h.row j o v hj ho hne hv hvj) ho hne h2 ?_
    rcases h3 with e | e
    · rw [e]; exact hvj
    · intro e'
      have := e j e'
      have := (Array.getElem?_eq_some_iff.1 hj).1
      omega
  · obtain ⟨v2, h2, h3⟩ := h.box v hv
    obtain ⟨v3, h4, h5⟩ := k.box v2 h2
    refine ⟨v3, h4, ?_⟩
    rcases h5 with e | e
    · rw [e]; exact h3
    · exact .inr fun g hg => Nat.le_trans h.bel.size (e g hg)
theorem KT.of_below {n₀ bx : Nat} {A B : World} (h : Below A.heap.size A B) (hn : n₀ ≤ A.heap.size) : KT n₀ bx A B :=
  ⟨h.mono hn, fun k _ _ hk _ _ _ _ => (h.block k (Array.getElem?_eq_some_iff.1 hk).1).trans hk, fun v hv => ⟨v, keepCell h hv, .inl rfl⟩⟩
theorem KT.put {n₀ bx : Nat} {w : World} (hn : n₀ ≤ w.heap.size) (W : World) (l : Nat) (o o' : Obj) (hl : w.heap.size ≤ l) (h : W.heap[l]? = some o) (h1 : o.isCells = false) (h2 : o.isWalk = false) : KT n₀ bx W (W.putObj l o') := by
  have hc : ∀ (k : Nat) (p : Obj), W.heap[k]? = some p → p.isCells = true → (W.putObj l o').heap[k]? = some p := fun k p hk hp => by
    refine (World.putObj_heap_other (fun e => ?_)).trans hk
    subst e
    rw [h] at hk
    cases hk
    rw [h1] at hp
    cases hp
  refine ⟨belowK_b hn W l o o' hl h h1 h2, fun k p v hk hp _ _ _ => hc k p hk hp, fun v hv => ⟨v, ?_, .inl rfl⟩⟩
  by_cases e : bx = l
  · subst e
    exfalso
    have : W.cell? ⟨bx, 0, none⟩ = none := by
      unfold World.cell?
      cases o <;> simp_all [Obj.isCells]
    rw [this] at hv
    cases hv
  · rw [← hv]
    exact World.cell?_of_block (World.putObj_heap_other e)

theorem kt_round {A B : World} {n₀ bx base n size : Nat} {e : TypeId} {v : Value} {xs : List Value} (ho : A.ownsRow base e size v n xs) (hb : ∃ u, A.cell? ⟨bx, 0, none⟩ = some u ∧ ∀ g, v.ownBlock = some g → u.ownBlock ≠ some g) (hk : KT n₀ bx A B) (hbx : bx < base) :
    B.ownsRow base e size v n xs ∧ (∃ u, B.cell? ⟨bx, 0, none⟩ = some u ∧ ∀ g, v.ownBlock = some g → u.ownBlock ≠ some g) := by
  obtain ⟨u, hu, hg⟩ := hb
  obtain ⟨u', hu', hs⟩ := hk.box u hu
  refine ⟨⟨ho.1, ho.2.imp id ?_⟩, u', hu', fun g hge => ?_⟩
  · rintro ⟨g, cap, cur, rfl, hbg, hh, r⟩
    exact ⟨g, cap, cur, rfl, hbg, hk.row g _ u hh rfl (by omega) hu (hg g rfl), r⟩
  · rcases hs with e' | e'
    · rw [e']; exact hg g hge
    · intro e2
      have := e' g e2
      have := (ho.lt g hge).2
      omega
/-- The body has appended to the row in its box. -/
theorem kt_app {W W0 w1 : World} {n₀ bx base n size : Nat} {e t : TypeId} {v v' : Value} {xs : List Value} (hb : Blk W0 bx t #[v]) (ho : W0.ownsRow base e size v n xs) (hal : Below W0.heap.size W0 W) (hg : W.grownBy w1 v.ownBlock)
    (hp : v'.ownBlock = v.ownBlock ∨ v'.ownBlock = some W.heap.size) (hn : n₀ ≤ bx) (hn' : n₀ ≤ base) (hx : v.ownBlock ≠ some bx) : KT n₀ bx W0 (w1.setCell ⟨bx, 0, none⟩ v') := by
  have hbel : Below n₀ W0 w1 := (hal.mono (by have := hb.lt; omega)).grown hg (by have := hb.lt; have := hal.size; omega) (fun k hk => by have := (ho.lt k hk).1; omega)
  refine ⟨hbel.setCell hn _, fun k o u hk hc hne hu hur => ?_, fun u hu => ?_⟩
  · have e : u = v := by
      have := hb.cell 0
      rw [hu] at this
      simpa using this
    subst e
    have hlt := (Array.getElem?_eq_some_iff.1 hk).1
    rw [Below.heap_setCell _ _ _ _ hne, hg.block k (Nat.lt_of_lt_of_le hlt hal.size) (fun e => hur e.symm), hal.block k hlt]
    exact hk
  · have e : u = v := by
      have := hb.cell 0
      rw [hu] at this
      simpa using this
    subst e
    have hb1 : Blk w1 bx t #[u] := (hb.keep hal).kept hg (fun e => hx e.symm)
    refine ⟨v', ?_, ?_⟩
    · have := (hb1.set 0 v').cell 0
      simpa using this
    · rcases hp with e | e
      · exact .inl e
      · refine .inr fun g hg' => ?_
        rw [e] at hg'
        cases hg'
        exact hal.size
end Go.Proofs.Ytmflnbdajaiahaa
