/- Blocks that are known whole; what a call owns, behind stores and calls; a function value against nil. (Text of no seat: Ytkinhhkodaacjaa stands for the seat's name.) -/
import Derived.Test.YtkinhhkodaacjaaOwnIn
import Derived.RangeFuncFrom
namespace Go.Proofs.Ytkinhhkodaacjaa
open Go.RowKit

def I64 (x : Int) : Prop := -9223372036854775808 ≤ x ∧ x ≤ 9223372036854775807
theorem I64.lo {x : Int} (h : I64 x) : -9223372036854775808 ≤ x := h.1
theorem I64.hi {x : Int} (h : I64 x) : x ≤ 9223372036854775807 := h.2

/-- A block that is known whole. -/
def Blk (w : World) (b : Nat) (t : TypeId) (cs : Array Value) : Prop := w.heap[b]? = some (.cells cs t (0, 0))
section
variable {w w' : World} {b : Nat} {t : TypeId} {cs : Array Value}
theorem Blk.lt (h : Blk w b t cs) : b < w.heap.size := (Array.getElem?_eq_some_iff.1 h).1
theorem Blk.cell (h : Blk w b t cs) (i : Nat) : w.cell? ⟨b, i, none⟩ = cs[i]? := cell_of_row w b i cs t (0, 0) h
theorem Blk.frozen (h : Blk w b t cs) (i : Nat) : w.frozen? ⟨b, i, none⟩ = false := by
  unfold Blk at h
  simp [World.frozen?, h]
theorem Blk.kept {row : Option Nat} (h : Blk w b t cs) (hg : w.grownBy w' row) (hne : some b ≠ row) : Blk w' b t cs := (hg.block b h.lt hne).trans h
theorem Blk.keep (h : Blk w b t cs) (hb : Below w.heap.size w w') : Blk w' b t cs := (hb.block _ h.lt).trans h
theorem Blk.set (h : Blk w b t cs) (i : Nat) (v : Value) : Blk (w.setCell ⟨b, i, none⟩ v) b t (cs.setIfInBounds i v) := by
  unfold Blk at h ⊢
  simp [World.setCell, Array.getElem?_modify, h]
theorem Blk.far (h : Blk w b t cs) {p : Addr} (hp : b ≠ p.block) (v : Value) : Blk (w.setCell p v) b t cs := (Below.heap_setCell w p v b hp).trans h
theorem Blk.new' (h : w.heap.size = b) : Blk (w.alloc (.cells cs t)) b t cs := by subst h; exact World.alloc_heap_new w _
theorem Blk.alloc (h : Blk w b t cs) (o : Obj) : Blk (w.alloc o) b t cs := h.kept (World.grownBy_alloc w o none) (by simp)
theorem Blk.own (b : Nat) (t : TypeId) (cs : Array Value) {β : Type} : ∀ (_ : β) W W' row, Blk W b t cs → W.grownBy W' row → (∀ r, row = some r → ∃ o : Obj, W.heap[r]? = some o ∧ o.isCells = false) → Blk W' b t cs := fun _ W W' row h hg hr => h.kept hg (fun e => by
  obtain ⟨o, ho, hc⟩ := hr b e.symm
  rw [show W.heap[b]? = _ from h] at ho; cases ho; cases hc)
theorem Blk.one {v0 : Value} (h : Blk w b t #[v0]) : w.cell? ⟨b, 0, none⟩ = some v0 := h.cell 0
theorem Blk.two {v0 v1 : Value} (h : Blk w b t #[v0, v1]) : w.cell? ⟨b, 0, none⟩ = some v0 ∧ w.cell? ⟨b, 1, none⟩ = some v1 := ⟨h.cell 0, h.cell 1⟩
theorem Blk.three {v0 v1 v2 : Value} (h : Blk w b t #[v0, v1, v2]) : w.cell? ⟨b, 0, none⟩ = some v0 ∧ w.cell? ⟨b, 1, none⟩ = some v1 ∧ w.cell? ⟨b, 2, none⟩ = some v2 := ⟨h.cell 0, h.cell 1, h.cell 2⟩
theorem Blk.four {v0 v1 v2 v3 : Value} (h : Blk w b t #[v0, v1, v2, v3]) : w.cell? ⟨b, 0, none⟩ = some v0 ∧ w.cell? ⟨b, 1, none⟩ = some v1 ∧ w.cell? ⟨b, 2, none⟩ = some v2 ∧ w.cell? ⟨b, 3, none⟩ = some v3 :=
  ⟨h.cell 0, h.cell 1, h.cell 2, h.cell 3⟩
theorem Blk.six {v0 v1 v2 v3 v4 v5 : Value} (h : Blk w b t #[v0, v1, v2, v3, v4, v5]) :
    w.cell? ⟨b, 0, none⟩ = some v0 ∧ w.cell? ⟨b, 1, none⟩ = some v1 ∧ w.cell? ⟨b, 2, none⟩ = some v2 ∧ w.cell? ⟨b, 3, none⟩ = some v3 ∧ w.cell? ⟨b, 4, none⟩ = some v4 ∧ w.cell? ⟨b, 5, none⟩ = some v5 :=
  ⟨h.cell 0, h.cell 1, h.cell 2, h.cell 3, h.cell 4, h.cell 5⟩
theorem Blk.eight {v0 v1 v2 v3 v4 v5 v6 v7 : Value} (h : Blk w b t #[v0, v1, v2, v3, v4, v5, v6, v7]) :
    w.cell? ⟨b, 0, none⟩ = some v0 ∧ w.cell? ⟨b, 1, none⟩ = some v1 ∧ w.cell? ⟨b, 2, none⟩ = some v2 ∧ w.cell? ⟨b, 3, none⟩ = some v3 ∧ w.cell? ⟨b, 4, none⟩ = some v4 ∧ w.cell? ⟨b, 5, none⟩ = some v5 ∧ w.cell? ⟨b, 6, none⟩ = some v6 ∧ w.cell? ⟨b, 7, none⟩ = some v7 :=
  ⟨h.cell 0, h.cell 1, h.cell 2, h.cell 3, h.cell 4, h.cell 5, h.cell 6, h.cell 7⟩
end

section
variable {w w' : World} {base : Nat} {e : TypeId} {size : Nat} {v : Value} {n : Nat} {xs : List Value}
theorem ow_below (h : w.ownsRow base e size v n xs) (hb : Below w.heap.size w w') : w'.ownsRow base e size v n xs :=
  ⟨h.1, h.2.imp id fun ⟨g, cap, cur, hv, hg, hh, r⟩ => ⟨g, cap, cur, hv, hg, (hb.block g (Array.getElem?_eq_some_iff.1 hh).1).trans hh, r⟩⟩
theorem owns_shape (h : w.ownsRow base e size v n xs) :
    ∃ a cap, v = .slice a n cap ∧ n ≤ cap ∧ cap ≤ 9223372036854775807 ∧ (n ≠ 0 → ∃ g, a = some ⟨g, 0, none⟩ ∧ base ≤ g ∧ g < w.heap.size) := by
  rcases h.2 with ⟨rfl, h0⟩ | ⟨g, cap, cur, rfl, hg, hh, h1, h2, h3, h4⟩
  · subst h0; exact ⟨none, 0, rfl, by omega, by omega, fun h => absurd rfl h⟩
  · exact ⟨_, _, rfl, h1, by simpa [maxLen] using h2, fun _ => ⟨g, rfl, hg, (Array.getElem?_eq_some_iff.1 hh).1⟩⟩
theorem own_ne (h : w.ownsRow base e size v n xs) : v.ownBlock ≠ some w.heap.size := fun e' => by
  have := (h.lt _ e').2
  omega
theorem own_cells (h : w.ownsRow base e size v n xs) {j : Nat} {o : Obj} (hj : v.ownBlock = some j) (ho : w.heap[j]? = some o) : o.isCells = true := by
  rcases h.2 with ⟨rfl, _⟩ | ⟨g, cap, cur, rfl, hg, hh, _⟩
  · simp [Value.ownBlock] at hj
  · have : g = j := by simpa [Value.ownBlock] using hj
    subst this; rw [hh] at ho; cases ho; rfl
end
theorem grownBy_setCell (W : World) (p : Addr) (v : Value) : W.grownBy (W.setCell p v) (some p.block) :=
  ⟨rfl, rfl, rfl, by simp, fun k _ hk => Below.heap_setCell _ _ _ k (fun e => hk (by rw [e]))⟩

/-- A row that reads is as it was, where but one block turned, in which it does not lie. -/
theorem Rd.far {α : Type} {enc : α → List Value} {size : Nat} {W W' : World} {v : Value} {l : List α} (h : Rd enc size W v l) {g : Nat} (hg : ∀ o n c, v = .slice (some ⟨g, o, none⟩) n c → l = [])
    (hW : ∀ b, b ≠ g → W'.heap[b]? = W.heap[b]?) (hsz : W.heap.size ≤ W'.heap.size) : Rd enc size W' v l := by
  obtain ⟨a, cap, rfl, h1, h2, h3, h5, h4⟩ := h
  refine ⟨a, cap, rfl, h1, h2, h3, h5, ?_⟩
  rcases h4 with h4 | ⟨b, off, rfl, hlt, hc⟩
  · exact .inl h4
  · by_cases hb : b = g
    · subst hb; exact .inl (hg _ _ _ rfl)
    · refine .inr ⟨b, off, rfl, Nat.lt_of_lt_of_le hlt hsz, fun j x hj i u hu => ?_⟩
      rw [World.cell?_of_block (hW b hb)]
      exact hc j x hj i u hu

theorem run_equalIn_func_nil {P : Program} (w : World) (d : Nat) (t : TypeId) (ps rs : Array TypeId) (v : Bool) (f : Fn) (fi ca : Array Value) (h : P.underlying t = some (.func ps rs v)) :
    (Op.equalIn (d + 1) t (.func f fi ca) .nilFunc).run P w = .ok false w := by
  simp [Op.equalIn, run_underlying h]
/-- 'f == nil', f a function that is there. -/
theorem run_eql_func_nil {P : Program} (w : World) (t : TypeId) (ps rs : Array TypeId) (v : Bool) (f : Fn) (fi ca : Array Value) (h : P.underlying t = some (.func ps rs v)) :
    (binOp .eql t (.func f fi ca) .nilFunc).run P w = .ok (.bool false) w := by
  simp only [binOp]
  simp [Op.equal, Op.maxDepth, run_equalIn_func_nil w 9999 t ps rs v f fi ca h]

theorem filter_snoc {α : Type} {l : List α} {k : Nat} {s : α} (p : α → Bool) (h : l[k]? = some s) : (l.take (k + 1)).filter p = if p s then (l.take k).filter p ++ [s] else (l.take k).filter p := by
  rw [take_snoc h, List.filter_append]
  cases hp : p s <;> simp [hp]
theorem any_snoc {α : Type} {l : List α} {k : Nat} {s : α} (p : α → Bool) (h : l[k]? = some s) : (l.take (k + 1)).any p = ((l.take k).any p || p s) := by
  rw [take_snoc h, List.any_append]; simp
theorem all_snoc {α : Type} {l : List α} {k : Nat} {s : α} (p : α → Bool) (h : l[k]? = some s) : (l.take (k + 1)).all p = ((l.take k).all p && p s) := by
  rw [take_snoc h, List.all_append]; simp
theorem map_snoc {α β : Type} {l : List α} {k : Nat} {s : α} (f : α → β) (h : l[k]? = some s) : (l.take (k + 1)).map f = (l.take k).map f ++ [f s] := by
  rw [take_snoc h, List.map_append]; rfl
theorem countP_snoc {α : Type} {l : List α} {k : Nat} {s : α} (p : α → Bool) (h : l[k]? = some s) : (l.take (k + 1)).countP p = (l.take k).countP p + (if p s then 1 else 0) := by
  rw [take_snoc h, List.countP_append]; cases hp : p s <;> simp [hp]
end Go.Proofs.Ytkinhhkodaacjaa
