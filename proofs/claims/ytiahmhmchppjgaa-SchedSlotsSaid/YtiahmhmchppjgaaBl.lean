/- Blocks that are known whole, and any number of them. -/
import Derived.Test.YtiahmhmchppjgaaW7
import Derived.Test.YtiahmhmchppjgaaReg
import Derived.RangeFuncFrom
namespace Go.Proofs.Ytiahmhmchppjgaa
open Go.RowKit

/-- A block that is known whole. -/
def Blk (w : World) (b : Nat) (t : TypeId) (cs : Array Value) : Prop := w.heap[b]? = some (.cells cs t (0, 0))
section
variable {w w' : World} {b : Nat} {t : TypeId} {cs : Array Value}
theorem Blk.lt (h : Blk w b t cs) : b < w.heap.size := (Array.getElem?_eq_some_iff.1 h).1
theorem Blk.cell (h : Blk w b t cs) (i : Nat) : w.cell? ⟨b, i, none⟩ = cs[i]? := cell_of_row w b i cs t (0, 0) h
theorem Blk.frozen (h : Blk w b t cs) (i : Nat) : w.frozen? ⟨b, i, none⟩ = false := by
  unfold Blk at h
  simp [World.frozen?, h]
theorem Blk.kept {row : Option Nat} (h : Blk w b t cs) (hg : w.grownBy w' row) (hne : some b ≠ row) : Blk w' b t cs := (hg.block b h.lt hne).trans h
theorem Blk.keep (h : Blk w b t cs) (hb : Below w.heap.size w w') : Blk w' b t cs := (hb.block _ h.lt).trans h
theorem Blk.set (h : Blk w b t cs) (i : Nat) (v : Value) : Blk (w.setCell ⟨b, i, none⟩ v) b t (cs.setIfInBounds i v) := by
  unfold Blk at h ⊢
  simp [World.setCell, Array.getElem?_modify, h]
theorem Blk.far (h : Blk w b t cs) {p : Addr} (hp : b ≠ p.block) (v : Value) : Blk (w.setCell p v) b t cs := (Below.heap_setCell w p v b hp).trans h
theorem Blk.new' (h : w.heap.size = b) : Blk (w.alloc (.cells cs t)) b t cs := by subst h; exact World.alloc_heap_new w _
theorem Blk.alloc (h : Blk w b t cs) (o : Obj) : Blk (w.alloc o) b t cs := h.kept (World.grownBy_alloc w o none) (by simp)
theorem Blk.own (b : Nat) (t : TypeId) (cs : Array Value) {β : Type} : ∀ (_ : β) W W' row, Blk W b t cs → W.grownBy W' row → (∀ r, row = some r → ∃ o : Obj, W.heap[r]? = some o ∧ o.isCells = false) → Blk W' b t cs := fun _ W W' row h hg hr => h.kept hg (fun e => by
  obtain ⟨o, ho, hc⟩ := hr b e.symm
  rw [show W.heap[b]? = _ from h] at ho; cases ho; cases hc)
theorem Blk.one {v0 : Value} (h : Blk w b t #[v0]) : w.cell? ⟨b, 0, none⟩ = some v0 := h.cell 0
theorem Blk.two {v0 v1 : Value} (h : Blk w b t #[v0, v1]) : w.cell? ⟨b, 0, none⟩ = some v0 ∧ w.cell? ⟨b, 1, none⟩ = some v1 := ⟨h.cell 0, h.cell 1⟩
theorem Blk.three {v0 v1 v2 : Value} (h : Blk w b t #[v0, v1, v2]) : w.cell? ⟨b, 0, none⟩ = some v0 ∧ w.cell? ⟨b, 1, none⟩ = some v1 ∧ w.cell? ⟨b, 2, none⟩ = some v2 := ⟨h.cell 0, h.cell 1, h.cell 2⟩
theorem Blk.four {v0 v1 v2 v3 : Value} (h : Blk w b t #[v0, v1, v2, v3]) : w.cell? ⟨b, 0, none⟩ = some v0 ∧ w.cell? ⟨b, 1, none⟩ = some v1 ∧ w.cell? ⟨b, 2, none⟩ = some v2 ∧ w.cell? ⟨b, 3, none⟩ = some v3 :=
  ⟨h.cell 0, h.cell 1, h.cell 2, h.cell 3⟩
theorem Blk.six {v0 v1 v2 v3 v4 v5 : Value} (h : Blk w b t #[v0, v1, v2, v3, v4, v5]) :
    w.cell? ⟨b, 0, none⟩ = some v0 ∧ w.cell? ⟨b, 1, none⟩ = some v1 ∧ w.cell? ⟨b, 2, none⟩ = some v2 ∧ w.cell? ⟨b, 3, none⟩ = some v3 ∧ w.cell? ⟨b, 4, none⟩ = some v4 ∧ w.cell? ⟨b, 5, none⟩ = some v5 :=
  ⟨h.cell 0, h.cell 1, h.cell 2, h.cell 3, h.cell 4, h.cell 5⟩
theorem Blk.eight {v0 v1 v2 v3 v4 v5 v6 v7 : Value} (h : Blk w b t #[v0, v1, v2, v3, v4, v5, v6, v7]) :
    w.cell? ⟨b, 0, none⟩ = some v0 ∧ w.cell? ⟨b, 1, none⟩ = some v1 ∧ w.cell? ⟨b, 2, none⟩ = some v2 ∧ w.cell? ⟨b, 3, none⟩ = some v3 ∧ w.cell? ⟨b, 4, none⟩ = some v4 ∧ w.cell? ⟨b, 5, none⟩ = some v5 ∧ w.cell? ⟨b, 6, none⟩ = some v6 ∧ w.cell? ⟨b, 7, none⟩ = some v7 :=
  ⟨h.cell 0, h.cell 1, h.cell 2, h.cell 3, h.cell 4, h.cell 5, h.cell 6, h.cell 7⟩
end

section
variable {w w' : World} {base : Nat} {e : TypeId} {size : Nat} {v : Value} {n : Nat} {xs : List Value}
theorem own_ne (h : w.ownsRow base e size v n xs) : v.ownBlock ≠ some w.heap.size := fun e' => by
  have := (h.lt _ e').2
  omega
theorem own_cells (h : w.ownsRow base e size v n xs) {j : Nat} {o : Obj} (hj : v.ownBlock = some j) (ho : w.heap[j]? = some o) : o.isCells = true := by
  rcases h.2 with ⟨rfl, _⟩ | ⟨g, cap, cur, rfl, hg, hh, _⟩
  · simp [Value.ownBlock] at hj
  · have : g = j := by simpa [Value.ownBlock] using hj
    subst this; rw [hh] at ho; cases ho; rfl
end
theorem grownBy_setCell (W : World) (p : Addr) (v : Value) : W.grownBy (W.setCell p v) (some p.block) :=
  ⟨rfl, rfl, rfl, by simp, fun k _ hk => Below.heap_setCell _ _ _ k (fun e => hk (by rw [e]))⟩

theorem run_equalIn_func_nil {P : Program} (w : World) (d : Nat) (t : TypeId) (ps rs : Array TypeId) (v : Bool) (f : Fn) (fi ca : Array Value) (h : P.underlying t = some (.func ps rs v)) :
    (Op.equalIn (d + 1) t (.func f fi ca) .nilFunc).run P w = .ok false w := by
  simp [Op.equalIn, run_underlying h]
/-- 'f == nil', f a function that is there. -/
theorem run_eql_func_nil {P : Program} (w : World) (t : TypeId) (ps rs : Array TypeId) (v : Bool) (f : Fn) (fi ca : Array Value) (h : P.underlying t = some (.func ps rs v)) :
    (binOp .eql t (.func f fi ca) .nilFunc).run P w = .ok (.bool false) w := by
  simp only [binOp]
  simp [Op.equal, Op.maxDepth, run_equalIn_func_nil w 9999 t ps rs v f fi ca h]

theorem ownsRow_mono {w : World} {base base' : Nat} {e : TypeId} {size : Nat} {v : Value} {n : Nat} {xs : List Value} (h : w.ownsRow base e size v n xs) (hb : base' ≤ base) : w.ownsRow base' e size v n xs := by
  refine ⟨h.1, ?_⟩
  rcases h.2 with h2 | ⟨g, cap, cur, rfl, hg, h3⟩
  · exact .inl h2
  · exact .inr ⟨g, cap, cur, rfl, Nat.le_trans hb hg, h3⟩
theorem ownsRow_ne {w : World} {base : Nat} {e : TypeId} {size : Nat} {v : Value} {n : Nat} {xs : List Value} (h : w.ownsRow base e size v n xs) {j : Nat} (hj : j < base) : v.ownBlock ≠ some j := by
  rcases h.2 with ⟨rfl, _⟩ | ⟨g, cap, cur, rfl, hg, _⟩
  · simp [Value.ownBlock]
  · simp [Value.ownBlock]; omega
theorem keptSet {w : World} {base : Nat} {e : TypeId} {size : Nat} {v : Value} {n : Nat} {xs : List Value} (h : w.ownsRow base e size v n xs) {b i : Nat} (hb : b < base) (x : Value) : (w.setCell ⟨b, i, none⟩ x).ownsRow base e size v n xs :=
  h.kept (grownBy_setCell w ⟨b, i, none⟩ x) (.inr (ownsRow_ne h hb))
theorem keptLow {w w' : World} {base : Nat} {e : TypeId} {size : Nat} {v : Value} {n : Nat} {xs : List Value} {b : Nat} {t : TypeId} {cs : Array Value} (h : Blk w b t cs) (hg : w.grownBy w' v.ownBlock) (ho : w.ownsRow base e size v n xs) (hb : b < base) : Blk w' b t cs :=
  h.kept hg fun e => ownsRow_ne ho hb e.symm
/-- Blocks that are known whole, and that nothing below w's end has changed. -/
def Bx (w W : World) (l : List (Nat × TypeId × Array Value)) : Prop := (∀ x ∈ l, Blk W x.1 x.2.1 x.2.2) ∧ Below w.heap.size w W
section
variable {w W W' : World} {l : List (Nat × TypeId × Array Value)}
theorem Bx.nil (w : World) : Bx w w [] := ⟨by simp, Below.refl _ _⟩
theorem Bx.get (h : Bx w W l) (i : Nat) {b : Nat} {t : TypeId} {cs : Array Value} (hi : l[i]? = some (b, t, cs)) : Blk W b t cs := h.1 _ (List.mem_of_getElem? hi)
theorem Bx.at (h : Bx w W l) (i j : Nat) {b : Nat} {t : TypeId} {cs : Array Value} {v : Value} (hi : l[i]? = some (b, t, cs)) (hj : cs[j]? = some v) : W.cell? ⟨b, j, none⟩ = some v := ((h.get i hi).cell j).trans hj
theorem Bx.fz (h : Bx w W l) (i j : Nat) {b : Nat} {t : TypeId} {cs : Array Value} (hi : l[i]? = some (b, t, cs)) : W.frozen? ⟨b, j, none⟩ = false := (h.get i hi).frozen j
theorem Bx.keep (h : Bx w W l) (hb : Below W.heap.size W W') : Bx w W' l := ⟨fun x hx => (h.1 x hx).keep hb, h.2.trans (hb.mono h.2.size)⟩
theorem Bx.drew (h : Bx w W l) : Bx w W.drew l := h.keep (Below.refl _ _).drew
theorem Bx.skip (h : Bx w W l) (o : Obj) : Bx w (W.alloc o) l := h.keep (below1 W o)
theorem Bx.new (h : Bx w W l) {b : Nat} (cs : Array Value) (t : TypeId) (hb : W.heap.size = b) : Bx w (W.alloc (.cells cs t)) (l ++ [(b, t, cs)]) := by
  refine ⟨fun x hx => ?_, (h.skip _).2⟩
  rcases List.mem_append.1 hx with hx | hx
  · exact (h.1 x hx).alloc _
  · obtain rfl := List.mem_singleton.1 hx
    exact Blk.new' hb
theorem Bx.set (h : Bx w W l) (k : Nat) {b : Nat} {t : TypeId} {cs : Array Value} (hk : l[k]? = some (b, t, cs)) (hd : ∀ x ∈ l.eraseIdx k, x.1 ≠ b) (hb : w.heap.size ≤ b) (i : Nat) (v : Value) :
    Bx w (W.setCell ⟨b, i, none⟩ v) (l.set k (b, t, cs.setIfInBounds i v)) := by
  refine ⟨fun x hx => ?_, h.2.setCell (by simpa using hb) _⟩
  obtain ⟨j, hj⟩ := List.getElem?_of_mem hx
  by_cases hjk : k = j
  · subst hjk
    have hlt := (List.getElem?_eq_some_iff.1 hk).1
    rw [List.getElem?_set_self hlt] at hj
    cases hj
    exact (h.get k hk).set i v
  · rw [List.getElem?_set_ne hjk] at hj
    have hm : x ∈ l.eraseIdx k := List.mem_iff_getElem?.2 (by
      rcases Nat.lt_or_gt_of_ne hjk with hlt | hlt
      · exact ⟨j - 1, by rw [List.getElem?_eraseIdx, if_neg (by omega), show j - 1 + 1 = j by omega]; exact hj⟩
      · exact ⟨j, by rw [List.getElem?_eraseIdx, if_pos hlt]; exact hj⟩)
    exact (h.1 x (List.mem_of_getElem? hj)).far (fun e => hd x hm e) v
theorem Bx.far (h : Bx w W l) {p : Addr} (hd : ∀ x ∈ l, x.1 ≠ p.block) (hb : w.heap.size ≤ p.block) (v : Value) : Bx w (W.setCell p v) l :=
  ⟨fun x hx => (h.1 x hx).far (hd x hx) v, h.2.setCell hb _⟩
theorem Bx.lt (h : Bx w W l) (i : Nat) {b : Nat} {t : TypeId} {cs : Array Value} (hi : l[i]? = some (b, t, cs)) : b < W.heap.size := (h.get i hi).lt
/-- Behind a turn of one row that the call owns. -/
theorem Bx.kept (h : Bx w W l) {base : Nat} {e : TypeId} {size : Nat} {v : Value} {n : Nat} {xs : List Value} (hg : W.grownBy W' v.ownBlock) (ho : W.ownsRow base e size v n xs)
    (hd : ∀ x ∈ l, v.ownBlock ≠ some x.1) (hb : w.heap.size ≤ base) : Bx w W' l :=
  ⟨fun x hx => (h.1 x hx).kept hg (fun e => hd x hx e.symm), below_app h.2 hb ho hg h.2.size⟩
end
end Go.Proofs.Ytiahmhmchppjgaa
