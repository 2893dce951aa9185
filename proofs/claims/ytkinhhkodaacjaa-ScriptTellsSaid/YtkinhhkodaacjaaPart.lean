/- A store of a struct into a part of a block. (Text of no seat: Ytkinhhkodaacjaa stands for the seat's name.) -/
import Derived.Test.YtkinhhkodaacjaaReg2
import Derived.Laws.CopyRow
import Derived.Laws.Tables
namespace Go.Proofs.Ytkinhhkodaacjaa
open Go.RowKit

/-- Cells with some others in their place. -/
def putAt (old : List Value) (off : Nat) (cs : List Value) : List Value := old.take off ++ (cs ++ old.drop (off + cs.length))
theorem grownRow (w : World) (b : Nat) (cs : Array Value) : w.grownBy (w.setRow b cs) (some b) := ⟨rfl, rfl, rfl, by simp [World.setRow], fun k _ hk => setRow_other w b k _ (fun e => hk (by rw [e]))⟩
/-- Two blocks of two types are two. -/
theorem blk_ne {W : World} {a b : Nat} {s t : TypeId} {cs ds : Array Value} (h : Blk W a s cs) (g : Blk W b t ds) (hne : s ≠ t) : a ≠ b := fun e => by
  subst e
  rw [Blk, show W.heap[a]? = _ from h] at g
  cases g
  exact hne rfl
section
variable {P : Program} {w : World} {o : Oper} {a : Act} {t : TypeId} {n : Nat}
theorem exec_storePart (h : Wide P t n) {x y : Operand} (ho : o.op = .store t x y) {g off : Nat} (hx : a.eval x = .pointer (some ⟨g, off, none⟩)) {cs : List Value} (hy : a.eval y = .agg cs.toArray) (hl : cs.length = n)
    (h1 : ∀ u ∈ cs, u.oneCell' = true) {te : TypeId} {old : List Value} (hg : Blk w g te old.toArray) (ho' : off + n ≤ old.length) :
    (execOp a.eval o).run P w = .ok .skip (w.setRow g (putAt old off cs).toArray) ∨ (execOp a.eval o).run P w = .ok (.value undef) (w.setRow g (putAt old off cs).toArray) := by
  have hst := run_storeCells_at P g off te cs 0 old.toArray w hg (by simp; omega) h1
  simp only [Nat.add_zero, List.append_assoc] at hst
  obtain ⟨inf, hinf⟩ := h.some
  have hsz := h.size hinf
  have hsv : (storeVar t ⟨g, off, none⟩ (.agg cs.toArray)).run P w = .ok () (w.setRow g (putAt old off cs).toArray) := by
    simp [storeVar, sizeOf, typeInfo, hinf, Value.cells, hl, hsz]
    exact hst
  first
  | exact .inl (by simp [execOp, ho, hx, hy, Instr.storeAt, Instr.sureAddr, hsv, Result.andThen])
  | exact .inr (by simp [execOp, ho, hx, hy, Instr.storeAt, Instr.sureAddr, hsv, Result.andThen])
theorem Blk.part {g : Nat} {te : TypeId} {old cs : Array Value} (hg : Blk w g te old) : Blk (w.setRow g cs) g te cs := setRow_heap w g old cs te _ hg
theorem wpList_storePart {ops : Array Oper} {rest : List Oper} {Q : Exit → Act → World → Prop} (h : Wide P t n) {x y : Operand} (ho : o.op = .store t x y) (hw : Region.wanted o (yielded ops a.tmps) = true) {g off : Nat} (hx : a.eval x = .pointer (some ⟨g, off, none⟩)) {cs : List Value} (hy : a.eval y = .agg cs.toArray) (hl : cs.length = n)
    (h1 : ∀ u ∈ cs, u.oneCell' = true) {te : TypeId} {old : List Value} (hg : Blk w g te old.toArray) (ho' : off + n ≤ old.length)
    (hK : ∀ W1, Blk W1 g te (putAt old off cs).toArray → w.grownBy W1 (some g) → wpList P ops Q rest (a.put o.dst undef) W1) : wpList P ops Q (o :: rest) a w :=
  wpList_skipped hw (exec_storePart h ho hx hy hl h1 hg ho') (hK _ hg.part (grownRow w g _))
end
end Go.Proofs.Ytkinhhkodaacjaa
