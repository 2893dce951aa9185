/- Rows of structs that a call owns: a store at a place, the row without its end. (Text of no seat: Ytkinhhkodaacjaa stands for the seat's name.) -/
import Derived.Test.YtkinhhkodaacjaaReg2
import Derived.Test.YtkinhhkodaacjaaRd
import Derived.Laws.CopyRow
import Derived.Laws.Tables
namespace Go.Proofs.Ytkinhhkodaacjaa
open Go.RowKit

section
variable {α : Type} {enc : α → List Value} {size : Nat}
theorem flat_set (hs : ∀ x, (enc x).length = size) : ∀ (l : List α) (i : Nat) (x : α), i < l.length → (l.set i x).flatMap enc = (l.flatMap enc).take (i * size) ++ enc x ++ (l.flatMap enc).drop (i * size + size)
  | [], i, x, h => absurd h (by simp)
  | y :: l, 0, x, _ => by
    simp only [List.set_cons_zero, List.flatMap_cons, Nat.zero_mul, List.take_zero, List.nil_append, Nat.zero_add]
    rw [List.drop_append_of_le_length (by rw [hs]; exact Nat.le_refl _), List.drop_eq_nil_of_le (by rw [hs]; exact Nat.le_refl _), List.nil_append]
  | y :: l, i + 1, x, h => by
    simp only [List.set_cons_succ, List.flatMap_cons]
    rw [flat_set hs l i x (by simpa using h)]
    have e1 : (i + 1) * size = (enc y).length + i * size := by rw [hs, Nat.succ_mul, Nat.add_comm]
    rw [e1, Nat.add_assoc, List.take_length_add_append, List.drop_length_add_append]
    simp [List.append_assoc]

/-- A store of a struct at a place of a row that a call owns. -/
theorem exec_storeOwn {P : Program} {w : World} {o : Oper} {a : Act} {t : TypeId} {base : Nat} (hw : Wide P t size) (hs : ∀ x, (enc x).length = size) (h1 : ∀ x, ∀ u ∈ enc x, u.oneCell' = true) {l : List α} {g n cap i : Nat} (hn : l.length = n)
    (h : w.ownsRow base t size (.slice (some ⟨g, 0, none⟩) n cap) n (l.flatMap enc)) {x y : Operand} (ho : o.op = .store t x y) (hx : a.eval x = .pointer (some ⟨g, i * size, none⟩)) {u : α} (hy : a.eval y = .agg (enc u).toArray) (hi : i < n) :
    ∃ w', ((execOp a.eval o).run P w = .ok .skip w' ∨ (execOp a.eval o).run P w = .ok (.value undef) w') ∧ w'.ownsRow base t size (.slice (some ⟨g, 0, none⟩) n cap) n ((l.set i u).flatMap enc) ∧ w.grownBy w' (some g) := by
  rcases h.2 with ⟨h0, -⟩ | ⟨g', cap', cur, hv, hg, hh, q1, q2, q3, q4⟩
  · cases h0
  cases hv
  have hc : (i + 1) * size ≤ n * size := Nat.mul_le_mul_right _ hi
  have hc2 : n * size ≤ cap * size := Nat.mul_le_mul_right _ q1
  rw [Nat.succ_mul] at hc
  have hst := run_storeCells_at P g (i * size) t (enc u) 0 cur w hh (by rw [hs, q3]; omega) (h1 u)
  obtain ⟨inf, hinf⟩ := hw.some
  have hsz := hw.size hinf
  have hsv : (storeVar t ⟨g, i * size, none⟩ (.agg (enc u).toArray)).run P w = .ok () (w.setRow g (cur.toList.take (i * size) ++ (enc u ++ cur.toList.drop (i * size + size))).toArray) := by
    simp only [Nat.add_zero, hs, List.append_assoc] at hst
    simp [storeVar, sizeOf, typeInfo, hinf, Value.cells, hs, hsz]
    exact hst
  obtain ⟨CS, hCS⟩ : ∃ C, C = (cur.toList.take (i * size) ++ (enc u ++ cur.toList.drop (i * size + size))).toArray := ⟨_, rfl⟩
  rw [← hCS] at hsv
  refine ⟨w.setRow g CS, ?_, ⟨?_, .inr ⟨g, cap, CS, rfl, hg, setRow_heap w g cur _ t _ hh, q1, q2, ?_, ?_⟩⟩, ⟨rfl, rfl, rfl, by simp, fun k hk hne => setRow_other w g k _ (fun e => hne (by rw [e]))⟩⟩
  · first
    | exact .inl (by simp [execOp, ho, hx, hy, Instr.storeAt, Instr.sureAddr, hsv, Result.andThen])
    | exact .inr (by simp [execOp, ho, hx, hy, Instr.storeAt, Instr.sureAddr, hsv, Result.andThen])
  · rw [flat_len hs, List.length_set, hn]
  · have : cur.toList.length = cap * size := by rw [Array.length_toList]; exact q3
    rw [hCS]
    simp [hs]
    omega
  · have hl : cur.toList.length = cap * size := by rw [Array.length_toList]; exact q3
    rw [flat_set hs l i u (by omega), ← q4]
    rw [hCS]
    show (cur.toList.take (i * size) ++ (enc u ++ cur.toList.drop (i * size + size))).take (n * size) = _
    have e1 : n * size = (cur.toList.take (i * size)).length + ((enc u).length + (n * size - (i * size + size))) := by rw [List.length_take, hs]; omega
    rw [List.take_take, Nat.min_eq_left (by omega), List.drop_take, List.append_assoc]
    conv => lhs; rw [e1]
    rw [List.take_length_add_append, List.take_length_add_append]
/-- The row without its end. -/
theorem owns_cut (hs : ∀ x, (enc x).length = size) {w : World} {base g n k cap : Nat} {t : TypeId} {l : List α} (hl : l.length = n) (hk : k ≤ n) (h : w.ownsRow base t size (.slice (some ⟨g, 0, none⟩) n cap) n (l.flatMap enc)) :
    w.ownsRow base t size (.slice (some ⟨g, 0, none⟩) k cap) k ((l.take k).flatMap enc) := by
  rcases h.2 with ⟨h0, -⟩ | ⟨g', cap', cur, hv, hg, hh, q1, q2, q3, q4⟩
  · cases h0
  cases hv
  refine ⟨by rw [flat_len hs]; simp; rw [Nat.min_eq_left (by omega)], .inr ⟨g, cap, cur, rfl, hg, hh, by omega, q2, q3, ?_⟩⟩
  have e : (l.take k).flatMap enc = (l.flatMap enc).take (k * size) := by
    have e1 : l.flatMap enc = (l.take k).flatMap enc ++ (l.drop k).flatMap enc := by rw [← List.flatMap_append, List.take_append_drop]
    have e2 : ((l.take k).flatMap enc).length = k * size := by rw [flat_len hs]; simp; rw [Nat.min_eq_left (by omega)]
    rw [e1, ← e2, List.take_left']
    rfl
  rw [e, ← q4, List.take_take, Nat.min_eq_left (Nat.mul_le_mul_right _ hk)]
end
theorem wpList_storeOwn {P : Program} {α : Type} {enc : α → List Value} {size : Nat} {w : World} {o : Oper} {ops : Array Oper} {rest : List Oper} {a : Act} {Q : Exit → Act → World → Prop} {t : TypeId} {base : Nat} (hw : Wide P t size) (hs : ∀ x, (enc x).length = size) (h1 : ∀ x, ∀ u ∈ enc x, u.oneCell' = true) {l : List α} {g n cap i : Nat} (hn : l.length = n)
    (h : w.ownsRow base t size (.slice (some ⟨g, 0, none⟩) n cap) n (l.flatMap enc)) {x y : Operand} (ho : o.op = .store t x y) (hwn : Region.wanted o (yielded ops a.tmps) = true) (hx : a.eval x = .pointer (some ⟨g, i * size, none⟩)) {u : α} (hy : a.eval y = .agg (enc u).toArray) (hi : i < n)
    (hK : ∀ w', w'.ownsRow base t size (.slice (some ⟨g, 0, none⟩) n cap) n ((l.set i u).flatMap enc) → w.grownBy w' (some g) → wpList P ops Q rest (a.put o.dst undef) w') : wpList P ops Q (o :: rest) a w := by
  obtain ⟨w', hr, q1, q2⟩ := exec_storeOwn (P := P) (w := w) (o := o) (a := a) hw hs h1 hn h ho hx hy hi
  exact wpList_skipped hwn hr (hK w' q1 q2)
theorem grow_none {w w' : World} {row : Option Nat} (h : Below w.heap.size w w') : w.grownBy w' row := ⟨h.os, h.tape, h.output, h.size, fun k hk _ => h.block k hk⟩
theorem grow_trans {w w' w'' : World} {row : Option Nat} (h : w.grownBy w' row) (h' : w'.grownBy w'' row) : w.grownBy w'' row := ⟨h'.os.trans h.os, h'.tape.trans h.tape, h'.output.trans h.output, Nat.le_trans h.size h'.size, fun k hk hne => (h'.block k (Nat.lt_of_lt_of_le hk h.size) hne).trans (h.block k hk hne)⟩
end Go.Proofs.Ytkinhhkodaacjaa
