/- Rows of structs that a call owns: a store at a place; the queue in memory. -/
import Derived.Test.YtbmnecdkjkffdaaE3
import Derived.Laws.CopyRow
namespace Go.Proofs.Ytbmnecdkjkffdaa
open Go.RowKit

theorem W31 : Wide Try.prog 31 4 := ⟨⟨_, Try.underlying31, rfl⟩, by kernel_rfl⟩
theorem F22 : Flat Try.prog 22 := ⟨⟨_, Try.underlying22, rfl⟩, by kernel_rfl⟩
noncomputable def zE : Value := ((Try.prog.info? 31).bind (fun i => i.zero)).getD (.bool false)
theorem E22 : Elem Try.prog 22 31 zE 4 32 := ⟨Try.underlying22, by kernel_rfl, by kernel_rfl, by decide, by decide⟩
theorem encE_len (e : Ev) : (encE e).length = 4 := rfl
theorem encE_one (e : Ev) : ∀ u ∈ encE e, u.oneCell' = true := by
  intro u hu
  simp [encE] at hu
  rcases hu with rfl | rfl | rfl | rfl <;> rfl

section
variable {α : Type} {enc : α → List Value} {size : Nat}
theorem flat_set (hs : ∀ x, (enc x).length = size) : ∀ (l : List α) (i : Nat) (x : α), i < l.length → (l.set i x).flatMap enc = (l.flatMap enc).take (i * size) ++ enc x ++ (l.flatMap enc).drop (i * size + size)
  | [], i, x, h => absurd h (by simp)
  | y :: l, 0, x, _ => by
    simp only [List.set_cons_zero, List.flatMap_cons, Nat.zero_mul, List.take_zero, List.nil_append, Nat.zero_add]
    rw [List.drop_append_of_le_length (by rw [hs]; exact Nat.le_refl _), List.drop_eq_nil_of_le (by rw [hs]; exact Nat.le_refl _), List.nil_append]
  | y :: l, i + 1, x, h => by
    simp only [List.set_cons_succ, List.flatMap_cons]
    rw [flat_set hs l i x (by simpa using h)]
    have e1 : (i + 1) * size = (enc y).length + i * size := by rw [hs, Nat.succ_mul, Nat.add_comm]
    rw [e1, Nat.add_assoc, List.take_length_add_append, List.drop_length_add_append]
    simp [List.append_assoc]

/-- A store of a struct at a place of a row that a call owns. -/
theorem exec_storeOwn {P : Program} {w : World} {o : Oper} {a : Act} {t : TypeId} {base : Nat} (hw : Wide P t size) (hs : ∀ x, (enc x).length = size) (h1 : ∀ x, ∀ u ∈ enc x, u.oneCell' = true) {l : List α} {g n cap i : Nat} (hn : l.length = n)
    (h : w.ownsRow base t size (.slice (some ⟨g, 0, none⟩) n cap) n (l.flatMap enc)) {x y : Operand} (ho : o.op = .store t x y) (hx : a.eval x = .pointer (some ⟨g, i * size, none⟩)) {u : α} (hy : a.eval y = .agg (enc u).toArray) (hi : i < n) :
    ∃ w', ((execOp a.eval o).run P w = .ok .skip w' ∨ (execOp a.eval o).run P w = .ok (.value undef) w') ∧ w'.ownsRow base t size (.slice (some ⟨g, 0, none⟩) n cap) n ((l.set i u).flatMap enc) ∧ w.grownBy w' (some g) := by
  rcases h.2 with ⟨h0, -⟩ | ⟨g', cap', cur, hv, hg, hh, q1, q2, q3, q4⟩
  · cases h0
  cases hv
  have hc : (i + 1) * size ≤ n * size := Nat.mul_le_mul_right _ hi
  have hc2 : n * size ≤ cap * size := Nat.mul_le_mul_right _ q1
  rw [Nat.succ_mul] at hc
  have hst := run_storeCells_at P g (i * size) t (enc u) 0 cur w hh (by rw [hs, q3]; omega) (h1 u)
  obtain ⟨inf, hinf⟩ := hw.some
  have hsz := hw.size hinf
  have hsv : (storeVar t ⟨g, i * size, none⟩ (.agg (enc u).toArray)).run P w = .ok () (w.setRow g (cur.toList.take (i * size) ++ (enc u ++ cur.toList.drop (i * size + size))).toArray) := by
    simp only [Nat.add_zero, hs, List.append_assoc] at hst
    simp [storeVar, sizeOf, typeInfo, hinf, Value.cells, hs, hsz]
    exact hst
  obtain ⟨CS, hCS⟩ : ∃ C, C = (cur.toList.take (i * size) ++ (enc u ++ cur.toList.drop (i * size + size))).toArray := ⟨_, rfl⟩
  rw [← hCS] at hsv
  refine ⟨w.setRow g CS, ?_, ⟨?_, .inr ⟨g, cap, CS, rfl, hg, setRow_heap w g cur _ t _ hh, q1, q2, ?_, ?_⟩⟩, ⟨rfl, rfl, rfl, by simp, fun k hk hne => setRow_other w g k _ (fun e => hne (by rw [e]))⟩⟩
  · first
    | exact .inl (by simp [execOp, ho, hx, hy, Instr.storeAt, Instr.sureAddr, hsv, Result.andThen])
    | exact .inr (by simp [execOp, ho, hx, hy, Instr.storeAt, Instr.sureAddr, hsv, Result.andThen])
  · rw [flat_len hs, List.length_set, hn]
  · have : cur.toList.length = cap * size := by rw [Array.length_toList]; exact q3
    rw [hCS]
    simp [hs]
    omega
  · have hl : cur.toList.length = cap * size := by rw [Array.length_toList]; exact q3
    rw [flat_set hs l i u (by omega), ← q4]
    rw [hCS]
    show (cur.toList.take (i * size) ++ (enc u ++ cur.toList.drop (i * size + size))).take (n * size) = _
    have e1 : n * size = (cur.toList.take (i * size)).length + ((enc u).length + (n * size - (i * size + size))) := by rw [List.length_take, hs]; omega
    rw [List.take_take, Nat.min_eq_left (by omega), List.drop_take, List.append_assoc]
    conv => lhs; rw [e1]
    rw [List.take_length_add_append, List.take_length_add_append]
end

/-- The queue at block q: the row sv, the events l in it, the moment now. -/
def Qu (w : World) (q : Nat) (sv : Value) (l : List Ev) (now : Int) : Prop := Blk w q 47 #[.bool true, sv, .int .i64 now] ∧ w.ownsRow (q + 1) 31 4 sv l.length (l.flatMap encE)
/-- All but the queue at q with its row sv is as it was. -/
structure QK (w w' : World) (q : Nat) (sv : Value) : Prop where
  os : w'.os = w.os
  tape : w'.tape = w.tape
  output : w'.output = w.output
  size : w.heap.size ≤ w'.heap.size
  block : ∀ k, k < w.heap.size → k ≠ q → sv.ownBlock ≠ some k → w'.heap[k]? = w.heap[k]?
theorem QK.refl (w : World) (q : Nat) (sv : Value) : QK w w q sv := ⟨rfl, rfl, rfl, Nat.le_refl _, fun _ _ _ _ => rfl⟩
theorem QK.gw {w w' w'' : World} {q : Nat} {sv : Value} (h : QK w w' q sv) (h' : Gw w' w'') : QK w w'' q sv := by
  have hs := h'.size
  have hb := @Gw.block _ _ h'
  have h3 := h'.below 0 (Nat.zero_le _)
  exact ⟨h3.os.trans h.os, h3.tape.trans h.tape, h3.output.trans h.output, Nat.le_trans h.size hs, fun k hk h1 h2 => (hb (Nat.lt_of_lt_of_le hk h.size)).trans (h.block k hk h1 h2)⟩
theorem QK.row {w w' w'' : World} {q g : Nat} {sv : Value} (h : QK w w' q sv) (h' : w'.grownBy w'' (some g)) (hg : sv.ownBlock = some g ∨ w.heap.size ≤ g) : QK w w'' q sv :=
  ⟨h'.os.trans h.os, h'.tape.trans h.tape, h'.output.trans h.output, Nat.le_trans h.size h'.size, fun k hk h1 h2 => (h'.block k (Nat.lt_of_lt_of_le hk h.size) (fun e => by
    cases e
    rcases hg with hg | hg
    · exact h2 hg
    · omega)).trans (h.block k hk h1 h2)⟩
theorem Qu.gw {w w' : World} {q : Nat} {sv : Value} {l : List Ev} {now : Int} (h : Qu w q sv l now) (h' : Gw w w') : Qu w' q sv l now :=
  ⟨h.1.keep (h'.below _ (Nat.le_refl _)), ow_below h.2 (h'.below _ (Nat.le_refl _))⟩
end Go.Proofs.Ytbmnecdkjkffdaa
