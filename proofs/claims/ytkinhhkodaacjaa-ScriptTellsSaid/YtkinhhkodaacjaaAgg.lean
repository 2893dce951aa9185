/- Structs of many cells, as one list: load, store behind an alloc, a slice of one; outside a fence and inside. (Text of no seat: Ytkinhhkodaacjaa stands for the seat's name.) -/
import Derived.Test.YtkinhhkodaacjaaBlk
import Derived.Laws.Rows
import Derived.OwnWalkIn
namespace Go.Proofs.Ytkinhhkodaacjaa
open Go.RowKit

/-- A struct's or an array's type, of n cells. -/
structure Wide (P : Program) (t : TypeId) (n : Nat) : Prop where
  under : ∃ d, P.underlying t = some d ∧ (match d with | .struct _ | .array _ _ => true | _ => false) = true
  info : (P.info? t).map (·.size) = some n

section
variable {P : Program} {t : TypeId} {n : Nat} {w : World}
theorem run_isAgg (h : Wide P t n) : (isAgg t).run P w = .ok true w := by
  obtain ⟨d, hu, hd⟩ := h.under
  unfold isAgg
  rw [Sem.run_bind, run_underlying hu w]
  cases d <;> simp_all
theorem Wide.size {i : TypeInfo} (h : Wide P t n) (hq : P.info? t = some i) : i.size = n := by
  have := h.info
  rw [hq] at this
  simpa using this
theorem Wide.some (h : Wide P t n) : ∃ i, P.info? t = some i := by
  have := h.info
  cases hq : P.info? t with
  | none => rw [hq] at this; simp at this
  | some i => exact ⟨i, rfl⟩

theorem run_loadW (h : Wide P t n) {b off : Nat} {cs : List Value} (hl : cs.length = n) (hc : ∀ j u, cs[j]? = some u → w.cell? ⟨b, off + j, none⟩ = some u) : (loadVar t ⟨b, off, none⟩).run P w = .ok (.agg cs.toArray) w := by
  obtain ⟨i, hq⟩ := h.some
  have hs : i.size = cs.length := by rw [h.size hq, hl]
  have hld : (loadCells ⟨b, off, none⟩ cs.length).run P w = .ok cs.toArray w := run_loadCells_list (P := P) w ⟨b, off, none⟩ cs (fun j v hv => by rw [Addr.add_lit]; exact hc j v hv)
  simp [loadVar, Sem.run_bind, run_isAgg h, sizeOf, typeInfo, hq, hs, hld]

/-- A load of a struct, by its cells: for a region. -/
theorem exec_loadW (h : Wide P t n) {o : Oper} {a : Act} {x : Operand} (ho : o.op = .load t x) {b off : Nat} (hx : a.eval x = .pointer (some ⟨b, off, none⟩)) {cs : List Value} (hl : cs.length = n)
    (hc : ∀ j u, cs[j]? = some u → w.cell? ⟨b, off + j, none⟩ = some u) : (execOp a.eval o).run P w = .ok (.value (.agg cs.toArray)) w := by
  simp [execOp, ho, hx, Instr.loadAt, Instr.sureAddr, run_loadW h hl hc, Result.andThen]

/-- A store of a struct over a block that is one. -/
theorem exec_storeW (h : Wide P t n) {o : Oper} {a : Act} {x y : Operand} (ho : o.op = .store t x y) {g : Nat} (hx : a.eval x = .pointer (some ⟨g, 0, none⟩)) {cs : List Value} (hy : a.eval y = .agg cs.toArray) (hl : cs.length = n)
    (h1 : ∀ u ∈ cs, u.oneCell' = true) {te : TypeId} {old : Array Value} (hg : w.heap[g]? = some (.cells old te (0, 0))) (ho' : old.size = n) : (execOp a.eval o).run P w = .ok .skip (w.setRow g cs.toArray) ∨ (execOp a.eval o).run P w = .ok (.value undef) (w.setRow g cs.toArray) := by
  have hst := run_storeVar_row (P := P) w g te t old cs.toArray hg (by rw [h.info]; simp [hl]) (by simp [hl, ho']) (by simpa using h1)
  first
  | exact .inl (by simp [execOp, ho, hx, hy, Instr.storeAt, Instr.sureAddr, hst, Result.andThen])
  | exact .inr (by simp [execOp, ho, hx, hy, Instr.storeAt, Instr.sureAddr, hst, Result.andThen])

theorem fold_fill : ∀ (l : List Value) (k : Nat) (cs : Array Value), k + l.length = cs.size → ((l.zipIdx k).foldl (fun (cs : Array Value) (p : Value × Nat) => cs.setIfInBounds p.2 p.1) cs).toList = cs.toList.take k ++ l
  | [], k, cs, h => by simp [List.take_of_length_le (by simp at h ⊢; omega : cs.toList.length ≤ k)]
  | v :: l, k, cs, h => by
    have hk : k < cs.size := by simp at h; omega
    rw [List.zipIdx_cons, List.foldl_cons, fold_fill l (k + 1) _ (by simp at h ⊢; omega)]
    have e : (cs.setIfInBounds k v).toList.take (k + 1) = cs.toList.take k ++ [v] := by
      have hl : (cs.toList.set k v).length = cs.size := by simp
      rw [Array.toList_setIfInBounds, List.take_succ_eq_append_getElem (by simpa using hk), List.take_set_of_le (Nat.le_refl _)]
      simp
    simp only
    rw [e]
    simp
theorem fill_one (size : Nat) (cs zs : Array Value) (h : cs.size = size) (hz : zs.size = size) : Instr.fill (fun i => some (i * size, size)) zs [(0, .agg cs)] = some cs := by
  have := fold_fill cs.toList 0 zs (by simp; omega)
  simp only [List.take_zero, List.nil_append] at this
  have e : Array.foldl (fun (cs : Array Value) (p : Value × Nat) => cs.setIfInBounds p.2 p.1) zs cs.zipIdx = cs := by
    apply Array.ext'
    rw [← this, ← Array.foldl_toList]
    simp
  subst h
  simp [Instr.fill, Value.cells, hz]
  simpa using e

theorem run_sliceW {z : Value} {bytes : Nat} {ts : TypeId} (E : Elem P ts t z n bytes) (hn : n ≤ 1000000) {cs : List Value} (hl : cs.length = n) :
    (Instr.buildSlice ts 1 #[(0, .agg cs.toArray)]).run P w = .ok (.slice (some ⟨w.heap.size, 0, none⟩) 1 1) (w.alloc (.cells cs.toArray t)) := by
  obtain ⟨i, hi, hz, hs, hb⟩ := info_parts E.info
  have hp := E.pos
  have hf := fill_one n cs.toArray ((Array.range n).map (fun j => z.cells[j % z.cells.size]!)) (by simp [hl]) (by simp)
  have hnew : ∀ w : World, (newRow t cs.toArray).run P w = .ok ⟨w.heap.size, 0, none⟩ (w.alloc (.cells cs.toArray t)) := fun w => rfl
  unfold Instr.buildSlice
  simp [run_underlying E.under, sizeOf, typeInfo, zeroValue, hi, hs, hz, hf, hnew, show ¬ (16777216 < n) by omega, show ¬ n = 0 by omega]
theorem exec_sliceW {z : Value} {bytes : Nat} {ts : TypeId} (E : Elem P ts t z n bytes) (hn : n ≤ 1000000) {o : Oper} {a : Act} {x : Operand} (ho : o.op = .buildSlice ts 1 #[(0, x)]) {cs : List Value} (hx : a.eval x = .agg cs.toArray) (hl : cs.length = n) :
    (execOp a.eval o).run P w = .ok (.value (.slice (some ⟨w.heap.size, 0, none⟩) 1 1)) (w.alloc (.cells cs.toArray t)) := by
  simp [execOp, ho, hx, run_sliceW E hn hl, Result.andThen]
theorem setRow_alloc (w : World) (old cs : Array Value) (t : TypeId) : (w.alloc (.cells old t)).setRow w.heap.size cs = w.alloc (.cells cs t) := by
  have e : (w.alloc (.cells old t)).heap.modify w.heap.size (fun | .cells _ elem frozen => .cells cs elem frozen | o => o) = (w.alloc (.cells cs t)).heap := by
    apply Array.ext_getElem?
    intro i
    rw [Array.getElem?_modify]
    by_cases h : w.heap.size = i
    · subst h
      rw [if_pos rfl, World.alloc_heap_new, World.alloc_heap_new]
      rfl
    · rw [if_neg h]
      show (w.heap.push _)[i]? = (w.heap.push _)[i]?
      rw [Array.getElem?_push, Array.getElem?_push, if_neg (by omega), if_neg (by omega)]
  exact congrArg (fun h => ({ w with heap := h } : World)) e

theorem Blk.list {W : World} {b : Nat} {t : TypeId} {cs : List Value} (h : Blk W b t cs.toArray) : ∀ j u, cs[j]? = some u → W.cell? ⟨b, 0 + j, none⟩ = some u := fun j u hj => by
  rw [Nat.zero_add, h.cell j]
  simpa using hj
theorem Blk.list0 {W : World} {b : Nat} {t : TypeId} {cs : List Value} (h : Blk W b t cs.toArray) {j : Nat} {u : Value} (hj : cs[j]? = some u) : W.cell? ⟨b, j, none⟩ = some u := by
  rw [h.cell j]
  simpa using hj

section
variable {ops : Array Oper} {rest : List Oper} {o : Oper} {a : Act} {Q : Exit → Act → World → Prop} {F : Fence} {nF : Nat}
theorem wpList_val {v : Value} {w' : World} (hw : Region.wanted o (yielded ops a.tmps) = true) (hr : (execOp a.eval o).run P w = .ok (.value v) w') (hK : wpList P ops Q rest (a.put o.dst v) w') : wpList P ops Q (o :: rest) a w := by
  refine wpList_step fun _ hk => ?_
  rw [if_pos hw]
  unfold Oper.wp
  rw [hr]
  exact hk _ _ hK
/-- A guarded operation that is not wanted. -/
theorem wpList_skipU (hw : Region.wanted o (yielded ops a.tmps) = false) (hK : wpList P ops Q rest (a.put o.dst undef) w) : wpList P ops Q (o :: rest) a w := by
  refine wpList_step fun _ hk => ?_
  rw [if_neg (by simp [hw])]
  exact hk _ _ hK
theorem wpList_skipped {w' : World} (hw : Region.wanted o (yielded ops a.tmps) = true) (hr : (execOp a.eval o).run P w = .ok .skip w' ∨ (execOp a.eval o).run P w = .ok (.value undef) w') (hK : wpList P ops Q rest (a.put o.dst undef) w') : wpList P ops Q (o :: rest) a w := by
  refine wpList_step fun _ hk => ?_
  rw [if_pos hw]
  unfold Oper.wp
  rcases hr with hr | hr <;> rw [hr] <;> exact hk _ _ hK
theorem wpListIn_val {v : Value} {w' : World} (hw : Region.wanted o (yielded ops a.tmps) = true) (hab : o.about P w a.eval = none) (hd : ∀ c, o.op ≠ .defer c) (hr : (execOp a.eval o).run P w = .ok (.value v) w') (hK : wpListIn F nF P ops Q rest (a.put o.dst v) w') : wpListIn F nF P ops Q (o :: rest) a w := by
  refine wpListIn_step fun _ hk => ?_
  rw [if_pos hw]
  refine ⟨fun f hf => (by rw [hab] at hf; cases hf), ?_⟩
  rw [Oper.semAt_plain F _ _ hd, hr]
  exact hk _ _ hK
theorem wpListIn_skipped {w' : World} (hw : Region.wanted o (yielded ops a.tmps) = true) (hab : o.about P w a.eval = none) (hd : ∀ c, o.op ≠ .defer c) (hr : (execOp a.eval o).run P w = .ok .skip w' ∨ (execOp a.eval o).run P w = .ok (.value undef) w') (hK : wpListIn F nF P ops Q rest (a.put o.dst undef) w') : wpListIn F nF P ops Q (o :: rest) a w := by
  refine wpListIn_step fun _ hk => ?_
  rw [if_pos hw]
  refine ⟨fun f hf => (by rw [hab] at hf; cases hf), ?_⟩
  rw [Oper.semAt_plain F _ _ hd]
  rcases hr with hr | hr <;> rw [hr] <;> exact hk _ _ hK

/-- 'x := l[i]', the load. -/
theorem wpList_loadW (h : Wide P t n) {x : Operand} (ho : o.op = .load t x) (hw : Region.wanted o (yielded ops a.tmps) = true) {b off : Nat} (hx : a.eval x = .pointer (some ⟨b, off, none⟩)) (cs : List Value) (hl : cs.length = n)
    (hc : ∀ j u, cs[j]? = some u → w.cell? ⟨b, off + j, none⟩ = some u) (hK : wpList P ops Q rest (a.put o.dst (.agg cs.toArray)) w) : wpList P ops Q (o :: rest) a w :=
  wpList_val hw (exec_loadW h ho hx hl hc) hK
theorem wpListIn_loadW (h : Wide P t n) {x : Operand} (ho : o.op = .load t x) (hw : Region.wanted o (yielded ops a.tmps) = true) {b off : Nat} (hx : a.eval x = .pointer (some ⟨b, off, none⟩)) (cs : List Value) (hl : cs.length = n)
    (hc : ∀ j u, cs[j]? = some u → w.cell? ⟨b, off + j, none⟩ = some u) (hK : wpListIn F nF P ops Q rest (a.put o.dst (.agg cs.toArray)) w) : wpListIn F nF P ops Q (o :: rest) a w :=
  wpListIn_val hw (by simp [Oper.about, ho]) (by rw [ho]; simp) (exec_loadW h ho hx hl hc) hK
/-- .. the store into the box that was laid just ahead. -/
theorem wpList_storeW (h : Wide P t n) {x y : Operand} (ho : o.op = .store t x y) (hw : Region.wanted o (yielded ops a.tmps) = true) {te : TypeId} {old : Array Value} (hx : a.eval x = .pointer (some ⟨w.heap.size, 0, none⟩)) (cs : List Value) (hy : a.eval y = .agg cs.toArray) (hl : cs.length = n)
    (h1 : ∀ u ∈ cs, u.oneCell' = true) (ho' : old.size = n) (hK : wpList P ops Q rest (a.put o.dst undef) (w.alloc (.cells cs.toArray te))) : wpList P ops Q (o :: rest) a (w.alloc (.cells old te)) :=
  wpList_skipped hw (exec_storeW h ho hx hy hl h1 (te := te) (old := old) (World.alloc_heap_new w _) ho') (by rw [setRow_alloc]; exact hK)
theorem wpListIn_storeW (h : Wide P t n) {x y : Operand} (ho : o.op = .store t x y) (hw : Region.wanted o (yielded ops a.tmps) = true) {te : TypeId} {old : Array Value} (hx : a.eval x = .pointer (some ⟨w.heap.size, 0, none⟩)) (cs : List Value) (hy : a.eval y = .agg cs.toArray) (hl : cs.length = n)
    (h1 : ∀ u ∈ cs, u.oneCell' = true) (ho' : old.size = n) (hK : wpListIn F nF P ops Q rest (a.put o.dst undef) (w.alloc (.cells cs.toArray te))) : wpListIn F nF P ops Q (o :: rest) a (w.alloc (.cells old te)) :=
  wpListIn_skipped hw (by simp [Oper.about, ho]) (by rw [ho]; simp) (exec_storeW h ho hx hy hl h1 (te := te) (old := old) (World.alloc_heap_new w _) ho') (by rw [setRow_alloc]; exact hK)
/-- .. and the world behind it has a name. -/
theorem wpList_boxW (h : Wide P t n) {x y : Operand} (ho : o.op = .store t x y) (hw : Region.wanted o (yielded ops a.tmps) = true) {te : TypeId} {old : Array Value} (hx : a.eval x = .pointer (some ⟨w.heap.size, 0, none⟩)) (cs : List Value) (hy : a.eval y = .agg cs.toArray) (hl : cs.length = n)
    (h1 : ∀ u ∈ cs, u.oneCell' = true) (ho' : old.size = n) (hK : ∀ W1, Blk W1 w.heap.size te cs.toArray → Below w.heap.size w W1 → W1.heap.size = w.heap.size + 1 → wpList P ops Q rest (a.put o.dst undef) W1) : wpList P ops Q (o :: rest) a (w.alloc (.cells old te)) :=
  wpList_storeW h ho hw hx cs hy hl h1 ho' (hK _ (Blk.new' rfl) ((Below.refl _ _).alloc (Nat.le_refl _) _) (by simp))
theorem wpListIn_boxW (h : Wide P t n) {x y : Operand} (ho : o.op = .store t x y) (hw : Region.wanted o (yielded ops a.tmps) = true) {te : TypeId} {old : Array Value} (hx : a.eval x = .pointer (some ⟨w.heap.size, 0, none⟩)) (cs : List Value) (hy : a.eval y = .agg cs.toArray) (hl : cs.length = n)
    (h1 : ∀ u ∈ cs, u.oneCell' = true) (ho' : old.size = n) (hK : ∀ W1, Blk W1 w.heap.size te cs.toArray → Below w.heap.size w W1 → W1.heap.size = w.heap.size + 1 → wpListIn F nF P ops Q rest (a.put o.dst undef) W1) : wpListIn F nF P ops Q (o :: rest) a (w.alloc (.cells old te)) :=
  wpListIn_storeW h ho hw hx cs hy hl h1 ho' (hK _ (Blk.new' rfl) ((Below.refl _ _).alloc (Nat.le_refl _) _) (by simp))
/-- '[]T{x}', as 'append(l, x)' lays it. -/
theorem wpList_sliceW {z : Value} {bytes : Nat} {ts : TypeId} (E : Elem P ts t z n bytes) (hn : n ≤ 1000000) {x : Operand} (ho : o.op = .buildSlice ts 1 #[(0, x)]) (hw : Region.wanted o (yielded ops a.tmps) = true) (cs : List Value) (hx : a.eval x = .agg cs.toArray) (hl : cs.length = n)
    (hK : wpList P ops Q rest (a.put o.dst (.slice (some ⟨w.heap.size, 0, none⟩) 1 1)) (w.alloc (.cells cs.toArray t))) : wpList P ops Q (o :: rest) a w :=
  wpList_val hw (exec_sliceW E hn ho hx hl) hK
theorem wpListIn_sliceW {z : Value} {bytes : Nat} {ts : TypeId} (E : Elem P ts t z n bytes) (hn : n ≤ 1000000) {x : Operand} (ho : o.op = .buildSlice ts 1 #[(0, x)]) (hw : Region.wanted o (yielded ops a.tmps) = true) (cs : List Value) (hx : a.eval x = .agg cs.toArray) (hl : cs.length = n)
    (hK : wpListIn F nF P ops Q rest (a.put o.dst (.slice (some ⟨w.heap.size, 0, none⟩) 1 1)) (w.alloc (.cells cs.toArray t))) : wpListIn F nF P ops Q (o :: rest) a w :=
  wpListIn_val hw (by simp [Oper.about, ho]) (by rw [ho]; simp) (exec_sliceW E hn ho hx hl) hK
end
end
end Go.Proofs.Ytkinhhkodaacjaa
