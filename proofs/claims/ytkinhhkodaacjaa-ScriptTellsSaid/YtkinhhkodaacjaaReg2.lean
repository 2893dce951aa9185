/- Operations by their runs: a load and a store of one cell, a slice of one value, an append with its place; and the moves of a region by them. (Text of no seat: Ytkinhhkodaacjaa stands for the seat's name.) -/
import Derived.Test.YtkinhhkodaacjaaReg
import Derived.Test.YtkinhhkodaacjaaAgg
import Derived.Maps.AppendAt
namespace Go.Proofs.Ytkinhhkodaacjaa
open Go.RowKit

/-- A type of one cell that is no struct and no array. -/
structure Flat (P : Program) (t : TypeId) : Prop where
  under : ∃ d, P.underlying t = some d ∧ (match d with | .struct _ | .array _ _ => true | _ => false) = false
  info : (P.info? t).map (·.size) = some 1

section
variable {P : Program} {w : World} {o : Oper} {a : Act} {t : TypeId}
theorem run_isAgg_flat (h : Flat P t) : (isAgg t).run P w = .ok false w := by
  obtain ⟨d, hu, hd⟩ := h.under
  unfold isAgg
  rw [Sem.run_bind, run_underlying hu w]
  cases d <;> simp_all
theorem exec_load1 (h : Flat P t) {x : Operand} (ho : o.op = .load t x) {p : Addr} (hx : a.eval x = .pointer (some p)) {v : Value} (hc : w.cell? p = some v) : (execOp a.eval o).run P w = .ok (.value v) w := by
  have hl : (loadVar t p).run P w = .ok v w := by
    unfold loadVar
    rw [Sem.run_bind, run_isAgg_flat h]
    simp [hc]
  simp [execOp, ho, hx, Instr.loadAt, Instr.sureAddr, hl, Result.andThen]
theorem exec_store1 (h : Flat P t) {x y : Operand} (ho : o.op = .store t x y) {p : Addr} (hx : a.eval x = .pointer (some p)) {v u : Value} (hy : a.eval y = v) (hv : v.cells = #[v]) (h1 : v.oneCell' = true) (hc : w.cell? p = some u) (hf : w.frozen? p = false) :
    (execOp a.eval o).run P w = .ok .skip (w.setCell p v) ∨ (execOp a.eval o).run P w = .ok (.value undef) (w.setCell p v) := by
  obtain ⟨i, hi⟩ : ∃ i, P.info? t = some i := by
    have := h.info
    cases hq : P.info? t with
    | none => rw [hq] at this; simp at this
    | some i => exact ⟨i, rfl⟩
  have hs : i.size = 1 := by have := h.info; rw [hi] at this; simpa using this
  have hst : (storeVar t p v).run P w = .ok () (w.setCell p v) := by
    unfold storeVar
    simp [sizeOf, typeInfo, hi, hs, hv, storeCells, Addr.add_zero', run_store P w p v _ h1, hc, hf]
  first
  | exact .inl (by simp [execOp, ho, hx, hy, Instr.storeAt, Instr.sureAddr, hst, Result.andThen])
  | exact .inr (by simp [execOp, ho, hx, hy, Instr.storeAt, Instr.sureAddr, hst, Result.andThen])
/-- '[]T{x}', x of one cell. -/
theorem exec_slice1 {e : TypeId} {z : Value} {bytes : Nat} (E : Elem P t e z 1 bytes) {x : Operand} (ho : o.op = .buildSlice t 1 #[(0, x)]) {v : Value} (hx : a.eval x = v) (hv : v.cells = #[v]) :
    (execOp a.eval o).run P w = .ok (.value (.slice (some ⟨w.heap.size, 0, none⟩) 1 1)) (w.alloc (.cells #[v] e)) := by
  obtain ⟨i, hi, hz, hs, hb⟩ := info_parts E.info
  have hzs := E.zs
  have hrun : (Instr.buildSlice t 1 #[(0, v)]).run P w = .ok (.slice (some ⟨w.heap.size, 0, none⟩) 1 1) (w.alloc (.cells #[v] e)) := by
    have hf : Instr.fill (fun i => some (i * 1, 1)) ((Array.range 1).map (fun j => z.cells[j % z.cells.size]!)) [(0, v)] = some #[v] := by
      have e0 : (Array.range 0 : Array Nat) = #[] := rfl
      simp [Instr.fill, hv, Array.range_succ, e0]
    have hnew : ∀ w : World, (newRow e #[v]).run P w = .ok ⟨w.heap.size, 0, none⟩ (w.alloc (.cells #[v] e)) := fun w => rfl
    unfold Instr.buildSlice
    simp only [Nat.mul_one] at hf
    simp [run_underlying E.under, sizeOf, typeInfo, zeroValue, hi, hs, hz, hf, hnew]
  simp [execOp, ho, hx, hrun, Result.andThen]

/-- .. append, and where the new row lies. -/
theorem exec_app_at {e : TypeId} {z : Value} {size bytes base : Nat} (E : Elem P t e z size bytes) {s x : Operand} (ho : o.op = .call { callee := .builtin .append, args := #[s, x], argTypes := #[t, t] })
    {v : Value} {n : Nat} {xs : List Value} (hown : w.ownsRow base e size v n xs) {ad : Addr} {m c : Nat} {news : List Value} (hl : news.length = m * size) (hnews : ∀ j u, news[j]? = some u → w.cell? (ad.add j) = some u)
    (h1 : ∀ u ∈ news, u.oneCell' = true) (hs : a.eval s = v) (hx : a.eval x = .slice (some ad) m c) (hby : (n + m) * bytes ≤ 140737488355328) (hbase : base ≤ w.heap.size) :
    ∃ v' w', (execOp a.eval o).run P w = .ok (.value v') w' ∧ w'.ownsRow base e size v' (n + m) (xs ++ news) ∧ w.grownBy w' v.ownBlock ∧ (v'.ownBlock = v.ownBlock ∨ v'.ownBlock = some w.heap.size) := by
  obtain ⟨i, hi, hz, hsz, hb⟩ := info_parts E.info
  have hmax : n + m ≤ maxLen := by
    have : n + m ≤ (n + m) * bytes := Nat.le_mul_of_pos_right _ E.byt
    unfold maxLen; omega
  obtain ⟨v', w', hr, q1, q2, _, q4⟩ := run_append_own_at (P := P) w base t o.type e i z size bytes E.under hi hz hsz hb E.zs E.pos v n xs hown ad m c news hl hnews h1 hmax hby hbase
  refine ⟨v', w', ?_, q1, q2, q4⟩
  unfold execOp
  simp only [ho, resolve, invoke, builtin, Sem.run_bind, Sem.run_pure, Result.andThen_ok, List.map_toArray, List.map_cons, List.map_nil, hs, hx, hr]
end

section
variable {P : Program} {w : World} {o : Oper} {a : Act} {t : TypeId} {ops : Array Oper} {rest : List Oper} {Q : Exit → Act → World → Prop} {F : Fence} {nF : Nat}
/-- 'append(s, x)' in a list of operations, and where the new row lies. -/
theorem wpListIn_app_at {e : TypeId} {z : Value} {size bytes base : Nat} (E : Elem P t e z size bytes) {s x : Operand} (ho : o.op = .call { callee := .builtin .append, args := #[s, x], argTypes := #[t, t] }) (hw : Region.wanted o (yielded ops a.tmps) = true)
    {v : Value} {n : Nat} {xs : List Value} (hown : w.ownsRow base e size v n xs) {ad : Addr} {m c : Nat} {news : List Value} (hl : news.length = m * size) (hnews : ∀ j u, news[j]? = some u → w.cell? (ad.add j) = some u)
    (h1 : ∀ u ∈ news, u.oneCell' = true) (hs : a.eval s = v) (hx : a.eval x = .slice (some ad) m c) (hby : (n + m) * bytes ≤ 140737488355328) (hbase : base ≤ w.heap.size)
    (h : ∀ v' w', w'.ownsRow base e size v' (n + m) (xs ++ news) → w.grownBy w' v.ownBlock → (v'.ownBlock = v.ownBlock ∨ v'.ownBlock = some w.heap.size) → wpListIn F nF P ops Q rest (a.put o.dst v') w') : wpListIn F nF P ops Q (o :: rest) a w := by
  obtain ⟨v', w', hrun, q1, q2, q3⟩ := exec_app_at (P := P) (w := w) (o := o) (a := a) E ho hown hl hnews h1 hs hx hby hbase
  exact wpListIn_val hw (by simp [Oper.about, ho, resolve, Target.leads, Sem.run_pure]) (by rw [ho]; simp) hrun (h v' w' q1 q2 q3)
theorem wpList_app_at {e : TypeId} {z : Value} {size bytes base : Nat} (E : Elem P t e z size bytes) {s x : Operand} (ho : o.op = .call { callee := .builtin .append, args := #[s, x], argTypes := #[t, t] }) (hw : Region.wanted o (yielded ops a.tmps) = true)
    {v : Value} {n : Nat} {xs : List Value} (hown : w.ownsRow base e size v n xs) {ad : Addr} {m c : Nat} {news : List Value} (hl : news.length = m * size) (hnews : ∀ j u, news[j]? = some u → w.cell? (ad.add j) = some u)
    (h1 : ∀ u ∈ news, u.oneCell' = true) (hs : a.eval s = v) (hx : a.eval x = .slice (some ad) m c) (hby : (n + m) * bytes ≤ 140737488355328) (hbase : base ≤ w.heap.size)
    (h : ∀ v' w', w'.ownsRow base e size v' (n + m) (xs ++ news) → w.grownBy w' v.ownBlock → (v'.ownBlock = v.ownBlock ∨ v'.ownBlock = some w.heap.size) → wpList P ops Q rest (a.put o.dst v') w') : wpList P ops Q (o :: rest) a w := by
  obtain ⟨v', w', hrun, q1, q2, q3⟩ := exec_app_at (P := P) (w := w) (o := o) (a := a) E ho hown hl hnews h1 hs hx hby hbase
  exact wpList_val hw hrun (h v' w' q1 q2 q3)
/-- The cells of what 'append(s, x)' lays first. -/
theorem cells_new (w : World) (cs : List Value) (t : TypeId) : ∀ j u, cs[j]? = some u → (w.alloc (.cells cs.toArray t)).cell? ((⟨w.heap.size, 0, none⟩ : Addr).add j) = some u := by
  intro j u hj
  rw [Addr.add_lit, World.cell?_alloc_at _ _ _ _ rfl]
  simpa using hj
end

section
variable {P : Program} {l : List Oper} {Q : Exit → Act → World → Prop} {md : Region.Mode} {S : World → Prop}
/-- An operation that comes up alone, by its run. -/
theorem takeV {i : Nat} {oi : Oper} {r : List Oper} {fuel : Nat} {listed : Array Bool} {a : Act} {w w' : World} {v : Value} (hi : l.drop i = oi :: r)
    (hr : Region.ready md l.toArray listed = [i]) (hw : Region.wanted oi (yielded l.toArray a.tmps) = true) (hx : (execOp a.eval oi).run P w = .ok (.value v) w') (hS : S w')
    (h : wpAnyH P md l.toArray Q S fuel (listed.setIfInBounds i true) (a.put oi.dst v) w') : wpAnyH P md l.toArray Q S (fuel + 1) listed a w :=
  takeC hi hr hw (fun K hK => by unfold Oper.wp; rw [hx]; exact hK.out _ _ hS (fun _ => h))
theorem takeVs {i : Nat} {oi : Oper} {r : List Oper} {fuel : Nat} {listed : Array Bool} {a : Act} {w w' : World} (hi : l.drop i = oi :: r)
    (hr : Region.ready md l.toArray listed = [i]) (hw : Region.wanted oi (yielded l.toArray a.tmps) = true) (hx : (execOp a.eval oi).run P w = .ok .skip w' ∨ (execOp a.eval oi).run P w = .ok (.value undef) w') (hS : S w')
    (h : wpAnyH P md l.toArray Q S fuel (listed.setIfInBounds i true) (a.put oi.dst undef) w') : wpAnyH P md l.toArray Q S (fuel + 1) listed a w :=
  takeC hi hr hw (fun K hK => by unfold Oper.wp; rcases hx with hx | hx <;> rw [hx] <;> exact hK.out _ _ hS (fun _ => h))
/-- An append. -/
theorem takeApp {i : Nat} {oi : Oper} {r : List Oper} {fuel : Nat} {listed : Array Bool} {a : Act} {w : World} {t e : TypeId} {z : Value} {size bytes base : Nat} (E : Elem P t e z size bytes) (hi : l.drop i = oi :: r)
    (hr : Region.ready md l.toArray listed = [i]) (hw : Region.wanted oi (yielded l.toArray a.tmps) = true) {s x : Operand} (ho : oi.op = .call { callee := .builtin .append, args := #[s, x], argTypes := #[t, t] })
    {v : Value} {n : Nat} {xs : List Value} (hown : w.ownsRow base e size v n xs) {ad : Addr} {m c : Nat} {news : List Value} (hl : news.length = m * size) (hnews : ∀ j u, news[j]? = some u → w.cell? (ad.add j) = some u)
    (h1 : ∀ u ∈ news, u.oneCell' = true) (hs : a.eval s = v) (hx : a.eval x = .slice (some ad) m c) (hby : (n + m) * bytes ≤ 140737488355328) (hbase : base ≤ w.heap.size)
    (h : ∀ v' w', w'.ownsRow base e size v' (n + m) (xs ++ news) → w.grownBy w' v.ownBlock → (v'.ownBlock = v.ownBlock ∨ v'.ownBlock = some w.heap.size) → S w' ∧ wpAnyH P md l.toArray Q S fuel (listed.setIfInBounds i true) (a.put oi.dst v') w') :
    wpAnyH P md l.toArray Q S (fuel + 1) listed a w := by
  obtain ⟨v', w', hrun, q1, q2, q3⟩ := exec_app_at (P := P) (w := w) (o := oi) (a := a) E ho hown hl hnews h1 hs hx hby hbase
  obtain ⟨g1, g2⟩ := h v' w' q1 q2 q3
  exact takeV hi hr hw hrun g1 g2
/-- Two of which either may come up first. -/
theorem takeV2 {i j : Nat} {oi oj : Oper} {r r' : List Oper} {fuel : Nat} {listed : Array Bool} {a : Act} {w wi wj : World} {vi vj : Value} (hi : l.drop i = oi :: r) (hj : l.drop j = oj :: r')
    (hr : Region.ready md l.toArray listed = [i, j]) (hw : Region.wanted oi (yielded l.toArray a.tmps) = true) (hw' : Region.wanted oj (yielded l.toArray a.tmps) = true)
    (hx : (execOp a.eval oi).run P w = .ok (.value vi) wi) (hS : S wi) (hx' : (execOp a.eval oj).run P w = .ok (.value vj) wj) (hS' : S wj)
    (h : wpAnyH P md l.toArray Q S fuel (listed.setIfInBounds i true) (a.put oi.dst vi) wi) (h' : wpAnyH P md l.toArray Q S fuel (listed.setIfInBounds j true) (a.put oj.dst vj) wj) : wpAnyH P md l.toArray Q S (fuel + 1) listed a w :=
  takeC2 hi hj hr hw hw' (fun K hK => by unfold Oper.wp; rw [hx]; exact hK.out _ _ hS (fun _ => h)) (fun K hK => by unfold Oper.wp; rw [hx']; exact hK.out _ _ hS' (fun _ => h'))
end
end Go.Proofs.Ytkinhhkodaacjaa
