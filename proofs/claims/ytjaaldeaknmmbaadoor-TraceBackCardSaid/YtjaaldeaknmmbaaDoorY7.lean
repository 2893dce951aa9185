/- The program's text of snaps (Print). The program's text of snaps (Print). -/
import Derived.Test.YtjaaldeaknmmbaaDoorY5
namespace Go.Proofs.YtjaaldeaknmmbaaDoor
open Go.RowKit Go.Shelf

section
variable {P : Program} {md : Region.Mode} {l : List Oper} {Q : Exit → Act → World → Prop} {S : World → Prop}
theorem wp_ofE {oi : Oper} {fuel : Nat} {L : Array Bool} {a : Act} {w : World} {R : Value → World → Prop} {K : Act → World → Prop} (hK : Shut (∀ a w, S w → (S w → wpAnyH P md l.toArray Q S fuel L a w) → K a w))
    (hx : ∃ v' w', (execOp a.eval oi).run P w = .ok (.value v') w' ∧ R v' w') (h : ∀ v' w', R v' w' → S w' ∧ wpAnyH P md l.toArray Q S fuel L (a.put oi.dst v') w') : Oper.wp P oi a w K Q := by
  obtain ⟨v', w', hrun, q⟩ := hx
  unfold Oper.wp
  rw [hrun]
  exact hK.out _ _ (h v' w' q).1 (fun _ => (h v' w' q).2)
end
theorem exec_usd0 {w : World} {o : Oper} {ac : Act} {x : Operand} {n c : Nat} (ho : o.op = .call { callee := .builtin .unsafeSliceData, args := #[x], argTypes := #[36] }) (hx : ac.eval x = .slice none n c) : (execOp ac.eval o).run Tryd.prog w = .ok (.value (.pointer none)) w := by
  have h : (Builtin.unsafeSliceData_ #[36] o.type #[.slice none n c]).run Tryd.prog w = .ok (.pointer none) w := Lib.run_unsafeSliceData_nil _ _ _ _ _
  simp [execOp, ho, resolve, invoke, builtin, hx, h, Result.andThen]
set_option maxRecDepth 100000 in
theorem string0_any (b : Nat) (w : World) (h : w.heap[b]? = some (.cells #[.pointer none, .slice none 0 0] 64 (0, 0))) :
    Calls Tryd.prog 21 #[.pointer (some ⟨b, 0, none⟩)] w fun e w' => e = .returned (strV []) ∧ w' = w.drew := by
  have HC1 : Hid (w.drew.cell? ⟨b, 1, none⟩ = some (.slice none 0 0)) := by
    have : w.drew.heap[b]? = some (.cells #[.pointer none, .slice none 0 0] 64 (0, 0)) := h
    show _ = _
    rw [Lib.cell_of_heap this]; rfl
  have HUS : Hid ((Builtin.unsafeString_ #[98, 3] 9 #[.pointer none, .int .i64 ((0 : Nat) : Int)]).run Tryd.prog w.drew = .ok (strV []) w.drew) := Lib.run_unsafeString_none _ _ _ _ _
  clear h
  go_enter Tryd.func21, Tryd.ntmps21
  go_upto_region 1 with fail
  refine wp_region_held_drew (S := fun X => Hid (X.cell? ⟨b, 1, none⟩ = some (.slice none 0 0))) (by kernel_rfl) HC1 (fun hHeld => ?_)
  (refine takeW (i := 0) (v := ?_) rfl (by kernel_rfl) (by kernel_rfl) (by kernel_rfl) (fun _ _ _ h => h) (by rfl) (by assumption) ?_ ?_; rotate_left; (intro W hW; (try dsimp only at hW); go_simp; try with_reducible rfl); (try simp only [Act.put, List.setIfInBounds_toArray, List.set_cons_zero, List.set_cons_succ]))
  (refine takeW (i := 1) (v := ?_) rfl (by kernel_rfl) (by kernel_rfl) (by kernel_rfl) (fun _ _ _ h => h) (by rfl) (by assumption) ?_ ?_; rotate_left; (intro W hW; (try dsimp only at hW); go_simp; try with_reducible rfl); (try simp only [Act.put, List.setIfInBounds_toArray, List.set_cons_zero, List.set_cons_succ]))
  (refine takeW (i := 2) (v := ?_) rfl (by kernel_rfl) (by kernel_rfl) (by kernel_rfl) (fun _ _ _ h => h) (by rfl) (by assumption) ?_ ?_; rotate_left; (intro W hW; (try dsimp only at hW); go_simp; try with_reducible rfl); (try simp only [Act.put, List.setIfInBounds_toArray, List.set_cons_zero, List.set_cons_succ]))
  (refine takeW (i := 3) rfl (by kernel_rfl) (by kernel_rfl) (by kernel_rfl) (fun _ _ _ h => h) (by rfl) (by assumption) (fun W hW => exec_load1 FLB rfl rfl hW.out) ?_; (try simp only [Act.put, List.setIfInBounds_toArray, List.set_cons_zero, List.set_cons_succ]))
  (refine takeW (i := 4) rfl (by kernel_rfl) (by kernel_rfl) (by kernel_rfl) (fun _ _ _ h => h) (by rfl) (by assumption) (fun W hW => exec_usd0 rfl rfl) ?_; (try simp only [Act.put, List.setIfInBounds_toArray, List.set_cons_zero, List.set_cons_succ]))
  (refine takeW (i := 5) (v := ?_) rfl (by kernel_rfl) (by kernel_rfl) (by kernel_rfl) (fun _ _ _ h => h) (by rfl) (by assumption) ?_ ?_; rotate_left; (intro W hW; (try dsimp only at hW); go_simp; try with_reducible rfl); (try simp only [Act.put, List.setIfInBounds_toArray, List.set_cons_zero, List.set_cons_succ]))
  (refine takeW (i := 6) (v := ?_) rfl (by kernel_rfl) (by kernel_rfl) (by kernel_rfl) (fun _ _ _ h => h) (by rfl) (by assumption) ?_ ?_; rotate_left; (intro W hW; (try dsimp only at hW); go_simp; try with_reducible rfl); (try simp only [Act.put, List.setIfInBounds_toArray, List.set_cons_zero, List.set_cons_succ]))
  (refine takeW (i := 7) (v := ?_) rfl (by kernel_rfl) (by kernel_rfl) (by kernel_rfl) (fun _ _ _ h => h) (by rfl) (by assumption) ?_ ?_; rotate_left; (intro W hW; (try dsimp only at hW); go_simp; try with_reducible rfl); (try simp only [Act.put, List.setIfInBounds_toArray, List.set_cons_zero, List.set_cons_succ]))
  (refine takeW (i := 8) rfl (by kernel_rfl) (by kernel_rfl) (by kernel_rfl) (fun _ _ _ h => h) (by rfl) (by assumption) (fun W hW => exec_load1 FLB rfl rfl hW.out) ?_; (try simp only [Act.put, List.setIfInBounds_toArray, List.set_cons_zero, List.set_cons_succ]))
  (refine takeW (i := 9) (v := ?_) rfl (by kernel_rfl) (by kernel_rfl) (by kernel_rfl) (fun _ _ _ h => h) (by rfl) (by assumption) ?_ ?_; rotate_left; (intro W hW; (try dsimp only at hW); go_simp; try with_reducible rfl); (try simp only [Act.put, List.setIfInBounds_toArray, List.set_cons_zero, List.set_cons_succ]))
  refine takeV (i := 10) rfl (by kernel_rfl) (by rfl) (exec_uss HUS.out ⟨rfl, rfl⟩ rfl rfl) (HC1) ?_
  (try simp only [Act.put, List.setIfInBounds_toArray, List.set_cons_zero, List.set_cons_succ])
  (refine takeW (i := 11) (v := ?_) rfl (by kernel_rfl) (by kernel_rfl) (by kernel_rfl) (fun _ _ _ h => h) (by rfl) (by assumption) ?_ ?_; rotate_left; (intro W hW; (try dsimp only at hW); go_simp; try with_reducible rfl); (try simp only [Act.put, List.setIfInBounds_toArray, List.set_cons_zero, List.set_cons_succ]))
  refine wpAnyH_done (by kernel_rfl) ?_ _
  clear hHeld
  go_wp2
  go_ret
  exact ⟨rfl, rfl⟩
theorem Bld.lt {B b : Nat} {l : List UInt8} {w : World} (h : Bld B b l w) : b < w.heap.size := h.elim (fun x => x.lt) (fun x => x.lt)
theorem ok_cells {W X : World} {b g : Nat} {t : TypeId} {cs : List Value} (h : Blk W g t cs.toArray) (ht : t ≠ 5) (hg : g ≠ b) (hk : Lib.OthersKept 5 (some b) W X) (j : Nat) (u : Value) (hj : cs[j]? = some u) : X.cell? ⟨g, j, none⟩ = some u := by
  have : Blk X g t cs.toArray := hk g _ h (by simpa using hg) (fun c fz e => by cases e; exact ht rfl)
  exact this.list0 hj
theorem rw_new {w : World} {b : Nat} (t : TypeId) (hb : b < w.heap.size) (cs : List Value) : Rw t b (w.alloc (.cells cs.toArray t)) (.slice (some ⟨w.heap.size, 0, none⟩) cs.length cs.length) cs :=
  .inr ⟨w.heap.size, rfl, by omega, World.alloc_heap_new w _⟩
theorem exec_wI1 {w : World} {o : Oper} {ac : Act} {X0 : Operand} {a0 : Int} {b : Nat} (hb : b < w.heap.size) (ho : o.op = .buildSlice 67 1 #[(0, X0)]) (h0 : ac.eval X0 = .int .i64 a0) : ∃ v' w', (execOp ac.eval o).run Tryd.prog w = .ok (.value v') w' ∧ (Rw 3 b w' v' ([a0].map (Value.int .i64)) ∧ Below w.heap.size w w') := by
  have hrun : (Instr.buildSlice 67 1 #[(0, .int .i64 a0)]).run Tryd.prog w = .ok (.slice (some ⟨w.heap.size, 0, none⟩) 1 1) (w.alloc (.cells #[.int .i64 a0] 3)) := by
    unfold Instr.buildSlice
    go_simp
    try rfl
  exact ⟨_, _, by simp [execOp, ho, h0, hrun, Result.andThen], rw_new 3 hb ([a0].map (Value.int .i64)), below1 _ _⟩
theorem exec_wI3 {w : World} {o : Oper} {ac : Act} {X0 X1 X2 : Operand} {a0 a1 a2 : Int} {b : Nat} (hb : b < w.heap.size) (ho : o.op = .buildSlice 67 3 #[(0, X0), (1, X1), (2, X2)]) (h0 : ac.eval X0 = .int .i64 a0) (h1 : ac.eval X1 = .int .i64 a1) (h2 : ac.eval X2 = .int .i64 a2) : ∃ v' w', (execOp ac.eval o).run Tryd.prog w = .ok (.value v') w' ∧ (Rw 3 b w' v' ([a0, a1, a2].map (Value.int .i64)) ∧ Below w.heap.size w w') := by
  have hrun : (Instr.buildSlice 67 3 #[(0, .int .i64 a0), (1, .int .i64 a1), (2, .int .i64 a2)]).run Tryd.prog w = .ok (.slice (some ⟨w.heap.size, 0, none⟩) 3 3) (w.alloc (.cells #[.int .i64 a0, .int .i64 a1, .int .i64 a2] 3)) := by
    unfold Instr.buildSlice
    go_simp
    try rfl
  exact ⟨_, _, by simp [execOp, ho, h0, h1, h2, hrun, Result.andThen], rw_new 3 hb ([a0, a1, a2].map (Value.int .i64)), below1 _ _⟩
theorem exec_wI5 {w : World} {o : Oper} {ac : Act} {X0 X1 X2 X3 X4 : Operand} {a0 a1 a2 a3 a4 : Int} {b : Nat} (hb : b < w.heap.size) (ho : o.op = .buildSlice 67 5 #[(0, X0), (1, X1), (2, X2), (3, X3), (4, X4)]) (h0 : ac.eval X0 = .int .i64 a0) (h1 : ac.eval X1 = .int .i64 a1) (h2 : ac.eval X2 = .int .i64 a2) (h3 : ac.eval X3 = .int .i64 a3) (h4 : ac.eval X4 = .int .i64 a4) : ∃ v' w', (execOp ac.eval o).run Tryd.prog w = .ok (.value v') w' ∧ (Rw 3 b w' v' ([a0, a1, a2, a3, a4].map (Value.int .i64)) ∧ Below w.heap.size w w') := by
  have hrun : (Instr.buildSlice 67 5 #[(0, .int .i64 a0), (1, .int .i64 a1), (2, .int .i64 a2), (3, .int .i64 a3), (4, .int .i64 a4)]).run Tryd.prog w = .ok (.slice (some ⟨w.heap.size, 0, none⟩) 5 5) (w.alloc (.cells #[.int .i64 a0, .int .i64 a1, .int .i64 a2, .int .i64 a3, .int .i64 a4] 3)) := by
    unfold Instr.buildSlice
    go_simp
    try rfl
  exact ⟨_, _, by simp [execOp, ho, h0, h1, h2, h3, h4, hrun, Result.andThen], rw_new 3 hb ([a0, a1, a2, a3, a4].map (Value.int .i64)), below1 _ _⟩
theorem exec_wI6 {w : World} {o : Oper} {ac : Act} {X0 X1 X2 X3 X4 X5 : Operand} {a0 a1 a2 a3 a4 a5 : Int} {b : Nat} (hb : b < w.heap.size) (ho : o.op = .buildSlice 67 6 #[(0, X0), (1, X1), (2, X2), (3, X3), (4, X4), (5, X5)]) (h0 : ac.eval X0 = .int .i64 a0) (h1 : ac.eval X1 = .int .i64 a1) (h2 : ac.eval X2 = .int .i64 a2) (h3 : ac.eval X3 = .int .i64 a3) (h4 : ac.eval X4 = .int .i64 a4) (h5 : ac.eval X5 = .int .i64 a5) : ∃ v' w', (execOp ac.eval o).run Tryd.prog w = .ok (.value v') w' ∧ (Rw 3 b w' v' ([a0, a1, a2, a3, a4, a5].map (Value.int .i64)) ∧ Below w.heap.size w w') := by
  have hrun : (Instr.buildSlice 67 6 #[(0, .int .i64 a0), (1, .int .i64 a1), (2, .int .i64 a2), (3, .int .i64 a3), (4, .int .i64 a4), (5, .int .i64 a5)]).run Tryd.prog w = .ok (.slice (some ⟨w.heap.size, 0, none⟩) 6 6) (w.alloc (.cells #[.int .i64 a0, .int .i64 a1, .int .i64 a2, .int .i64 a3, .int .i64 a4, .int .i64 a5] 3)) := by
    unfold Instr.buildSlice
    go_simp
    try rfl
  exact ⟨_, _, by simp [execOp, ho, h0, h1, h2, h3, h4, h5, hrun, Result.andThen], rw_new 3 hb ([a0, a1, a2, a3, a4, a5].map (Value.int .i64)), below1 _ _⟩
theorem exec_wI7 {w : World} {o : Oper} {ac : Act} {X0 X1 X2 X3 X4 X5 X6 : Operand} {a0 a1 a2 a3 a4 a5 a6 : Int} {b : Nat} (hb : b < w.heap.size) (ho : o.op = .buildSlice 67 7 #[(0, X0), (1, X1), (2, X2), (3, X3), (4, X4), (5, X5), (6, X6)]) (h0 : ac.eval X0 = .int .i64 a0) (h1 : ac.eval X1 = .int .i64 a1) (h2 : ac.eval X2 = .int .i64 a2) (h3 : ac.eval X3 = .int .i64 a3) (h4 : ac.eval X4 = .int .i64 a4) (h5 : ac.eval X5 = .int .i64 a5) (h6 : ac.eval X6 = .int .i64 a6) : ∃ v' w', (execOp ac.eval o).run Tryd.prog w = .ok (.value v') w' ∧ (Rw 3 b w' v' ([a0, a1, a2, a3, a4, a5, a6].map (Value.int .i64)) ∧ Below w.heap.size w w') := by
  have hrun : (Instr.buildSlice 67 7 #[(0, .int .i64 a0), (1, .int .i64 a1), (2, .int .i64 a2), (3, .int .i64 a3), (4, .int .i64 a4), (5, .int .i64 a5), (6, .int .i64 a6)]).run Tryd.prog w = .ok (.slice (some ⟨w.heap.size, 0, none⟩) 7 7) (w.alloc (.cells #[.int .i64 a0, .int .i64 a1, .int .i64 a2, .int .i64 a3, .int .i64 a4, .int .i64 a5, .int .i64 a6] 3)) := by
    unfold Instr.buildSlice
    go_simp
    try rfl
  exact ⟨_, _, by simp [execOp, ho, h0, h1, h2, h3, h4, h5, h6, hrun, Result.andThen], rw_new 3 hb ([a0, a1, a2, a3, a4, a5, a6].map (Value.int .i64)), below1 _ _⟩
theorem exec_wS1 {w : World} {o : Oper} {ac : Act} {X0 : Operand} {a0 : List UInt8} {b : Nat} (hb : b < w.heap.size) (ho : o.op = .buildSlice 80 1 #[(0, X0)]) (h0 : ac.eval X0 = strV a0) : ∃ v' w', (execOp ac.eval o).run Tryd.prog w = .ok (.value v') w' ∧ (Rw 9 b w' v' ([a0].map strV) ∧ Below w.heap.size w w') := by
  have hrun : (Instr.buildSlice 80 1 #[(0, strV a0)]).run Tryd.prog w = .ok (.slice (some ⟨w.heap.size, 0, none⟩) 1 1) (w.alloc (.cells #[strV a0] 9)) := by
    unfold Instr.buildSlice strV
    go_simp
    try rfl
  exact ⟨_, _, by simp [execOp, ho, h0, hrun, Result.andThen], rw_new 9 hb ([a0].map strV), below1 _ _⟩
theorem exec_wS2 {w : World} {o : Oper} {ac : Act} {X0 X1 : Operand} {a0 a1 : List UInt8} {b : Nat} (hb : b < w.heap.size) (ho : o.op = .buildSlice 80 2 #[(0, X0), (1, X1)]) (h0 : ac.eval X0 = strV a0) (h1 : ac.eval X1 = strV a1) : ∃ v' w', (execOp ac.eval o).run Tryd.prog w = .ok (.value v') w' ∧ (Rw 9 b w' v' ([a0, a1].map strV) ∧ Below w.heap.size w w') := by
  have hrun : (Instr.buildSlice 80 2 #[(0, strV a0), (1, strV a1)]).run Tryd.prog w = .ok (.slice (some ⟨w.heap.size, 0, none⟩) 2 2) (w.alloc (.cells #[strV a0, strV a1] 9)) := by
    unfold Instr.buildSlice strV
    go_simp
    try rfl
  exact ⟨_, _, by simp [execOp, ho, h0, h1, hrun, Result.andThen], rw_new 9 hb ([a0, a1].map strV), below1 _ _⟩
theorem one_cut (x : Sx) : oneT x.k = lineW (wSnap :: [x.s.r, x.s.i, x.s.s, x.s.tm, bitZ x.s.bg, x.s.su].map decZ) ++ (lineW (wState :: [x.s.t1, x.s.t2, x.s.t3, x.s.t4, x.s.t5].map decZ) ++ (lineW (wView :: [x.s.m1, x.s.m2, x.s.m3, x.s.m4, x.s.m5, x.s.m6, x.s.m7].map decZ) ++
    (lineW (wHost :: ([x.s.hi, x.s.lf, x.s.wt].map decZ ++ [hexW (bytesOf x.out), decZ x.ms.length])) ++ (x.ms.map Mx.k).flatMap inW))) := by
  unfold oneT Sx.k
  simp
theorem lineW_len (ws : List (List UInt8)) : (lineW ws).length = (joinB 32 ws).length + 1 := by simp [lineW]
theorem flat_mem_len {α : Type} (f : α → List UInt8) : ∀ {l : List α} {x : α}, x ∈ l → (f x).length ≤ (l.flatMap f).length
  | [], _, h => by cases h
  | y :: l, x, h => by
    rw [List.flatMap_cons, List.length_append]
    rcases List.mem_cons.1 h with rfl | h
    · omega
    · have := flat_mem_len f h; omega
theorem flat_take_len {α : Type} (f : α → List UInt8) (l : List α) (k : Nat) : ((l.take k).flatMap f).length ≤ (l.flatMap f).length := by
  conv => rhs; rw [← List.take_append_drop k l, List.flatMap_append, List.length_append]
  omega
theorem flat_snoc {α : Type} (f : α → List UInt8) {l : List α} {k : Nat} {x : α} (h : l[k]? = some x) : (l.take (k + 1)).flatMap f = (l.take k).flatMap f ++ f x := by
  obtain ⟨hk, e⟩ := List.getElem?_eq_some_iff.1 h
  rw [List.take_succ_eq_append_getElem hk, e, List.flatMap_append]
  simp
theorem oneT_ne (x : Sk) : oneT x ≠ [] := by
  intro h
  have := congrArg List.length h
  unfold oneT lineW at this
  simp at this
theorem print_take (l : List Sx) (k : Nat) : (printT ((l.take k).map Sx.k)).length ≤ (printT (l.map Sx.k)).length := by
  unfold printT
  rw [List.map_take]
  exact flat_take_len _ _ _
theorem print_snoc {l : List Sx} {k : Nat} {x : Sx} (h : l[k]? = some x) : printT ((l.take (k + 1)).map Sx.k) = printT ((l.take k).map Sx.k) ++ oneT x.k := by
  unfold printT
  rw [List.map_take, List.map_take]
  exact flat_snoc _ (by rw [List.getElem?_map, h]; rfl)
end Go.Proofs.YtjaaldeaknmmbaaDoor
namespace Go.Proofs.YtjaaldeaknmmbaaDoor
open Go.RowKit Go.Shelf

set_option maxRecDepth 100000 in
set_option maxHeartbeats 3200000 in
theorem print_any (l : List Sx) (v : Value) (w : World) (h : Sxs w v l) (hl : (printT (l.map Sx.k)).length ≤ 1000000000) : Calls Tryd.prog 9 #[v] w fun e w' => e = .returned (strV (printT (l.map Sx.k))) ∧ Below w.heap.size w w' := by
  have HPO : Hid (∀ (w' : World) (t : List UInt8), Below w.heap.size w w' → t = printT (l.map Sx.k) → (fun e w' => e = Ending.returned (strV (printT (l.map Sx.k))) ∧ Below w.heap.size w w') (.returned (strV t)) w') := fun w' t h1 h2 => by subst h2; exact ⟨rfl, h1⟩
  generalize (fun e w' => e = Ending.returned (strV (printT (l.map Sx.k))) ∧ Below w.heap.size w w') = POST at *
  obtain ⟨ba, bc, rfl, hbc, hbcm, -⟩ := h.1.shape
  obtain ⟨q, hq⟩ : ∃ q, q = l.length := ⟨_, rfl⟩
  rw [← hq] at hbc ⊢
  have HB := Lib.hid h
  rw [← hq] at HB
  have HQ := Lib.hid hq
  have HTOT := Lib.hid hl
  clear h hq hl
  go_enter Tryd.func9, Tryd.ntmps9
  go_upto_region 2 with fail
  obtain ⟨w0, hw0⟩ : ∃ w0, w0 = w.alloc (.cells #[.pointer none, .slice none 0 0] 64) := ⟨_, rfl⟩
  have hfr : w0.heap[w.heap.size]? = some (.cells #[.pointer none, .slice none 0 0] 64 (0, 0)) := by rw [hw0]; exact World.alloc_heap_new w _
  have HWW0 : Hid (Below w.heap.size w w0) := by show Below _ _ _; rw [hw0]; exact below1 _ _
  rw [← hw0]
  clear hw0
  have hbld : Bld w.heap.size w.heap.size [] w0 := .inl ⟨Nat.le_refl _, _, hfr, World.ownsRowF_nil _ _ _ _, by simp [Value.ownBlock]⟩
  have HFR0 := Lib.hid hfr
  have HP00 := Lib.hid (BPost.refl hbld)
  have HBS0 : Hid (w.heap.size ≤ w0.heap.size) := HWW0.out.size
  clear hfr hbld
  obtain ⟨B, hB⟩ : ∃ B, B = w.heap.size := ⟨_, rfl⟩
  have HBW : Hid (B = w.heap.size) := hB
  obtain ⟨b, hb⟩ : ∃ b, b = B := ⟨_, rfl⟩
  rw [← hB] at HPO HFR0 HP00 HBS0 HWW0 ⊢
  have HP0 : Hid (BPost B b [] w0 w0) := by rw [hb]; exact HP00
  have HFR : Hid (w0.heap[b]? = some (.cells #[.pointer none, .slice none 0 0] 64 (0, 0))) := by rw [hb]; exact HFR0
  rw [← hb]
  clear hB HP00 HFR0 hb
  go_wp2
  go_loopw [13] (fun i wr => ∃ (k : Nat) (acc : List UInt8), k ≤ q ∧ i = .int .i64 k ∧ Hid (acc = printT ((l.take k).map Sx.k)) ∧ Hid (BPost B b acc w0 wr) ∧ Hid (acc = [] → wr.heap[b]? = some (.cells #[.pointer none, .slice none 0 0] 64 (0, 0)))) (fun i _ => q - (intOf i).toNat)
  case atStart => exact ⟨0, [], Nat.zero_le _, rfl, Lib.hid (by simp [printT]), HP0.out, Lib.hid (fun _ => HFR.out)⟩
  case round =>
    clear HP0 HFR
    obtain ⟨k, acc, hk, rfl, HA, HP, HFR⟩ := hrel
    obtain ⟨wo, rfl⟩ : ∃ wo : World, wo = wr := ⟨_, rfl⟩
    by_cases hlt : k < q
    · clear HFR
      obtain ⟨x, hxk⟩ : ∃ x, l[k]? = some x := ⟨_, List.getElem?_eq_getElem (by rw [← HQ.out]; exact hlt)⟩
      obtain ⟨bb, off, hba, hbl, hc⟩ := HB.out.1.row (by rintro rfl; simp at hxk)
      subst hba
      have HC := Lib.hid (sx_at HB.out (HBW.out ▸ HWW0.out.trans HP.out.2.1) rfl hxk)
      have hx := HB.out.2 x (List.mem_of_getElem? hxk)
      have HAS : Hid (acc ++ oneT x.k = printT ((l.take (k + 1)).map Sx.k)) := by show _ = _; rw [HA.out]; exact (print_snoc hxk).symm
      have HONE : (oneT x.k).length ≤ 1000000000 := by
        have := print_take l (k + 1)
        rw [print_snoc hxk, List.length_append] at this
        have := HTOT.out
        omega
      have HAC : Hid (acc.length ≤ 1000000000) := by
        show _ ≤ _
        have := print_take l k
        rw [← HA.out] at this
        exact Nat.le_trans this HTOT.out
      have hI := hx.ints
      simp only [Sn.ints, List.mem_cons, List.not_mem_nil, or_false, forall_eq_or_imp, forall_eq, I64] at hI
      have hbit : inI (bitZ x.s.bg) := by unfold inI bitZ; cases x.s.bg <;> simp
      have hq0 : x.ms.length = x.s.nn := by obtain ⟨a, c, e, _⟩ := hx.inn.shape; simp only [Value.slice.injEq] at e; exact e.2.1.symm
      have hmx : x.s.nn ≤ 9223372036854775807 := by obtain ⟨a, c, e, h1, h2, _⟩ := hx.inn.shape; simp only [Value.slice.injEq] at e; omega
      have HOUT := Lib.hid (bys_of hx.out)
      have hINN := hx.inn
      have HEACH := Lib.hid hx.each
      have hcut := one_cut x
      have hlen := congrArg List.length hcut
      simp only [List.length_append] at hlen
      have HDL : Hid ((bytesOf x.out).length ≤ 1000000000) := by
        show _ ≤ _
        have e1 := lineW_len (wHost :: ([x.s.hi, x.s.lf, x.s.wt].map decZ ++ [hexW (bytesOf x.out), decZ x.ms.length]))
        have e2 := hexW_len (bytesOf x.out)
        simp [joinB] at e1
        simp at hlen
        omega
      have hMI : ∀ m ∈ x.ms, (inW m.k).length ≤ 1000000000 := fun m hm => by
        have := flat_mem_len inW (List.mem_map_of_mem (f := Mx.k) hm)
        omega
      have HMI := Lib.hid hMI
      obtain ⟨qm, hqm⟩ : ∃ n, n = x.s.nn := ⟨_, rfl⟩
      obtain ⟨ia, hia⟩ : ∃ n, n = x.s.ia := ⟨_, rfl⟩
      have hqx : qm ≤ 9223372036854775807 := by omega
      have HQM : Hid (x.ms.length = qm) := by show _ = _; rw [hqm]; exact hq0
      have HNQ : Hid (∀ W, Calls Tryd.prog 20 #[.int .i64 (qm : Int)] W fun e w' => e = .returned (strV (decZ x.ms.length)) ∧ Below W.heap.size W w') := fun W => by rw [hqm, hq0]; exact number_any _ W (by omega) (by omega)
      have hL1 : (lineW (wSnap :: [x.s.r, x.s.i, x.s.s, x.s.tm, bitZ x.s.bg, x.s.su].map decZ)).length ≤ 1000000000 := by omega
      have HN1 : Hid (∀ acc X v, Bld B b acc X → Rw 3 b X v ([x.s.r, x.s.i, x.s.s, x.s.tm, bitZ x.s.bg, x.s.su].map (Value.int .i64)) → acc.length ≤ 8000000000 → B ≤ X.heap.size → Calls Tryd.prog 17 #[.pointer (some ⟨b, 0, none⟩), strV wSnap, v, .slice none 0 0] X fun e w' => e = .returned (.tuple #[]) ∧ BPost B b (acc ++ lineW (wSnap :: [x.s.r, x.s.i, x.s.s, x.s.tm, bitZ x.s.bg, x.s.su].map decZ)) X w') := fun acc X v h1 h2 h3 h4 => by
        have := line_any B b acc wSnap [x.s.r, x.s.i, x.s.s, x.s.tm, bitZ x.s.bg, x.s.su] [] v (.slice none 0 0) X h1 h2 (.inl ⟨rfl, rfl⟩) (by simp only [List.mem_cons, List.not_mem_nil, or_false, forall_eq_or_imp, forall_eq]; exact ⟨hI.1, hI.2.1, hI.2.2.1, hI.2.2.2.2.2.2.2.2.2.2.2.2.2.2.2.1, hbit, hI.2.2.2.2.2.2.2.2.2.2.2.2.2.2.2.2.1⟩) (by simp) (by simp) (by have e := lineW_len (wSnap :: [x.s.r, x.s.i, x.s.s, x.s.tm, bitZ x.s.bg, x.s.su].map decZ); simp only [List.append_nil]; omega) h4
        simpa only [List.append_nil] using this
      have hL2 : (lineW (wState :: [x.s.t1, x.s.t2, x.s.t3, x.s.t4, x.s.t5].map decZ)).length ≤ 1000000000 := by omega
      have HN2 : Hid (∀ acc X v, Bld B b acc X → Rw 3 b X v ([x.s.t1, x.s.t2, x.s.t3, x.s.t4, x.s.t5].map (Value.int .i64)) → acc.length ≤ 8000000000 → B ≤ X.heap.size → Calls Tryd.prog 17 #[.pointer (some ⟨b, 0, none⟩), strV wState, v, .slice none 0 0] X fun e w' => e = .returned (.tuple #[]) ∧ BPost B b (acc ++ lineW (wState :: [x.s.t1, x.s.t2, x.s.t3, x.s.t4, x.s.t5].map decZ)) X w') := fun acc X v h1 h2 h3 h4 => by
        have := line_any B b acc wState [x.s.t1, x.s.t2, x.s.t3, x.s.t4, x.s.t5] [] v (.slice none 0 0) X h1 h2 (.inl ⟨rfl, rfl⟩) (by simp only [List.mem_cons, List.not_mem_nil, or_false, forall_eq_or_imp, forall_eq]; exact ⟨hI.2.2.2.1, hI.2.2.2.2.1, hI.2.2.2.2.2.1, hI.2.2.2.2.2.2.1, hI.2.2.2.2.2.2.2.1⟩) (by simp) (by simp) (by have e := lineW_len (wState :: [x.s.t1, x.s.t2, x.s.t3, x.s.t4, x.s.t5].map decZ); simp only [List.append_nil]; omega) h4
        simpa only [List.append_nil] using this
      have hL3 : (lineW (wView :: [x.s.m1, x.s.m2, x.s.m3, x.s.m4, x.s.m5, x.s.m6, x.s.m7].map decZ)).length ≤ 1000000000 := by omega
      have HN3 : Hid (∀ acc X v, Bld B b acc X → Rw 3 b X v ([x.s.m1, x.s.m2, x.s.m3, x.s.m4, x.s.m5, x.s.m6, x.s.m7].map (Value.int .i64)) → acc.length ≤ 8000000000 → B ≤ X.heap.size → Calls Tryd.prog 17 #[.pointer (some ⟨b, 0, none⟩), strV wView, v, .slice none 0 0] X fun e w' => e = .returned (.tuple #[]) ∧ BPost B b (acc ++ lineW (wView :: [x.s.m1, x.s.m2, x.s.m3, x.s.m4, x.s.m5, x.s.m6, x.s.m7].map decZ)) X w') := fun acc X v h1 h2 h3 h4 => by
        have := line_any B b acc wView [x.s.m1, x.s.m2, x.s.m3, x.s.m4, x.s.m5, x.s.m6, x.s.m7] [] v (.slice none 0 0) X h1 h2 (.inl ⟨rfl, rfl⟩) (by simp only [List.mem_cons, List.not_mem_nil, or_false, forall_eq_or_imp, forall_eq]; exact ⟨hI.2.2.2.2.2.2.2.2.1, hI.2.2.2.2.2.2.2.2.2.1, hI.2.2.2.2.2.2.2.2.2.2.1, hI.2.2.2.2.2.2.2.2.2.2.2.1, hI.2.2.2.2.2.2.2.2.2.2.2.2.1, hI.2.2.2.2.2.2.2.2.2.2.2.2.2.1, hI.2.2.2.2.2.2.2.2.2.2.2.2.2.2.1⟩) (by simp) (by simp) (by have e := lineW_len (wView :: [x.s.m1, x.s.m2, x.s.m3, x.s.m4, x.s.m5, x.s.m6, x.s.m7].map decZ); simp only [List.append_nil]; omega) h4
        simpa only [List.append_nil] using this

      have hL4 : (lineW (wHost :: ([x.s.hi, x.s.lf, x.s.wt].map decZ ++ [hexW (bytesOf x.out), decZ x.ms.length]))).length ≤ 1000000000 := by omega
      have HN4 : Hid (∀ acc X v v9, Bld B b acc X → Rw 3 b X v ([x.s.hi, x.s.lf, x.s.wt].map (Value.int .i64)) → Rw 9 b X v9 ([hexW (bytesOf x.out), decZ x.ms.length].map strV) → acc.length ≤ 8000000000 → B ≤ X.heap.size → Calls Tryd.prog 17 #[.pointer (some ⟨b, 0, none⟩), strV wHost, v, v9] X fun e w' => e = .returned (.tuple #[]) ∧ BPost B b (acc ++ lineW (wHost :: ([x.s.hi, x.s.lf, x.s.wt].map decZ ++ [hexW (bytesOf x.out), decZ x.ms.length]))) X w') := fun acc X v v9 h1 h2 h2' h3 h4 =>
        line_any B b acc wHost [x.s.hi, x.s.lf, x.s.wt] [hexW (bytesOf x.out), decZ x.ms.length] v v9 X h1 h2 h2' (by simp only [List.mem_cons, List.not_mem_nil, or_false, forall_eq_or_imp, forall_eq]; exact ⟨hI.2.2.2.2.2.2.2.2.2.2.2.2.2.2.2.2.2.1, hI.2.2.2.2.2.2.2.2.2.2.2.2.2.2.2.2.2.2.1, hI.2.2.2.2.2.2.2.2.2.2.2.2.2.2.2.2.2.2.2⟩) (by simp) (by simp) (by have e := lineW_len (wHost :: ([x.s.hi, x.s.lf, x.s.wt].map decZ ++ [hexW (bytesOf x.out), decZ x.ms.length])); omega) h4
      have HSUM := Lib.hid hcut
      have HE1 := Lib.hid hL1
      have HE2 := Lib.hid hL2
      have HE3 := Lib.hid hL3
      have HE4 := Lib.hid hL4
      have HSL : Hid ((oneT x.k).length ≤ 1000000000) := HONE
      clear hI hbit hx hcut hlen hMI hL1 hL2 hL3 hL4 hq0 hmx HONE hxk hc HA
      rw [← hqm, ← hia] at hINN
      have HINN := Lib.hid hINN
      have HNNE := Lib.hid hqm
      have HIAE := Lib.hid hia
      clear hINN hqm hia
      generalize lineW (wSnap :: [x.s.r, x.s.i, x.s.s, x.s.tm, bitZ x.s.bg, x.s.su].map decZ) = L1 at *
      generalize lineW (wState :: [x.s.t1, x.s.t2, x.s.t3, x.s.t4, x.s.t5].map decZ) = L2 at *
      generalize lineW (wView :: [x.s.m1, x.s.m2, x.s.m3, x.s.m4, x.s.m5, x.s.m6, x.s.m7].map decZ) = L3 at *
      generalize lineW (wHost :: ([x.s.hi, x.s.lf, x.s.wt].map decZ ++ [hexW (bytesOf x.out), decZ x.ms.length])) = L4 at *
      generalize bytesOf x.out = D at *
      generalize decZ (x.ms.length : Int) = DQ at *
      go_upto_region 5 with (first | ((with_reducible show wpList _ _ _ (Oper.mk (some 16) _ _ _ _ _ :: _) _ _); refine wpList_loadW W41 rfl rfl (x := .tmp 15) rfl (encS x.s) rfl HC.out ?_) | ((with_reducible show wpList _ _ _ (Oper.mk none _ _ _ _ _ :: _) _ _); refine wpList_boxW W41 rfl rfl rfl (encS x.s) rfl rfl (encS_one _) rfl ?_; go_must (intro W1 HX1 hal hz1; have HX1 := Lib.hid HX1; have HAL1 := Lib.hid hal; have HZ1 := Lib.hid hz1; clear hal hz1)))
      obtain ⟨b1, hb1⟩ : ∃ b1, b1 = wo.heap.size := ⟨_, rfl⟩
      rw [← hb1] at HX1 ⊢
      have HB1 := Lib.hid hb1
      clear hb1 HC
      go_upto_region 6 with (first | ((with_reducible show wpList _ _ _ (Oper.mk (some 18) _ _ _ _ _ :: _) _ _); refine wpList_loadW W39 rfl rfl (x := .tmp 17) rfl (encN x.s) rfl (HX1.out.sub (s_n _)) ?_) | ((with_reducible show wpList _ _ _ (Oper.mk none _ _ _ _ _ :: _) _ _); refine wpList_boxW W39 rfl rfl rfl (encN x.s) rfl rfl (encN_one _) rfl ?_; go_must (intro W2 HX2 hal hz2; have HX2 := Lib.hid HX2; have HAL2 := Lib.hid hal; have HZ2 := Lib.hid hz2; clear hal hz2)))
      obtain ⟨b2, hb2⟩ : ∃ b2, b2 = W1.heap.size := ⟨_, rfl⟩
      rw [← hb2] at HX2 ⊢
      have HLO := HP.out.1.lt
      have HC1 : Hid (∀ X, Lib.OthersKept 5 (some b) W2 X → ∀ j u, (encS x.s)[j]? = some u → X.cell? ⟨b1, j, none⟩ = some u) := fun X hX j u hj => ok_cells (HX1.out.keep HAL2.out) (by decide) (by have := HB1.out; omega) hX j u hj
      have HC2 : Hid (∀ X, Lib.OthersKept 5 (some b) W2 X → ∀ j u, (encN x.s)[j]? = some u → X.cell? ⟨b2, j, none⟩ = some u) := fun X hX j u hj => ok_cells HX2.out (by decide) (by have := HZ1.out; omega) hX j u hj
      have HS19 : Hid (∀ X, Lib.OthersKept 5 (some b) W2 X → X.cell? ⟨b2, 19, none⟩ = some (.slice ia qm x.s.ic)) := fun X hX => by rw [HIAE.out, HNNE.out]; exact HC2.out X hX 19 _ rfl
      have hBo : B ≤ wo.heap.size := Nat.le_trans HBS0.out HP.out.2.2.2
      have hB1 : B ≤ W1.heap.size := Nat.le_trans hBo HAL1.out.size
      have HPA : Hid (BPost B b acc w0 W2) := (HP.out.below HAL1.out HBS0.out).below HAL2.out HBS0.out
      have HP2 : Hid (BPost B b acc W2 W2) := BPost.refl HPA.out.1
      have HBS : Hid (B ≤ W2.heap.size) := Nat.le_trans hB1 HAL2.out.size
      have HBL : Hid (b < W2.heap.size) := HPA.out.1.lt
      have HWW : Hid (∀ X, Below B W2 X → Below w.heap.size w X) := fun X hX => HBW.out ▸ HWW0.out.trans (HPA.out.2.1.trans hX)
      clear HX1 HX2 HAL1 HAL2 HZ1 HZ2 HB1 hb2 HLO hBo hB1 HP
      have HACL : Hid (acc.length ≤ 8000000000) := by have := HAC.out; show _ ≤ _; omega
      refine wp_region_held_drew (S := (fun X => Lib.OthersKept 5 (some b) W2 X)) (by kernel_rfl) (Lib.OthersKept.refl _ _ W2) (fun hHeld => ?_)
      (refine takeW (i := 0) (v := ?_) rfl (by kernel_rfl) (by kernel_rfl) (by kernel_rfl) (fun _ _ _ h => h) (by rfl) (by assumption) ?_ ?_; rotate_left; (intro W hW; (try dsimp only at hW); go_simp; try with_reducible rfl); (try simp only [Act.put, List.setIfInBounds_toArray, List.set_cons_zero, List.set_cons_succ]))
      (refine takeW (i := 1) (v := ?_) rfl (by kernel_rfl) (by kernel_rfl) (by kernel_rfl) (fun _ _ _ h => h) (by rfl) (by assumption) ?_ ?_; rotate_left; (intro W hW; (try dsimp only at hW); go_simp; try with_reducible rfl); (try simp only [Act.put, List.setIfInBounds_toArray, List.set_cons_zero, List.set_cons_succ]))
      (refine takeW (i := 2) rfl (by kernel_rfl) (by kernel_rfl) (by kernel_rfl) (fun _ _ _ h => h) (by rfl) (by assumption) (fun W hW => exec_load1 (v := .int .i64 x.s.r) FL3 rfl rfl (HC1.out _ hW 0 _ rfl)) ?_; (try simp only [Act.put, List.setIfInBounds_toArray, List.set_cons_zero, List.set_cons_succ]))
      (refine takeW (i := 3) (v := ?_) rfl (by kernel_rfl) (by kernel_rfl) (by kernel_rfl) (fun _ _ _ h => h) (by rfl) (by assumption) ?_ ?_; rotate_left; (intro W hW; (try dsimp only at hW); go_simp; try with_reducible rfl); (try simp only [Act.put, List.setIfInBounds_toArray, List.set_cons_zero, List.set_cons_succ]))
      (refine takeW (i := 4) rfl (by kernel_rfl) (by kernel_rfl) (by kernel_rfl) (fun _ _ _ h => h) (by rfl) (by assumption) (fun W hW => exec_load1 (v := .int .i64 x.s.i) FL3 rfl rfl (HC2.out _ hW 0 _ rfl)) ?_; (try simp only [Act.put, List.setIfInBounds_toArray, List.set_cons_zero, List.set_cons_succ]))
      (refine takeW (i := 5) (v := ?_) rfl (by kernel_rfl) (by kernel_rfl) (by kernel_rfl) (fun _ _ _ h => h) (by rfl) (by assumption) ?_ ?_; rotate_left; (intro W hW; (try dsimp only at hW); go_simp; try with_reducible rfl); (try simp only [Act.put, List.setIfInBounds_toArray, List.set_cons_zero, List.set_cons_succ]))
      (refine takeW (i := 6) rfl (by kernel_rfl) (by kernel_rfl) (by kernel_rfl) (fun _ _ _ h => h) (by rfl) (by assumption) (fun W hW => exec_load1 (v := .int .i64 x.s.s) FL3 rfl rfl (HC2.out _ hW 1 _ rfl)) ?_; (try simp only [Act.put, List.setIfInBounds_toArray, List.set_cons_zero, List.set_cons_succ]))
      (refine takeW (i := 7) (v := ?_) rfl (by kernel_rfl) (by kernel_rfl) (by kernel_rfl) (fun _ _ _ h => h) (by rfl) (by assumption) ?_ ?_; rotate_left; (intro W hW; (try dsimp only at hW); go_simp; try with_reducible rfl); (try simp only [Act.put, List.setIfInBounds_toArray, List.set_cons_zero, List.set_cons_succ]))
      (refine takeW (i := 8) rfl (by kernel_rfl) (by kernel_rfl) (by kernel_rfl) (fun _ _ _ h => h) (by rfl) (by assumption) (fun W hW => exec_load1 (v := .int .i64 x.s.tm) FL3 rfl rfl (HC2.out _ hW 14 _ rfl)) ?_; (try simp only [Act.put, List.setIfInBounds_toArray, List.set_cons_zero, List.set_cons_succ]))
      (refine takeW (i := 9) (v := ?_) rfl (by kernel_rfl) (by kernel_rfl) (by kernel_rfl) (fun _ _ _ h => h) (by rfl) (by assumption) ?_ ?_; rotate_left; (intro W hW; (try dsimp only at hW); go_simp; try with_reducible rfl); (try simp only [Act.put, List.setIfInBounds_toArray, List.set_cons_zero, List.set_cons_succ]))
      (refine takeW (i := 10) rfl (by kernel_rfl) (by kernel_rfl) (by kernel_rfl) (fun _ _ _ h => h) (by rfl) (by assumption) (fun W hW => exec_load1 (v := .bool x.s.bg) FL4 rfl rfl (HC2.out _ hW 15 _ rfl)) ?_; (try simp only [Act.put, List.setIfInBounds_toArray, List.set_cons_zero, List.set_cons_succ]))
      (refine takeW (i := 12) (v := ?_) rfl (by kernel_rfl) (by kernel_rfl) (by kernel_rfl) (fun _ _ _ h => h) (by rfl) (by assumption) ?_ ?_; rotate_left; (intro W hW; (try dsimp only at hW); go_simp; try with_reducible rfl); (try simp only [Act.put, List.setIfInBounds_toArray, List.set_cons_zero, List.set_cons_succ]))
      (refine takeW (i := 13) rfl (by kernel_rfl) (by kernel_rfl) (by kernel_rfl) (fun _ _ _ h => h) (by rfl) (by assumption) (fun W hW => exec_load1 (v := .int .i64 x.s.su) FL3 rfl rfl (HC2.out _ hW 16 _ rfl)) ?_; (try simp only [Act.put, List.setIfInBounds_toArray, List.set_cons_zero, List.set_cons_succ]))
      refine takeC (i := 11) rfl (by kernel_rfl) (by rfl) (fun K hK => ?_)
      go_simp
      refine (truth_any _ _).mono ?_
      rintro e w1 ⟨rfl, hw1⟩
      subst hw1
      refine hK.out _ _ (hHeld) (fun hHeld => ?_)
      clear hK K
      (try simp only [Act.put, List.setIfInBounds_toArray, List.set_cons_zero, List.set_cons_succ])
      refine takeE (i := 14) rfl (by kernel_rfl) (by rfl) (exec_wI6 HBL.out rfl rfl rfl rfl rfl rfl rfl) ?_
      rintro v3 W3 ⟨hr3, hb3⟩
      have HR3 := Lib.hid hr3
      have HP3 := Lib.hid (HP2.out.drew.below hb3 HBS.out)
      clear hr3 hb3 hHeld
      refine ⟨HP3.out.2.2.1, ?_⟩
      (try simp only [Act.put, List.setIfInBounds_toArray, List.set_cons_zero, List.set_cons_succ])
      refine takeC (i := 15) rfl (by kernel_rfl) (by rfl) (fun K hK => ?_)
      go_simp
      refine (HN1.out _ _ _ HP3.out.1 HR3.out HACL.out (Nat.le_trans HBS.out HP3.out.2.2.2)).mono ?_
      rintro e W4 ⟨rfl, hp4⟩
      have HP4 := Lib.hid (HP3.out.trans hp4)
      clear hp4 HR3 HP3 hHeld
      refine hK.out _ _ (HP4.out.2.2.1) (fun hHeld => ?_)
      clear hK K
      (try simp only [Act.put, List.setIfInBounds_toArray, List.set_cons_zero, List.set_cons_succ])
      refine wpAnyH_done (by kernel_rfl) ?_ _
      clear hHeld
      have HACL : Hid ((acc ++ L1).length ≤ 8000000000) := by have := HAC.out; have := HE1.out; show _ ≤ _; rw [List.length_append]; omega
      go_wp2_with (first | ((with_reducible show wpList _ _ _ (Oper.mk (some 38) _ _ _ _ _ :: _) _ _); refine wpList_val rfl (exec_load1 (v := .int .i64 x.s.t1) FL3 rfl rfl (HC2.out _ HP4.out.2.2.1 2 _ rfl)) ?_) | ((with_reducible show wpList _ _ _ (Oper.mk (some 41) _ _ _ _ _ :: _) _ _); refine wpList_val rfl (exec_load1 (v := .int .i64 x.s.t2) FL3 rfl rfl (HC2.out _ HP4.out.2.2.1 3 _ rfl)) ?_) | ((with_reducible show wpList _ _ _ (Oper.mk (some 44) _ _ _ _ _ :: _) _ _); refine wpList_val rfl (exec_load1 (v := .int .i64 x.s.t3) FL3 rfl rfl (HC2.out _ HP4.out.2.2.1 4 _ rfl)) ?_) | ((with_reducible show wpList _ _ _ (Oper.mk (some 47) _ _ _ _ _ :: _) _ _); refine wpList_val rfl (exec_load1 (v := .int .i64 x.s.t4) FL3 rfl rfl (HC2.out _ HP4.out.2.2.1 5 _ rfl)) ?_) | ((with_reducible show wpList _ _ _ (Oper.mk (some 50) _ _ _ _ _ :: _) _ _); refine wpList_val rfl (exec_load1 (v := .int .i64 x.s.t5) FL3 rfl rfl (HC2.out _ HP4.out.2.2.1 6 _ rfl)) ?_) | ((with_reducible show wpList _ _ _ (Oper.mk (some 51) _ _ _ _ _ :: _) _ _); refine wpList_ex rfl (exec_wI5 (Nat.lt_of_lt_of_le HBL.out HP4.out.2.2.2) rfl rfl rfl rfl rfl rfl ) ?_; rintro v5 W5 ⟨hr5, hb5⟩; have HR5 := Lib.hid hr5; have HP5 := Lib.hid (HP4.out.below hb5 HBS.out); clear hr5 hb5 HP4) | (go_at_call 17; refine (HN2.out _ _ _ HP5.out.1 HR5.out HACL.out (Nat.le_trans HBS.out HP5.out.2.2.2)).mono ?_))
      rintro e W6 ⟨rfl, hp6⟩
      have HP6 := Lib.hid (HP5.out.trans hp6)
      have HACL : Hid (((acc ++ L1) ++ L2).length ≤ 8000000000) := by have := HAC.out; have := HE1.out; have := HE2.out; show _ ≤ _; rw [List.length_append, List.length_append]; omega
      clear hp6 HP5 HR5
      go_wp2_with (first | ((with_reducible show wpList _ _ _ (Oper.mk (some 56) _ _ _ _ _ :: _) _ _); refine wpList_val rfl (exec_load1 (v := .int .i64 x.s.m1) FL3 rfl rfl (HC2.out _ HP6.out.2.2.1 7 _ rfl)) ?_) | ((with_reducible show wpList _ _ _ (Oper.mk (some 59) _ _ _ _ _ :: _) _ _); refine wpList_val rfl (exec_load1 (v := .int .i64 x.s.m2) FL3 rfl rfl (HC2.out _ HP6.out.2.2.1 8 _ rfl)) ?_) | ((with_reducible show wpList _ _ _ (Oper.mk (some 62) _ _ _ _ _ :: _) _ _); refine wpList_val rfl (exec_load1 (v := .int .i64 x.s.m3) FL3 rfl rfl (HC2.out _ HP6.out.2.2.1 9 _ rfl)) ?_) | ((with_reducible show wpList _ _ _ (Oper.mk (some 65) _ _ _ _ _ :: _) _ _); refine wpList_val rfl (exec_load1 (v := .int .i64 x.s.m4) FL3 rfl rfl (HC2.out _ HP6.out.2.2.1 10 _ rfl)) ?_) | ((with_reducible show wpList _ _ _ (Oper.mk (some 68) _ _ _ _ _ :: _) _ _); refine wpList_val rfl (exec_load1 (v := .int .i64 x.s.m5) FL3 rfl rfl (HC2.out _ HP6.out.2.2.1 11 _ rfl)) ?_) | ((with_reducible show wpList _ _ _ (Oper.mk (some 71) _ _ _ _ _ :: _) _ _); refine wpList_val rfl (exec_load1 (v := .int .i64 x.s.m6) FL3 rfl rfl (HC2.out _ HP6.out.2.2.1 12 _ rfl)) ?_) | ((with_reducible show wpList _ _ _ (Oper.mk (some 74) _ _ _ _ _ :: _) _ _); refine wpList_val rfl (exec_load1 (v := .int .i64 x.s.m7) FL3 rfl rfl (HC2.out _ HP6.out.2.2.1 13 _ rfl)) ?_) | ((with_reducible show wpList _ _ _ (Oper.mk (some 75) _ _ _ _ _ :: _) _ _); refine wpList_ex rfl (exec_wI7 (Nat.lt_of_lt_of_le HBL.out HP6.out.2.2.2) rfl rfl rfl rfl rfl rfl rfl rfl ) ?_; rintro v7 W7 ⟨hr7, hb7⟩; have HR7 := Lib.hid hr7; have HP7 := Lib.hid (HP6.out.below hb7 HBS.out); clear hr7 hb7 HP6) | (go_at_call 17; refine (HN3.out _ _ _ HP7.out.1 HR7.out HACL.out (Nat.le_trans HBS.out HP7.out.2.2.2)).mono ?_))
      rintro e W8 ⟨rfl, hp8⟩
      have HP8 := Lib.hid (HP7.out.trans hp8).drew
      have HACL : Hid ((((acc ++ L1) ++ L2) ++ L3).length ≤ 8000000000) := by have := HAC.out; have := HE1.out; have := HE2.out; have := HE3.out; show _ ≤ _; rw [List.length_append, List.length_append, List.length_append]; omega
      clear hp8 HP7 HR7 HN1 HN2 HN3
      go_upto_region 9 with fail
      go_cut [98] from 77 to 98 (fun _ wx => Hid (BPost B b ((((acc ++ L1) ++ L2) ++ L3) ++ L4) W2 wx))
      case first =>
        refine wp_region_held_drew (S := (fun X => Lib.OthersKept 5 (some b) W2 X)) (by kernel_rfl) HP8.out.2.2.1 (fun hHeld => ?_)
        (refine takeW (i := 0) (v := ?_) rfl (by kernel_rfl) (by kernel_rfl) (by kernel_rfl) (fun _ _ _ h => h) (by rfl) (by assumption) ?_ ?_; rotate_left; (intro W hW; (try dsimp only at hW); go_simp; try with_reducible rfl); (try simp only [Act.put, List.setIfInBounds_toArray, List.set_cons_zero, List.set_cons_succ]))
        (refine takeW (i := 1) (v := ?_) rfl (by kernel_rfl) (by kernel_rfl) (by kernel_rfl) (fun _ _ _ h => h) (by rfl) (by assumption) ?_ ?_; rotate_left; (intro W hW; (try dsimp only at hW); go_simp; try with_reducible rfl); (try simp only [Act.put, List.setIfInBounds_toArray, List.set_cons_zero, List.set_cons_succ]))
        (refine takeW (i := 2) (v := ?_) rfl (by kernel_rfl) (by kernel_rfl) (by kernel_rfl) (fun _ _ _ h => h) (by rfl) (by assumption) ?_ ?_; rotate_left; (intro W hW; (try dsimp only at hW); go_simp; try with_reducible rfl); (try simp only [Act.put, List.setIfInBounds_toArray, List.set_cons_zero, List.set_cons_succ]))
        (refine takeW (i := 3) rfl (by kernel_rfl) (by kernel_rfl) (by kernel_rfl) (fun _ _ _ h => h) (by rfl) (by assumption) (fun W hW => exec_load1 (v := .int .i64 x.s.hi) FL3 rfl rfl (HC2.out _ hW 17 _ rfl)) ?_; (try simp only [Act.put, List.setIfInBounds_toArray, List.set_cons_zero, List.set_cons_succ]))
        (refine takeW (i := 4) (v := ?_) rfl (by kernel_rfl) (by kernel_rfl) (by kernel_rfl) (fun _ _ _ h => h) (by rfl) (by assumption) ?_ ?_; rotate_left; (intro W hW; (try dsimp only at hW); go_simp; try with_reducible rfl); (try simp only [Act.put, List.setIfInBounds_toArray, List.set_cons_zero, List.set_cons_succ]))
        (refine takeW (i := 5) (v := ?_) rfl (by kernel_rfl) (by kernel_rfl) (by kernel_rfl) (fun _ _ _ h => h) (by rfl) (by assumption) ?_ ?_; rotate_left; (intro W hW; (try dsimp only at hW); go_simp; try with_reducible rfl); (try simp only [Act.put, List.setIfInBounds_toArray, List.set_cons_zero, List.set_cons_succ]))
        (refine takeW (i := 6) rfl (by kernel_rfl) (by kernel_rfl) (by kernel_rfl) (fun _ _ _ h => h) (by rfl) (by assumption) (fun W hW => exec_load1 (v := .int .i64 x.s.lf) FL3 rfl rfl (HC2.out _ hW 20 _ rfl)) ?_; (try simp only [Act.put, List.setIfInBounds_toArray, List.set_cons_zero, List.set_cons_succ]))
        (refine takeW (i := 7) (v := ?_) rfl (by kernel_rfl) (by kernel_rfl) (by kernel_rfl) (fun _ _ _ h => h) (by rfl) (by assumption) ?_ ?_; rotate_left; (intro W hW; (try dsimp only at hW); go_simp; try with_reducible rfl); (try simp only [Act.put, List.setIfInBounds_toArray, List.set_cons_zero, List.set_cons_succ]))
        (refine takeW (i := 8) (v := ?_) rfl (by kernel_rfl) (by kernel_rfl) (by kernel_rfl) (fun _ _ _ h => h) (by rfl) (by assumption) ?_ ?_; rotate_left; (intro W hW; (try dsimp only at hW); go_simp; try with_reducible rfl); (try simp only [Act.put, List.setIfInBounds_toArray, List.set_cons_zero, List.set_cons_succ]))
        (refine takeW (i := 9) rfl (by kernel_rfl) (by kernel_rfl) (by kernel_rfl) (fun _ _ _ h => h) (by rfl) (by assumption) (fun W hW => exec_load1 (v := .int .i64 x.s.wt) FL3 rfl rfl (HC2.out _ hW 21 _ rfl)) ?_; (try simp only [Act.put, List.setIfInBounds_toArray, List.set_cons_zero, List.set_cons_succ]))
        (refine takeW (i := 11) (v := ?_) rfl (by kernel_rfl) (by kernel_rfl) (by kernel_rfl) (fun _ _ _ h => h) (by rfl) (by assumption) ?_ ?_; rotate_left; (intro W hW; (try dsimp only at hW); go_simp; try with_reducible rfl); (try simp only [Act.put, List.setIfInBounds_toArray, List.set_cons_zero, List.set_cons_succ]))
        (refine takeW (i := 12) (v := ?_) rfl (by kernel_rfl) (by kernel_rfl) (by kernel_rfl) (fun _ _ _ h => h) (by rfl) (by assumption) ?_ ?_; rotate_left; (intro W hW; (try dsimp only at hW); go_simp; try with_reducible rfl); (try simp only [Act.put, List.setIfInBounds_toArray, List.set_cons_zero, List.set_cons_succ]))
        (refine takeW (i := 13) rfl (by kernel_rfl) (by kernel_rfl) (by kernel_rfl) (fun _ _ _ h => h) (by rfl) (by assumption) (fun W hW => exec_load1 (v := .slice x.s.oa x.s.on x.s.oc) F36 rfl rfl (HC2.out _ hW 18 _ rfl)) ?_; (try simp only [Act.put, List.setIfInBounds_toArray, List.set_cons_zero, List.set_cons_succ]))
        (refine takeW (i := 15) (v := ?_) rfl (by kernel_rfl) (by kernel_rfl) (by kernel_rfl) (fun _ _ _ h => h) (by rfl) (by assumption) ?_ ?_; rotate_left; (intro W hW; (try dsimp only at hW); go_simp; try with_reducible rfl); (try simp only [Act.put, List.setIfInBounds_toArray, List.set_cons_zero, List.set_cons_succ]))
        (refine takeW (i := 16) (v := ?_) rfl (by kernel_rfl) (by kernel_rfl) (by kernel_rfl) (fun _ _ _ h => h) (by rfl) (by assumption) ?_ ?_; rotate_left; (intro W hW; (try dsimp only at hW); go_simp; try with_reducible rfl); (try simp only [Act.put, List.setIfInBounds_toArray, List.set_cons_zero, List.set_cons_succ]))
        (refine takeW (i := 17) rfl (by kernel_rfl) (by kernel_rfl) (by kernel_rfl) (fun _ _ _ h => h) (by rfl) (by assumption) (fun W hW => exec_load1 (v := .slice ia qm x.s.ic) F37 rfl rfl (HS19.out _ hW)) ?_; (try simp only [Act.put, List.setIfInBounds_toArray, List.set_cons_zero, List.set_cons_succ]))
        (refine takeW (i := 18) (v := ?_) rfl (by kernel_rfl) (by kernel_rfl) (by kernel_rfl) (fun _ _ _ h => h) (by rfl) (by assumption) ?_ ?_; rotate_left; (intro W hW; (try dsimp only at hW); go_simp; try with_reducible rfl); (try simp only [Act.put, List.setIfInBounds_toArray, List.set_cons_zero, List.set_cons_succ]))
        refine takeC2 (i := 10) (j := 14) rfl rfl (by kernel_rfl) (by rfl) (by rfl) (fun K hK => ?_) (fun K hK => ?_)
        · refine wp_ofE hK (exec_wI3 (Nat.lt_of_lt_of_le HBL.out HP8.out.2.2.2) rfl rfl rfl rfl) ?_
          rintro v9 W9 ⟨hr, hb9⟩
          have HP9 := Lib.hid (HP8.out.below hb9 HBS.out)
          have HA9 := Lib.hid hr
          clear hr hb9
          refine ⟨HP9.out.2.2.1, ?_⟩
          clear hK K
          (try simp only [Act.put, List.setIfInBounds_toArray, List.set_cons_zero, List.set_cons_succ])
          clear HP8 
          refine takeC (i := 14) rfl (by kernel_rfl) (by rfl) (fun K hK => ?_)
          go_simp
          refine (hex_any D _ _ (HOUT.out.below (HWW.out _ HP9.out.2.1)) HDL.out).mono ?_
          rintro e W10 ⟨rfl, hb10⟩
          have HP10 := Lib.hid (HP9.out.below hb10 HBS.out)
          have HA10 := Lib.hid (HA9.out.below hb10)
          clear hb10
          refine hK.out _ _ (HP10.out.2.2.1) (fun hHeld => ?_)
          clear hK K
          (try simp only [Act.put, List.setIfInBounds_toArray, List.set_cons_zero, List.set_cons_succ])
          clear HP9 HA9
          refine takeC (i := 19) rfl (by kernel_rfl) (by rfl) (fun K hK => ?_)
          go_simp
          refine (HNQ.out _).mono ?_
          rintro e W11 ⟨rfl, hb11⟩
          have HP11 := Lib.hid (HP10.out.below hb11 HBS.out)
          have HA11 := Lib.hid (HA10.out.below hb11)
          clear hb11
          refine hK.out _ _ (HP11.out.2.2.1) (fun hHeld => ?_)
          clear hK K
          (try simp only [Act.put, List.setIfInBounds_toArray, List.set_cons_zero, List.set_cons_succ])
          clear HP10 HA10
          refine takeE (i := 20) rfl (by kernel_rfl) (by rfl) (exec_wS2 (Nat.lt_of_lt_of_le HBL.out HP11.out.2.2.2) rfl rfl rfl) ?_
          rintro v12 W12 ⟨hr, hb12⟩
          have HP12 := Lib.hid (HP11.out.below hb12 HBS.out)
          have HA12 := Lib.hid (HA11.out.below hb12)
          have HB12 := Lib.hid hr
          clear hr hb12
          refine ⟨HP12.out.2.2.1, ?_⟩
          (try simp only [Act.put, List.setIfInBounds_toArray, List.set_cons_zero, List.set_cons_succ])
          clear HP11 HA11
          refine takeC (i := 21) rfl (by kernel_rfl) (by rfl) (fun K hK => ?_)
          go_simp
          refine (HN4.out _ _ _ _ HP12.out.1 HA12.out HB12.out HACL.out (Nat.le_trans HBS.out HP12.out.2.2.2)).mono ?_
          rintro e W13 ⟨rfl, hb13⟩
          have HP13 := Lib.hid (HP12.out.trans hb13)
          clear hb13
          refine hK.out _ _ (HP13.out.2.2.1) (fun hHeld => ?_)
          clear hK K
          (try simp only [Act.put, List.setIfInBounds_toArray, List.set_cons_zero, List.set_cons_succ])
          clear HP12 HA12 HB12
          refine wpAnyH_done (by kernel_rfl) ?_ _
          go_wp2_with fail
          go_meet
          exact HP13
        · go_simp
          refine (hex_any D _ _ (HOUT.out.below (HWW.out _ HP8.out.2.1)) HDL.out).mono ?_
          rintro e W9 ⟨rfl, hb9⟩
          have HP9 := Lib.hid (HP8.out.below hb9 HBS.out)
          clear hb9
          refine hK.out _ _ (HP9.out.2.2.1) (fun hHeld => ?_)
          clear hK K
          (try simp only [Act.put, List.setIfInBounds_toArray, List.set_cons_zero, List.set_cons_succ])
          clear HP8 
          refine takeC2 (i := 10) (j := 19) rfl rfl (by kernel_rfl) (by rfl) (by rfl) (fun K hK => ?_) (fun K hK => ?_)
          · refine wp_ofE hK (exec_wI3 (Nat.lt_of_lt_of_le HBL.out HP9.out.2.2.2) rfl rfl rfl rfl) ?_
            rintro v10 W10 ⟨hr, hb10⟩
            have HP10 := Lib.hid (HP9.out.below hb10 HBS.out)
            have HA10 := Lib.hid hr
            clear hr hb10
            refine ⟨HP10.out.2.2.1, ?_⟩
            clear hK K
            (try simp only [Act.put, List.setIfInBounds_toArray, List.set_cons_zero, List.set_cons_succ])
            clear HP9 
            refine takeC (i := 19) rfl (by kernel_rfl) (by rfl) (fun K hK => ?_)
            go_simp
            refine (HNQ.out _).mono ?_
            rintro e W11 ⟨rfl, hb11⟩
            have HP11 := Lib.hid (HP10.out.below hb11 HBS.out)
            have HA11 := Lib.hid (HA10.out.below hb11)
            clear hb11
            refine hK.out _ _ (HP11.out.2.2.1) (fun hHeld => ?_)
            clear hK K
            (try simp only [Act.put, List.setIfInBounds_toArray, List.set_cons_zero, List.set_cons_succ])
            clear HP10 HA10
            refine takeE (i := 20) rfl (by kernel_rfl) (by rfl) (exec_wS2 (Nat.lt_of_lt_of_le HBL.out HP11.out.2.2.2) rfl rfl rfl) ?_
            rintro v12 W12 ⟨hr, hb12⟩
            have HP12 := Lib.hid (HP11.out.below hb12 HBS.out)
            have HA12 := Lib.hid (HA11.out.below hb12)
            have HB12 := Lib.hid hr
            clear hr hb12
            refine ⟨HP12.out.2.2.1, ?_⟩
            (try simp only [Act.put, List.setIfInBounds_toArray, List.set_cons_zero, List.set_cons_succ])
            clear HP11 HA11
            refine takeC (i := 21) rfl (by kernel_rfl) (by rfl) (fun K hK => ?_)
            go_simp
            refine (HN4.out _ _ _ _ HP12.out.1 HA12.out HB12.out HACL.out (Nat.le_trans HBS.out HP12.out.2.2.2)).mono ?_
            rintro e W13 ⟨rfl, hb13⟩
            have HP13 := Lib.hid (HP12.out.trans hb13)
            clear hb13
            refine hK.out _ _ (HP13.out.2.2.1) (fun hHeld => ?_)
            clear hK K
            (try simp only [Act.put, List.setIfInBounds_toArray, List.set_cons_zero, List.set_cons_succ])
            clear HP12 HA12 HB12
            refine wpAnyH_done (by kernel_rfl) ?_ _
            go_wp2_with fail
            go_meet
            exact HP13
          · go_simp
            refine (HNQ.out _).mono ?_
            rintro e W10 ⟨rfl, hb10⟩
            have HP10 := Lib.hid (HP9.out.below hb10 HBS.out)
            clear hb10
            refine hK.out _ _ (HP10.out.2.2.1) (fun hHeld => ?_)
            clear hK K
            (try simp only [Act.put, List.setIfInBounds_toArray, List.set_cons_zero, List.set_cons_succ])
            clear HP9 
            refine takeC2 (i := 10) (j := 20) rfl rfl (by kernel_rfl) (by rfl) (by rfl) (fun K hK => ?_) (fun K hK => ?_)
            · refine wp_ofE hK (exec_wI3 (Nat.lt_of_lt_of_le HBL.out HP10.out.2.2.2) rfl rfl rfl rfl) ?_
              rintro v11 W11 ⟨hr, hb11⟩
              have HP11 := Lib.hid (HP10.out.below hb11 HBS.out)
              have HA11 := Lib.hid hr
              clear hr hb11
              refine ⟨HP11.out.2.2.1, ?_⟩
              clear hK K
              (try simp only [Act.put, List.setIfInBounds_toArray, List.set_cons_zero, List.set_cons_succ])
              clear HP10 
              refine takeE (i := 20) rfl (by kernel_rfl) (by rfl) (exec_wS2 (Nat.lt_of_lt_of_le HBL.out HP11.out.2.2.2) rfl rfl rfl) ?_
              rintro v12 W12 ⟨hr, hb12⟩
              have HP12 := Lib.hid (HP11.out.below hb12 HBS.out)
              have HA12 := Lib.hid (HA11.out.below hb12)
              have HB12 := Lib.hid hr
              clear hr hb12
              refine ⟨HP12.out.2.2.1, ?_⟩
              (try simp only [Act.put, List.setIfInBounds_toArray, List.set_cons_zero, List.set_cons_succ])
              clear HP11 HA11
              refine takeC (i := 21) rfl (by kernel_rfl) (by rfl) (fun K hK => ?_)
              go_simp
              refine (HN4.out _ _ _ _ HP12.out.1 HA12.out HB12.out HACL.out (Nat.le_trans HBS.out HP12.out.2.2.2)).mono ?_
              rintro e W13 ⟨rfl, hb13⟩
              have HP13 := Lib.hid (HP12.out.trans hb13)
              clear hb13
              refine hK.out _ _ (HP13.out.2.2.1) (fun hHeld => ?_)
              clear hK K
              (try simp only [Act.put, List.setIfInBounds_toArray, List.set_cons_zero, List.set_cons_succ])
              clear HP12 HA12 HB12
              refine wpAnyH_done (by kernel_rfl) ?_ _
              go_wp2_with fail
              go_meet
              exact HP13
            · refine wp_ofE hK (exec_wS2 (Nat.lt_of_lt_of_le HBL.out HP10.out.2.2.2) rfl rfl rfl) ?_
              rintro v11 W11 ⟨hr, hb11⟩
              have HP11 := Lib.hid (HP10.out.below hb11 HBS.out)
              have HB11 := Lib.hid hr
              clear hr hb11
              refine ⟨HP11.out.2.2.1, ?_⟩
              clear hK K
              (try simp only [Act.put, List.setIfInBounds_toArray, List.set_cons_zero, List.set_cons_succ])
              clear HP10 
              refine takeE (i := 10) rfl (by kernel_rfl) (by rfl) (exec_wI3 (Nat.lt_of_lt_of_le HBL.out HP11.out.2.2.2) rfl rfl rfl rfl) ?_
              rintro v12 W12 ⟨hr, hb12⟩
              have HP12 := Lib.hid (HP11.out.below hb12 HBS.out)
              have HB12 := Lib.hid (HB11.out.below hb12)
              have HA12 := Lib.hid hr
              clear hr hb12
              refine ⟨HP12.out.2.2.1, ?_⟩
              (try simp only [Act.put, List.setIfInBounds_toArray, List.set_cons_zero, List.set_cons_succ])
              clear HP11 HB11
              refine takeC (i := 21) rfl (by kernel_rfl) (by rfl) (fun K hK => ?_)
              go_simp
              refine (HN4.out _ _ _ _ HP12.out.1 HA12.out HB12.out HACL.out (Nat.le_trans HBS.out HP12.out.2.2.2)).mono ?_
              rintro e W13 ⟨rfl, hb13⟩
              have HP13 := Lib.hid (HP12.out.trans hb13)
              clear hb13
              refine hK.out _ _ (HP13.out.2.2.1) (fun hHeld => ?_)
              clear hK K
              (try simp only [Act.put, List.setIfInBounds_toArray, List.set_cons_zero, List.set_cons_succ])
              clear HP12 HB12 HA12
              refine wpAnyH_done (by kernel_rfl) ?_ _
              go_wp2_with fail
              go_meet
              exact HP13
      case rest =>
        rename World => W9
        have HP9 : Hid (BPost B b ((((acc ++ L1) ++ L2) ++ L3) ++ L4) W2 W9) := hcut
        have HBASE : Hid (((((acc ++ L1) ++ L2) ++ L3) ++ L4).length ≤ 5000000000) := by have := HAC.out; have := HE1.out; have := HE2.out; have := HE3.out; have := HE4.out; show _ ≤ _; simp only [List.length_append]; omega
        have HFIN : Hid (((((acc ++ L1) ++ L2) ++ L3) ++ L4) ++ x.ms.flatMap (fun y => inW y.k) = acc ++ oneT x.k) := by
          show _ = _
          rw [HSUM.out, List.flatMap_map]
          simp only [List.append_assoc]
        have HFL : Hid ((x.ms.flatMap (fun y => inW y.k)).length ≤ 1000000000) := by
          show _ ≤ _
          have h1 := congrArg List.length HSUM.out
          rw [List.flatMap_map] at h1
          simp only [List.length_append] at h1
          have := HSL.out
          omega
        clear hcut HP8 HN4 HNQ HOUT HC1 HDL HAC HE1 HE2 HE3 HE4 HSUM HACL HSL
        generalize ((((acc ++ L1) ++ L2) ++ L3) ++ L4) = BASE at *
        go_wp2_with ((with_reducible show wpList _ _ _ (Oper.mk (some 101) _ _ _ _ _ :: _) _ _); refine wpList_val rfl (exec_load1 (v := .slice ia qm x.s.ic) F37 rfl rfl (HS19.out _ HP9.out.2.2.1)) ?_)
        go_loopw [103] (fun i wr => ∃ (m : Nat) (ac : List UInt8), m ≤ qm ∧ i = .int .i64 m ∧ Hid (ac = BASE ++ (x.ms.take m).flatMap (fun y => inW y.k)) ∧ Hid (BPost B b ac W2 wr)) (fun i _ => qm - (intOf i).toNat)
        case atStart => exact ⟨0, _, Nat.zero_le _, rfl, Lib.hid (by simp), HP9.out⟩
        case round =>
          clear HP9
          obtain ⟨m, ac, hm, rfl, HA, HP⟩ := hrel
          obtain ⟨wi, rfl⟩ : ∃ wi : World, wi = wr := ⟨_, rfl⟩
          by_cases hlm : m < qm
          · obtain ⟨y, hy⟩ : ∃ y, x.ms[m]? = some y := ⟨_, List.getElem?_eq_getElem (by rw [HQM.out]; exact hlm)⟩
            obtain ⟨mb, mo, hia, hml, hmc⟩ := HINN.out.row (by rintro e; rw [e] at hy; simp at hy)
            subst hia
            have HCY : Hid (∀ j u, (encMx y)[j]? = some u → wi.cell? ⟨mb, mo + m * 2 + j, none⟩ = some u) := fun j u hj => by rw [(HWW.out _ HP.out.2.1).cell hml]; exact hmc m y hy j u hj
            have hgm := HEACH.out y (List.mem_of_getElem? hy)
            have HMD := Lib.hid (bys_of hgm.1)
            have hyi : inI y.age := hgm.2
            have hyl : (inW y.k).length ≤ 1000000000 := HMI.out y (List.mem_of_getElem? hy)
            have HDL : Hid ((bytesOf y.d.l).length ≤ 1000000000) := by
              show _ ≤ _
              have e1 : inW y.k = lineW (wIn :: ([y.age].map decZ ++ [hexW (bytesOf y.d.l)])) := rfl
              have e2 := lineW_len (wIn :: ([y.age].map decZ ++ [hexW (bytesOf y.d.l)]))
              have e3 := hexW_len (bytesOf y.d.l)
              rw [← e1] at e2
              simp [joinB] at e2
              omega
            have HACL : Hid (ac.length ≤ 8000000000) := by
              show _ ≤ _
              have h1 := flat_take_len (fun y : Mx => inW y.k) x.ms m
              have h2 := HFL.out
              have h3 := HBASE.out
              rw [HA.out, List.length_append]
              omega
            have HSM : Hid (ac ++ inW y.k = BASE ++ (x.ms.take (m + 1)).flatMap (fun y => inW y.k)) := by show _ = _; rw [HA.out, flat_snoc (fun y : Mx => inW y.k) hy, List.append_assoc]
            have HNM : Hid (∀ acc X v v9, Bld B b acc X → Rw 3 b X v ([y.age].map (Value.int .i64)) → Rw 9 b X v9 ([hexW (bytesOf y.d.l)].map strV) → acc.length ≤ 8000000000 → B ≤ X.heap.size → Calls Tryd.prog 17 #[.pointer (some ⟨b, 0, none⟩), strV wIn, v, v9] X fun e w' => e = .returned (.tuple #[]) ∧ BPost B b (acc ++ inW y.k) X w') := fun acc X v v9 h1 h2 h2' h3 h4 =>
              line_any B b acc wIn [y.age] [hexW (bytesOf y.d.l)] v v9 X h1 h2 h2' (by simpa using hyi) (by simp) (by simp) (by
                have e1 : inW y.k = lineW (wIn :: ([y.age].map decZ ++ [hexW (bytesOf y.d.l)])) := rfl
                have e := lineW_len (wIn :: ([y.age].map decZ ++ [hexW (bytesOf y.d.l)]))
                rw [← e1] at e
                omega) h4
            clear hy hml hmc hgm hyi hyl HA
            generalize inW y.k = LY at *
            generalize bytesOf y.d.l = D2 at *
            go_upto_region 13 with (first | ((with_reducible show wpList _ _ _ (Oper.mk (some 106) _ _ _ _ _ :: _) _ _); refine wpList_loadW W60 rfl rfl (x := .tmp 105) rfl (encMx y) rfl HCY.out ?_) | ((with_reducible show wpList _ _ _ (Oper.mk none _ _ _ _ _ :: _) _ _); refine wpList_boxW W60 rfl rfl rfl (encMx y) rfl rfl (encM_one _) rfl ?_; go_must (intro W8 HX8 hal hz8; have HX8 := Lib.hid HX8; have HAL8 := Lib.hid hal; have HZ8 := Lib.hid hz8; clear hal hz8)))
            obtain ⟨b8, hb8⟩ : ∃ b8, b8 = wi.heap.size := ⟨_, rfl⟩
            rw [← hb8] at HX8 ⊢
            have HLO := HP.out.1.lt
            have HCM : Hid (∀ X, Lib.OthersKept 5 (some b) W8 X → ∀ j u, (encMx y)[j]? = some u → X.cell? ⟨b8, j, none⟩ = some u) := fun X hX j u hj => ok_cells HX8.out (by decide) (by omega) hX j u hj
            have HPB : Hid (BPost B b ac W2 W8) := HP.out.below HAL8.out HBS.out
            have HP12 : Hid (BPost B b ac W8 W8.drew) := (BPost.refl HPB.out.1).drew
            have HWI : Hid (∀ X, Below B W8 X → Below w.heap.size w X) := fun X hX => HWW.out _ (HPB.out.2.1.trans hX)
            have HBI : Hid (B ≤ W8.heap.size) := Nat.le_trans HBS.out HPB.out.2.2.2
            have HBJ : Hid (b < W8.heap.size) := Nat.lt_of_lt_of_le HBL.out HPB.out.2.2.2
            clear HX8 HAL8 HZ8 hb8 HLO HP HCY HS19
            refine wp_region_held_drew (S := (fun X => Lib.OthersKept 5 (some b) W8 X)) (by kernel_rfl) (Lib.OthersKept.refl _ _ W8) (fun hHeld => ?_)
            (refine takeW (i := 0) (v := ?_) rfl (by kernel_rfl) (by kernel_rfl) (by kernel_rfl) (fun _ _ _ h => h) (by rfl) (by assumption) ?_ ?_; rotate_left; (intro W hW; (try dsimp only at hW); go_simp; try with_reducible rfl); (try simp only [Act.put, List.setIfInBounds_toArray, List.set_cons_zero, List.set_cons_succ]))
            (refine takeW (i := 1) (v := ?_) rfl (by kernel_rfl) (by kernel_rfl) (by kernel_rfl) (fun _ _ _ h => h) (by rfl) (by assumption) ?_ ?_; rotate_left; (intro W hW; (try dsimp only at hW); go_simp; try with_reducible rfl); (try simp only [Act.put, List.setIfInBounds_toArray, List.set_cons_zero, List.set_cons_succ]))
            (refine takeW (i := 2) rfl (by kernel_rfl) (by kernel_rfl) (by kernel_rfl) (fun _ _ _ h => h) (by rfl) (by assumption) (fun W hW => exec_load1 (v := .int .i64 y.age) FL3 rfl rfl (HCM.out _ hW 1 _ rfl)) ?_; (try simp only [Act.put, List.setIfInBounds_toArray, List.set_cons_zero, List.set_cons_succ]))
            (refine takeW (i := 4) (v := ?_) rfl (by kernel_rfl) (by kernel_rfl) (by kernel_rfl) (fun _ _ _ h => h) (by rfl) (by assumption) ?_ ?_; rotate_left; (intro W hW; (try dsimp only at hW); go_simp; try with_reducible rfl); (try simp only [Act.put, List.setIfInBounds_toArray, List.set_cons_zero, List.set_cons_succ]))
            (refine takeW (i := 5) rfl (by kernel_rfl) (by kernel_rfl) (by kernel_rfl) (fun _ _ _ h => h) (by rfl) (by assumption) (fun W hW => exec_load1 (v := y.d.v) F36 rfl rfl (HCM.out _ hW 0 _ rfl)) ?_; (try simp only [Act.put, List.setIfInBounds_toArray, List.set_cons_zero, List.set_cons_succ]))
            refine takeC2 (i := 3) (j := 6) rfl rfl (by kernel_rfl) (by rfl) (by rfl) (fun K hK => ?_) (fun K hK => ?_)
            · refine wp_ofE hK (exec_wI1 (Nat.lt_of_lt_of_le HBJ.out HP12.out.2.2.2) rfl rfl) ?_
              rintro v13 W13 ⟨hr, hb13⟩
              have HP13 := Lib.hid (HP12.out.below hb13 HBI.out)
              have HA13 := Lib.hid hr
              clear hr hb13
              refine ⟨HP13.out.2.2.1, ?_⟩
              clear hK K
              (try simp only [Act.put, List.setIfInBounds_toArray, List.set_cons_zero, List.set_cons_succ])
              clear HP12 
              refine takeC (i := 6) rfl (by kernel_rfl) (by rfl) (fun K hK => ?_)
              go_simp
              refine (hex_any D2 _ _ (HMD.out.below (HWI.out _ HP13.out.2.1)) HDL.out).mono ?_
              rintro e W14 ⟨rfl, hb14⟩
              have HP14 := Lib.hid (HP13.out.below hb14 HBI.out)
              have HA14 := Lib.hid (HA13.out.below hb14)
              clear hb14
              refine hK.out _ _ (HP14.out.2.2.1) (fun hHeld => ?_)
              clear hK K
              (try simp only [Act.put, List.setIfInBounds_toArray, List.set_cons_zero, List.set_cons_succ])
              clear HP13 HA13
              refine takeE (i := 7) rfl (by kernel_rfl) (by rfl) (exec_wS1 (Nat.lt_of_lt_of_le HBJ.out HP14.out.2.2.2) rfl rfl) ?_
              rintro v15 W15 ⟨hr, hb15⟩
              have HP15 := Lib.hid (HP14.out.below hb15 HBI.out)
              have HA15 := Lib.hid (HA14.out.below hb15)
              have HB15 := Lib.hid hr
              clear hr hb15
              refine ⟨HP15.out.2.2.1, ?_⟩
              (try simp only [Act.put, List.setIfInBounds_toArray, List.set_cons_zero, List.set_cons_succ])
              clear HP14 HA14
              refine takeC (i := 8) rfl (by kernel_rfl) (by rfl) (fun K hK => ?_)
              go_simp
              refine (HNM.out _ _ _ _ HP15.out.1 HA15.out HB15.out HACL.out (Nat.le_trans HBI.out HP15.out.2.2.2)).mono ?_
              rintro e W16 ⟨rfl, hb16⟩
              have HP16 := Lib.hid (HP15.out.trans hb16)
              clear hb16
              refine hK.out _ _ (HP16.out.2.2.1) (fun hHeld => ?_)
              clear hK K
              (try simp only [Act.put, List.setIfInBounds_toArray, List.set_cons_zero, List.set_cons_succ])
              clear HP15 HA15 HB15
              refine wpAnyH_done (by kernel_rfl) ?_ _
              clear hHeld
              have HP9 : Hid (BPost B b (ac ++ LY) W2 W16) := HPB.out.trans HP16.out
              clear HP16 HPB
              go_wp2
              go_roundw
              case rel => exact ⟨m + 1, ac ++ LY, by omega, by go_num, HSM, HP9⟩
              case measure => simp [intOf]; omega
            · go_simp
              refine (hex_any D2 _ _ (HMD.out.below (HWI.out _ HP12.out.2.1)) HDL.out).mono ?_
              rintro e W13 ⟨rfl, hb13⟩
              have HP13 := Lib.hid (HP12.out.below hb13 HBI.out)
              clear hb13
              refine hK.out _ _ (HP13.out.2.2.1) (fun hHeld => ?_)
              clear hK K
              (try simp only [Act.put, List.setIfInBounds_toArray, List.set_cons_zero, List.set_cons_succ])
              clear HP12 
              refine takeC2 (i := 3) (j := 7) rfl rfl (by kernel_rfl) (by rfl) (by rfl) (fun K hK => ?_) (fun K hK => ?_)
              · refine wp_ofE hK (exec_wI1 (Nat.lt_of_lt_of_le HBJ.out HP13.out.2.2.2) rfl rfl) ?_
                rintro v14 W14 ⟨hr, hb14⟩
                have HP14 := Lib.hid (HP13.out.below hb14 HBI.out)
                have HA14 := Lib.hid hr
                clear hr hb14
                refine ⟨HP14.out.2.2.1, ?_⟩
                clear hK K
                (try simp only [Act.put, List.setIfInBounds_toArray, List.set_cons_zero, List.set_cons_succ])
                clear HP13 
                refine takeE (i := 7) rfl (by kernel_rfl) (by rfl) (exec_wS1 (Nat.lt_of_lt_of_le HBJ.out HP14.out.2.2.2) rfl rfl) ?_
                rintro v15 W15 ⟨hr, hb15⟩
                have HP15 := Lib.hid (HP14.out.below hb15 HBI.out)
                have HA15 := Lib.hid (HA14.out.below hb15)
                have HB15 := Lib.hid hr
                clear hr hb15
                refine ⟨HP15.out.2.2.1, ?_⟩
                (try simp only [Act.put, List.setIfInBounds_toArray, List.set_cons_zero, List.set_cons_succ])
                clear HP14 HA14
                refine takeC (i := 8) rfl (by kernel_rfl) (by rfl) (fun K hK => ?_)
                go_simp
                refine (HNM.out _ _ _ _ HP15.out.1 HA15.out HB15.out HACL.out (Nat.le_trans HBI.out HP15.out.2.2.2)).mono ?_
                rintro e W16 ⟨rfl, hb16⟩
                have HP16 := Lib.hid (HP15.out.trans hb16)
                clear hb16
                refine hK.out _ _ (HP16.out.2.2.1) (fun hHeld => ?_)
                clear hK K
                (try simp only [Act.put, List.setIfInBounds_toArray, List.set_cons_zero, List.set_cons_succ])
                clear HP15 HA15 HB15
                refine wpAnyH_done (by kernel_rfl) ?_ _
                clear hHeld
                have HP9 : Hid (BPost B b (ac ++ LY) W2 W16) := HPB.out.trans HP16.out
                clear HP16 HPB
                go_wp2
                go_roundw
                case rel => exact ⟨m + 1, ac ++ LY, by omega, by go_num, HSM, HP9⟩
                case measure => simp [intOf]; omega
              · refine wp_ofE hK (exec_wS1 (Nat.lt_of_lt_of_le HBJ.out HP13.out.2.2.2) rfl rfl) ?_
                rintro v14 W14 ⟨hr, hb14⟩
                have HP14 := Lib.hid (HP13.out.below hb14 HBI.out)
                have HB14 := Lib.hid hr
                clear hr hb14
                refine ⟨HP14.out.2.2.1, ?_⟩
                clear hK K
                (try simp only [Act.put, List.setIfInBounds_toArray, List.set_cons_zero, List.set_cons_succ])
                clear HP13 
                refine takeE (i := 3) rfl (by kernel_rfl) (by rfl) (exec_wI1 (Nat.lt_of_lt_of_le HBJ.out HP14.out.2.2.2) rfl rfl) ?_
                rintro v15 W15 ⟨hr, hb15⟩
                have HP15 := Lib.hid (HP14.out.below hb15 HBI.out)
                have HB15 := Lib.hid (HB14.out.below hb15)
                have HA15 := Lib.hid hr
                clear hr hb15
                refine ⟨HP15.out.2.2.1, ?_⟩
                (try simp only [Act.put, List.setIfInBounds_toArray, List.set_cons_zero, List.set_cons_succ])
                clear HP14 HB14
                refine takeC (i := 8) rfl (by kernel_rfl) (by rfl) (fun K hK => ?_)
                go_simp
                refine (HNM.out _ _ _ _ HP15.out.1 HA15.out HB15.out HACL.out (Nat.le_trans HBI.out HP15.out.2.2.2)).mono ?_
                rintro e W16 ⟨rfl, hb16⟩
                have HP16 := Lib.hid (HP15.out.trans hb16)
                clear hb16
                refine hK.out _ _ (HP16.out.2.2.1) (fun hHeld => ?_)
                clear hK K
                (try simp only [Act.put, List.setIfInBounds_toArray, List.set_cons_zero, List.set_cons_succ])
                clear HP15 HB15 HA15
                refine wpAnyH_done (by kernel_rfl) ?_ _
                clear hHeld
                have HP9 : Hid (BPost B b (ac ++ LY) W2 W16) := HPB.out.trans HP16.out
                clear HP16 HPB
                go_wp2
                go_roundw
                case rel => exact ⟨m + 1, ac ++ LY, by omega, by go_num, HSM, HP9⟩
                case measure => simp [intOf]; omega
          · obtain rfl : m = qm := by omega
            have HF : Hid (ac = printT ((l.take (k + 1)).map Sx.k)) := by
              show _ = _
              rw [HA.out, List.take_of_length_le (by rw [HQM.out]; exact Nat.le_refl _), HFIN.out, HAS.out]
            have HNE : Hid (ac ≠ []) := fun h => by
              have h1 := HF.out
              rw [h, ← HAS.out] at h1
              exact oneT_ne x.k (List.append_eq_nil_iff.1 h1.symm).2
            have HPF := Lib.hid (HPA.out.trans HP.out)
            clear HA HP
            go_wp2
            go_roundw
            case rel => exact ⟨k + 1, ac, by omega, by go_num, HF, HPF, Lib.hid (fun h => absurd h HNE.out)⟩
            case measure => simp [intOf]; omega
    · obtain rfl : k = q := by omega
      have HF : Hid (acc = printT (l.map Sx.k)) := by
        have := HA.out
        rwa [List.take_of_length_le (by rw [← HQ.out]; exact Nat.le_refl _)] at this
      clear HA
      by_cases he : acc = []
      · go_wp2_with (go_at_call 21; refine (string0_any b _ (HFR.out he)).mono ?_)
        rintro e w9 ⟨rfl, rfl⟩
        go_wp2
        exact HPO.out _ _ (HWW0.out.trans HP.out.2.1).drew (he ▸ HF.out)
      · go_wp2_with (go_at_call 21; refine (string_any B b acc _ HP.out.1 he).mono ?_)
        rintro e w9 ⟨rfl, hb9, -⟩
        go_wp2
        exact HPO.out _ _ (HWW0.out.trans (HP.out.2.1.trans hb9)) HF.out
end Go.Proofs.YtjaaldeaknmmbaaDoor
