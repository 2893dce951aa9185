/- The document's text of one snap. -/
import Derived.Test.YtjaaldeaknmmbaaDoorS16
import Derived.Test.YtjaaldeaknmmbaaDoorY2
namespace Go.Proofs.YtjaaldeaknmmbaaDoor
open Go.RowKit Go.Shelf

def bytesOf (l : List Int) : List UInt8 := l.map fun n => UInt8.ofNat n.toNat
theorem bys_of {W : World} {v : Value} {l : List Int} (h : Byt W v l) : Bys W v (bytesOf l) := by
  obtain ⟨⟨a, cap, rfl, h1, h2, h3, h5, h4⟩, hb⟩ := h
  refine ⟨a, cap, by simp [bytesOf], by simpa [bytesOf] using h1, h2, by simpa [bytesOf] using h3, h5, ?_⟩
  rcases h4 with rfl | ⟨b, off, rfl, hlt, hc⟩
  · exact .inl rfl
  · refine .inr ⟨b, off, rfl, hlt, fun j x hj i u hu => ?_⟩
    unfold bytesOf at hj
    rw [List.getElem?_map] at hj
    obtain ⟨n, hn, rfl⟩ := Option.map_eq_some_iff.1 hj
    refine hc j n hn i u ?_
    have := hb n (List.mem_of_getElem? hn)
    have e : ((UInt8.ofNat n.toNat).toNat : Int) = n := by rw [UInt8.toNat_ofNat']; omega
    unfold encU u8c at hu
    rw [e] at hu
    exact hu
def Mx.k (m : Mx) : Int × List UInt8 := (m.age, bytesOf m.d.l)
/-- What a snap says. -/
def Sx.k (x : Sx) : Sk := ⟨x.s.r, x.s.i, x.s.s, x.s.tm, x.s.su, x.s.bg, x.s.t1, x.s.t2, x.s.t3, x.s.t4, x.s.t5, x.s.m1, x.s.m2, x.s.m3, x.s.m4, x.s.m5, x.s.m6, x.s.m7, x.s.hi, x.s.lf, x.s.wt, bytesOf x.out, x.ms.map Mx.k⟩
def Small (x : Sx) : Prop := x.out.length ≤ 5000 ∧ x.ms.length ≤ 50 ∧ ∀ m ∈ x.ms, m.d.l.length ≤ 5000
theorem encN_one (x : Sn) : ∀ u ∈ encN x, u.oneCell' = true := fun u hu => encS_one x u (List.mem_of_mem_drop hu)
theorem at2 {B b j : Nat} {W W' : World} {u : Value} (h : Below B W W') (hl : b < B) (hc : W.cell? ⟨b, j, none⟩ = some u) : W'.cell? ⟨b, j, none⟩ = some u := (h.cell hl).trans hc
theorem FL4 : Flat Tryd.prog 4 := ⟨⟨_, Tryd.underlying4, rfl⟩, by kernel_rfl⟩
theorem F36 : Flat Tryd.prog 36 := ⟨⟨_, Tryd.underlying36, rfl⟩, by kernel_rfl⟩
theorem F37 : Flat Tryd.prog 37 := ⟨⟨_, Tryd.underlying37, rfl⟩, by kernel_rfl⟩
theorem rd_new (w : World) (ns : List Int) (hl : ns.length ≤ 1000) : Rd (encI .i64) 1 (w.alloc (.cells (ns.map (Value.int .i64)).toArray 3)) (.slice (some ⟨w.heap.size, 0, none⟩) ns.length ns.length) ns := by
  refine ⟨_, _, rfl, Nat.le_refl _, by omega, by omega, fun h => (by cases h), .inr ⟨w.heap.size, 0, rfl, by simp, fun j x hj i u hu => ?_⟩⟩
  have hi : i = 0 := by
    cases i with
    | zero => rfl
    | succ i => simp [encI] at hu
  subst hi
  simp only [encI, List.getElem?_cons_zero, Option.some.injEq] at hu
  subst hu
  rw [World.cell?_alloc_at _ _ _ _ rfl]
  simpa using hj
theorem exec_bI1 {w : World} {o : Oper} {ac : Act} {X0 : Operand} {a0 : Int} (ho : o.op = .buildSlice 67 1 #[(0, X0)]) (h0 : ac.eval X0 = .int .i64 a0) : ∃ v' w', (execOp ac.eval o).run Tryd.prog w = .ok (.value v') w' ∧ (Rd (encI .i64) 1 w' v' [a0] ∧ Below w.heap.size w w') := by
  have hrun : (Instr.buildSlice 67 1 #[(0, .int .i64 a0)]).run Tryd.prog w = .ok (.slice (some ⟨w.heap.size, 0, none⟩) 1 1) (w.alloc (.cells #[.int .i64 a0] 3)) := by
    unfold Instr.buildSlice
    go_simp
    try rfl
  exact ⟨_, _, by simp [execOp, ho, h0, hrun, Result.andThen], rd_new w [a0] (by simp), below1 _ _⟩
theorem exec_bI3 {w : World} {o : Oper} {ac : Act} {X0 X1 X2 : Operand} {a0 a1 a2 : Int} (ho : o.op = .buildSlice 67 3 #[(0, X0), (1, X1), (2, X2)]) (h0 : ac.eval X0 = .int .i64 a0) (h1 : ac.eval X1 = .int .i64 a1) (h2 : ac.eval X2 = .int .i64 a2) : ∃ v' w', (execOp ac.eval o).run Tryd.prog w = .ok (.value v') w' ∧ (Rd (encI .i64) 1 w' v' [a0, a1, a2] ∧ Below w.heap.size w w') := by
  have hrun : (Instr.buildSlice 67 3 #[(0, .int .i64 a0), (1, .int .i64 a1), (2, .int .i64 a2)]).run Tryd.prog w = .ok (.slice (some ⟨w.heap.size, 0, none⟩) 3 3) (w.alloc (.cells #[.int .i64 a0, .int .i64 a1, .int .i64 a2] 3)) := by
    unfold Instr.buildSlice
    go_simp
    try rfl
  exact ⟨_, _, by simp [execOp, ho, h0, h1, h2, hrun, Result.andThen], rd_new w [a0, a1, a2] (by simp), below1 _ _⟩
theorem exec_bI5 {w : World} {o : Oper} {ac : Act} {X0 X1 X2 X3 X4 : Operand} {a0 a1 a2 a3 a4 : Int} (ho : o.op = .buildSlice 67 5 #[(0, X0), (1, X1), (2, X2), (3, X3), (4, X4)]) (h0 : ac.eval X0 = .int .i64 a0) (h1 : ac.eval X1 = .int .i64 a1) (h2 : ac.eval X2 = .int .i64 a2) (h3 : ac.eval X3 = .int .i64 a3) (h4 : ac.eval X4 = .int .i64 a4) : ∃ v' w', (execOp ac.eval o).run Tryd.prog w = .ok (.value v') w' ∧ (Rd (encI .i64) 1 w' v' [a0, a1, a2, a3, a4] ∧ Below w.heap.size w w') := by
  have hrun : (Instr.buildSlice 67 5 #[(0, .int .i64 a0), (1, .int .i64 a1), (2, .int .i64 a2), (3, .int .i64 a3), (4, .int .i64 a4)]).run Tryd.prog w = .ok (.slice (some ⟨w.heap.size, 0, none⟩) 5 5) (w.alloc (.cells #[.int .i64 a0, .int .i64 a1, .int .i64 a2, .int .i64 a3, .int .i64 a4] 3)) := by
    unfold Instr.buildSlice
    go_simp
    try rfl
  exact ⟨_, _, by simp [execOp, ho, h0, h1, h2, h3, h4, hrun, Result.andThen], rd_new w [a0, a1, a2, a3, a4] (by simp), below1 _ _⟩
theorem exec_bI6 {w : World} {o : Oper} {ac : Act} {X0 X1 X2 X3 X4 X5 : Operand} {a0 a1 a2 a3 a4 a5 : Int} (ho : o.op = .buildSlice 67 6 #[(0, X0), (1, X1), (2, X2), (3, X3), (4, X4), (5, X5)]) (h0 : ac.eval X0 = .int .i64 a0) (h1 : ac.eval X1 = .int .i64 a1) (h2 : ac.eval X2 = .int .i64 a2) (h3 : ac.eval X3 = .int .i64 a3) (h4 : ac.eval X4 = .int .i64 a4) (h5 : ac.eval X5 = .int .i64 a5) : ∃ v' w', (execOp ac.eval o).run Tryd.prog w = .ok (.value v') w' ∧ (Rd (encI .i64) 1 w' v' [a0, a1, a2, a3, a4, a5] ∧ Below w.heap.size w w') := by
  have hrun : (Instr.buildSlice 67 6 #[(0, .int .i64 a0), (1, .int .i64 a1), (2, .int .i64 a2), (3, .int .i64 a3), (4, .int .i64 a4), (5, .int .i64 a5)]).run Tryd.prog w = .ok (.slice (some ⟨w.heap.size, 0, none⟩) 6 6) (w.alloc (.cells #[.int .i64 a0, .int .i64 a1, .int .i64 a2, .int .i64 a3, .int .i64 a4, .int .i64 a5] 3)) := by
    unfold Instr.buildSlice
    go_simp
    try rfl
  exact ⟨_, _, by simp [execOp, ho, h0, h1, h2, h3, h4, h5, hrun, Result.andThen], rd_new w [a0, a1, a2, a3, a4, a5] (by simp), below1 _ _⟩
theorem exec_bI7 {w : World} {o : Oper} {ac : Act} {X0 X1 X2 X3 X4 X5 X6 : Operand} {a0 a1 a2 a3 a4 a5 a6 : Int} (ho : o.op = .buildSlice 67 7 #[(0, X0), (1, X1), (2, X2), (3, X3), (4, X4), (5, X5), (6, X6)]) (h0 : ac.eval X0 = .int .i64 a0) (h1 : ac.eval X1 = .int .i64 a1) (h2 : ac.eval X2 = .int .i64 a2) (h3 : ac.eval X3 = .int .i64 a3) (h4 : ac.eval X4 = .int .i64 a4) (h5 : ac.eval X5 = .int .i64 a5) (h6 : ac.eval X6 = .int .i64 a6) : ∃ v' w', (execOp ac.eval o).run Tryd.prog w = .ok (.value v') w' ∧ (Rd (encI .i64) 1 w' v' [a0, a1, a2, a3, a4, a5, a6] ∧ Below w.heap.size w w') := by
  have hrun : (Instr.buildSlice 67 7 #[(0, .int .i64 a0), (1, .int .i64 a1), (2, .int .i64 a2), (3, .int .i64 a3), (4, .int .i64 a4), (5, .int .i64 a5), (6, .int .i64 a6)]).run Tryd.prog w = .ok (.slice (some ⟨w.heap.size, 0, none⟩) 7 7) (w.alloc (.cells #[.int .i64 a0, .int .i64 a1, .int .i64 a2, .int .i64 a3, .int .i64 a4, .int .i64 a5, .int .i64 a6] 3)) := by
    unfold Instr.buildSlice
    go_simp
    try rfl
  exact ⟨_, _, by simp [execOp, ho, h0, h1, h2, h3, h4, h5, h6, hrun, Result.andThen], rd_new w [a0, a1, a2, a3, a4, a5, a6] (by simp), below1 _ _⟩
theorem exec_catS {w : World} {o : Oper} {ac : Act} {X Y : Operand} {ty : TypeId} {x y : List UInt8} (ho : o.op = .binOp .add 9 X Y ty) (hx : ac.eval X = strV x) (hy : ac.eval Y = strV y) (hl : x.length + y.length ≤ 9223372036854775807) :
    (execOp ac.eval o).run Tryd.prog w = .ok (.value (strV (x ++ y))) w := exec_cat ho hx hy hl
theorem joinB_len (first : List UInt8) (ns : List Int) (hn : ∀ n ∈ ns, inI n) : (lineN first ns).length ≤ first.length + 21 * ns.length := by
  have h : ∀ k, k ≤ ns.length → (lineN first (ns.take k)).length ≤ first.length + 21 * k := by
    intro k
    induction k with
    | zero => intro _; simp [lineN, joinB]
    | succ k ih =>
      intro hk
      have hs := List.getElem?_eq_getElem (l := ns) (i := k) (by omega)
      rw [lineN_snoc hs]
      have hi := hn _ (List.mem_of_getElem? hs)
      have := decZ_len hi.1 hi.2
      have := ih (by omega)
      simp
      omega
  have := h ns.length (Nat.le_refl _)
  rwa [List.take_of_length_le (Nat.le_refl _)] at this
theorem hexW_len (l : List UInt8) : (hexW l).length = 2 * l.length + 1 := by unfold hexW; simp [hexL_len]
theorem in_text (m : Mx) : ((lineN wIn [m.age] ++ [32]) ++ hexW (bytesOf m.d.l)) ++ [10] = inW m.k := by
  unfold inW lineW lineN Mx.k
  simp [joinB]
theorem one_text (x : Sx) : (((lineN wSnap [x.s.r, x.s.i, x.s.s, x.s.tm, bitZ x.s.bg, x.s.su] ++ [10]) ++ (lineN wState [x.s.t1, x.s.t2, x.s.t3, x.s.t4, x.s.t5] ++ [10])) ++ (lineN wView [x.s.m1, x.s.m2, x.s.m3, x.s.m4, x.s.m5, x.s.m6, x.s.m7] ++ [10])) ++ (((((lineN wHost [x.s.hi, x.s.lf, x.s.wt] ++ [32]) ++ hexW (bytesOf x.out)) ++ [32]) ++ decZ x.ms.length) ++ [10]) ++ (x.ms.map Mx.k).flatMap inW = oneT x.k := by
  unfold oneT lineW lineN Sx.k
  simp [joinB]
theorem cat_ex (x y : List UInt8) (n : Nat) (h : x.length + y.length ≤ n) : ∃ z, Hid (x ++ y = z ∧ z.length ≤ n) := ⟨_, rfl, by simpa using h⟩
theorem exec_catE {w : World} {o : Oper} {ac : Act} {X Y : Operand} {ty : TypeId} {x y z : List UInt8} {n : Nat} (h : Hid (x ++ y = z ∧ z.length ≤ n)) (hn : n ≤ 1000000000) (ho : o.op = .binOp .add 9 X Y ty) (hx : ac.eval X = strV x) (hy : ac.eval Y = strV y) :
    (execOp ac.eval o).run Tryd.prog w = .ok (.value (strV z)) w := by
  obtain ⟨h1, h2⟩ := h.out
  subst h1
  exact exec_cat ho hx hy (by simp at h2; omega)
set_option maxRecDepth 100000 in
set_option maxHeartbeats 3200000 in
theorem rone_any (x : Sx) (w : World) (hx : GoodX w x) (hs : Small x) : Calls Tryd.prog 22 #[.agg (encS x.s).toArray] w fun e w' => e = .returned (strV (oneT x.k)) ∧ Below w.heap.size w w' := by
  have HPO : Hid (∀ (w' : World) (l : List UInt8), Below w.heap.size w w' → l = oneT x.k → (fun e w' => e = Ending.returned (strV (oneT x.k)) ∧ Below w.heap.size w w') (.returned (strV l)) w') := fun w' l h1 h2 => by subst h2; exact ⟨rfl, h1⟩
  generalize (fun e w' => e = Ending.returned (strV (oneT x.k)) ∧ Below w.heap.size w w') = POST at *
  have hI := hx.ints
  simp only [Sn.ints, List.mem_cons, List.not_mem_nil, or_false, forall_eq_or_imp, forall_eq, I64] at hI
  have hbit : inI (bitZ x.s.bg) := by unfold inI bitZ; cases x.s.bg <;> simp
  have HT := Lib.hid (one_text x)
  have hq0 : x.ms.length = x.s.nn := by obtain ⟨a, c, e, _⟩ := hx.inn.shape; simp only [Value.slice.injEq] at e; exact e.2.1.symm
  have HQ := Lib.hid hq0
  have HOUT0 := Lib.hid (bys_of hx.out)
  have HINN0 := Lib.hid hx.inn
  have HEACH0 := Lib.hid hx.each
  have HBL : Hid ((bytesOf x.out).length ≤ 1000000000) := by show _ ≤ _; unfold bytesOf; have := hs.1; simp; omega
  have HHX : Hid ((hexW (bytesOf x.out)).length ≤ 10001) := by show _ ≤ _; rw [hexW_len]; unfold bytesOf; have := hs.1; simp; omega
  have HSM := Lib.hid hs.2.2
  have hq5 : x.s.nn ≤ 50 := by have := hs.2.1; omega
  have HNQ : Hid (∀ W, Calls Tryd.prog 36 #[.int .i64 (x.s.nn : Int)] W fun e w' => e = .returned (strV (decZ x.ms.length)) ∧ Below W.heap.size W w') := fun W => by rw [hq0]; exact rnum_any _ _ W rfl (by omega) (by omega)
  have HEQ : Hid ((decZ (x.ms.length : Int)).length ≤ 21) := by show _ ≤ _; have := decZ_len (n := (x.ms.length : Int)) (by omega) (by omega); omega
  have hN1 : ∀ n ∈ [x.s.r, x.s.i, x.s.s, x.s.tm, bitZ x.s.bg, x.s.su], inI n := by simp only [List.mem_cons, List.not_mem_nil, or_false, forall_eq_or_imp, forall_eq]; exact ⟨hI.1, hI.2.1, hI.2.2.1, hI.2.2.2.2.2.2.2.2.2.2.2.2.2.2.2.1, hbit, hI.2.2.2.2.2.2.2.2.2.2.2.2.2.2.2.2.1⟩
  have HN1 : Hid (∀ W v, Rd (encI .i64) 1 W v [x.s.r, x.s.i, x.s.s, x.s.tm, bitZ x.s.bg, x.s.su] → Calls Tryd.prog 33 #[strV wSnap, v] W fun e w' => e = .returned (strV (lineN wSnap [x.s.r, x.s.i, x.s.s, x.s.tm, bitZ x.s.bg, x.s.su])) ∧ Below W.heap.size W w') := fun W v h => rline_any _ _ _ _ h hN1 (by decide) (by simp)
  have HE1 : Hid ((lineN wSnap [x.s.r, x.s.i, x.s.s, x.s.tm, bitZ x.s.bg, x.s.su]).length ≤ 200) := by
    have := joinB_len wSnap _ hN1
    simp only [List.length_cons, List.length_nil] at this
    have : wSnap.length ≤ 10 := by decide
    show _ ≤ _
    omega
  clear hN1
  generalize lineN wSnap [x.s.r, x.s.i, x.s.s, x.s.tm, bitZ x.s.bg, x.s.su] = L1 at *
  have hN2 : ∀ n ∈ [x.s.t1, x.s.t2, x.s.t3, x.s.t4, x.s.t5], inI n := by simp only [List.mem_cons, List.not_mem_nil, or_false, forall_eq_or_imp, forall_eq]; exact ⟨hI.2.2.2.1, hI.2.2.2.2.1, hI.2.2.2.2.2.1, hI.2.2.2.2.2.2.1, hI.2.2.2.2.2.2.2.1⟩
  have HN2 : Hid (∀ W v, Rd (encI .i64) 1 W v [x.s.t1, x.s.t2, x.s.t3, x.s.t4, x.s.t5] → Calls Tryd.prog 33 #[strV wState, v] W fun e w' => e = .returned (strV (lineN wState [x.s.t1, x.s.t2, x.s.t3, x.s.t4, x.s.t5])) ∧ Below W.heap.size W w') := fun W v h => rline_any _ _ _ _ h hN2 (by decide) (by simp)
  have HE2 : Hid ((lineN wState [x.s.t1, x.s.t2, x.s.t3, x.s.t4, x.s.t5]).length ≤ 200) := by
    have := joinB_len wState _ hN2
    simp only [List.length_cons, List.length_nil] at this
    have : wState.length ≤ 10 := by decide
    show _ ≤ _
    omega
  clear hN2
  generalize lineN wState [x.s.t1, x.s.t2, x.s.t3, x.s.t4, x.s.t5] = L2 at *
  have hN3 : ∀ n ∈ [x.s.m1, x.s.m2, x.s.m3, x.s.m4, x.s.m5, x.s.m6, x.s.m7], inI n := by simp only [List.mem_cons, List.not_mem_nil, or_false, forall_eq_or_imp, forall_eq]; exact ⟨hI.2.2.2.2.2.2.2.2.1, hI.2.2.2.2.2.2.2.2.2.1, hI.2.2.2.2.2.2.2.2.2.2.1, hI.2.2.2.2.2.2.2.2.2.2.2.1, hI.2.2.2.2.2.2.2.2.2.2.2.2.1, hI.2.2.2.2.2.2.2.2.2.2.2.2.2.1, hI.2.2.2.2.2.2.2.2.2.2.2.2.2.2.1⟩
  have HN3 : Hid (∀ W v, Rd (encI .i64) 1 W v [x.s.m1, x.s.m2, x.s.m3, x.s.m4, x.s.m5, x.s.m6, x.s.m7] → Calls Tryd.prog 33 #[strV wView, v] W fun e w' => e = .returned (strV (lineN wView [x.s.m1, x.s.m2, x.s.m3, x.s.m4, x.s.m5, x.s.m6, x.s.m7])) ∧ Below W.heap.size W w') := fun W v h => rline_any _ _ _ _ h hN3 (by decide) (by simp)
  have HE3 : Hid ((lineN wView [x.s.m1, x.s.m2, x.s.m3, x.s.m4, x.s.m5, x.s.m6, x.s.m7]).length ≤ 200) := by
    have := joinB_len wView _ hN3
    simp only [List.length_cons, List.length_nil] at this
    have : wView.length ≤ 10 := by decide
    show _ ≤ _
    omega
  clear hN3
  generalize lineN wView [x.s.m1, x.s.m2, x.s.m3, x.s.m4, x.s.m5, x.s.m6, x.s.m7] = L3 at *
  have hN4 : ∀ n ∈ [x.s.hi, x.s.lf, x.s.wt], inI n := by simp only [List.mem_cons, List.not_mem_nil, or_false, forall_eq_or_imp, forall_eq]; exact ⟨hI.2.2.2.2.2.2.2.2.2.2.2.2.2.2.2.2.2.1, hI.2.2.2.2.2.2.2.2.2.2.2.2.2.2.2.2.2.2.1, hI.2.2.2.2.2.2.2.2.2.2.2.2.2.2.2.2.2.2.2⟩
  have HN4 : Hid (∀ W v, Rd (encI .i64) 1 W v [x.s.hi, x.s.lf, x.s.wt] → Calls Tryd.prog 33 #[strV wHost, v] W fun e w' => e = .returned (strV (lineN wHost [x.s.hi, x.s.lf, x.s.wt])) ∧ Below W.heap.size W w') := fun W v h => rline_any _ _ _ _ h hN4 (by decide) (by simp)
  have HE4 : Hid ((lineN wHost [x.s.hi, x.s.lf, x.s.wt]).length ≤ 200) := by
    have := joinB_len wHost _ hN4
    simp only [List.length_cons, List.length_nil] at this
    have : wHost.length ≤ 10 := by decide
    show _ ≤ _
    omega
  clear hN4
  generalize lineN wHost [x.s.hi, x.s.lf, x.s.wt] = L4 at *
  generalize decZ (x.ms.length : Int) = LQ at *
  generalize bytesOf x.out = B at *
  obtain ⟨T1, HT1⟩ := cat_ex L1 [10] 300 (by have := HE1.out; simp; omega)
  obtain ⟨T2b, HT2b⟩ := cat_ex L2 [10] 300 (by have := HE2.out; simp; omega)
  obtain ⟨T2, HT2⟩ := cat_ex T1 T2b 600 (by have := HT1.out.2; have := HT2b.out.2; omega)
  obtain ⟨T3b, HT3b⟩ := cat_ex L3 [10] 300 (by have := HE3.out; simp; omega)
  obtain ⟨T3, HT3⟩ := cat_ex T2 T3b 900 (by have := HT2.out.2; have := HT3b.out.2; omega)
  obtain ⟨U1, HU1⟩ := cat_ex L4 [32] 300 (by have := HE4.out; simp; omega)
  obtain ⟨U2, HU2⟩ := cat_ex U1 (hexW B) 11000 (by have := HU1.out.2; have := HHX.out; omega)
  obtain ⟨U3, HU3⟩ := cat_ex U2 [32] 11001 (by have := HU2.out.2; simp; omega)
  obtain ⟨U4, HU4⟩ := cat_ex U3 LQ 11050 (by have := HU3.out.2; have := HEQ.out; omega)
  obtain ⟨U5, HU5⟩ := cat_ex U4 [10] 11060 (by have := HU4.out.2; simp; omega)
  obtain ⟨A0, HT4⟩ := cat_ex T3 U5 12000 (by have := HT3.out.2; have := HU5.out.2; omega)
  have HAC : Hid (A0.length ≤ 12000) := HT4.out.2
  have HTA : Hid (A0 ++ (x.ms.map Mx.k).flatMap inW = oneT x.k) := by
    show _ = _
    rw [← HT.out, ← HT4.out.1, ← HT3.out.1, ← HT2.out.1, ← HT1.out.1, ← HT2b.out.1, ← HT3b.out.1, ← HU5.out.1, ← HU4.out.1, ← HU3.out.1, ← HU2.out.1, ← HU1.out.1]
  clear HT HE1 HE2 HE3 HE4 HHX HEQ
  have HB0 := Lib.hid (below1 w (.cells (encS x.s).toArray 43))
  have HB1 : Hid (Blk (w.alloc (.cells (encS x.s).toArray 43)) w.heap.size 43 (encS x.s).toArray) := Blk.new' rfl
  clear hx hs hI hbit hq0
  go_enter Tryd.func22, Tryd.ntmps22
  go_upto_region 1 with fail
  obtain ⟨w1, hw1⟩ : ∃ w1, w1 = w.alloc (.cells (encS x.s).toArray 43) := ⟨_, rfl⟩
  have hz1 : w.heap.size < w1.heap.size := by rw [hw1]; simp
  rw [← hw1] at HB0 HB1 ⊢
  clear hw1
  obtain ⟨b1, hb1⟩ : ∃ b1, b1 = w.heap.size := ⟨_, rfl⟩
  rw [← hb1] at HB1 ⊢
  have HBB := Lib.hid hb1
  have HZ1 := Lib.hid hz1
  clear hb1 hz1
  go_upto_region 2 with (first | ((with_reducible show wpList _ _ _ (Oper.mk (some 7) _ _ _ _ _ :: _) _ _); refine wpList_loadW W39 rfl rfl (x := .tmp 6) rfl (encN x.s) rfl (HB1.out.sub (s_n _)) ?_) | ((with_reducible show wpList _ _ _ (Oper.mk none _ _ _ _ _ :: _) _ _); refine wpList_boxW W39 rfl rfl rfl (encN x.s) rfl rfl (encN_one _) rfl ?_; go_must (intro W2 HX2 hal hz2; have HX2 := Lib.hid HX2; have HAL := Lib.hid hal; have HZ2 := Lib.hid hz2; clear hal hz2)))
  obtain ⟨b2, hb2⟩ : ∃ b2, b2 = w1.heap.size := ⟨_, rfl⟩
  rw [← hb2] at HX2 ⊢
  have HC0 : Hid (∀ j u, (encS x.s)[j]? = some u → W2.cell? ⟨b1, j, none⟩ = some u) := fun j u h => by rw [HAL.out.cell (show b1 < _ by rw [HBB.out]; exact HZ1.out)]; exact HB1.out.list0 h
  have HC2 : Hid (∀ j u, (encN x.s)[j]? = some u → W2.cell? ⟨b2, j, none⟩ = some u) := fun j u h => HX2.out.list0 h
  have HL1 : Hid (b1 < W2.heap.size) := by have := HZ2.out; have := HBB.out; have := HZ1.out; show _ < _; omega
  have HL2 : Hid (b2 < W2.heap.size) := by have := HZ2.out; show _ < _; omega
  have HWW : Hid (Below w.heap.size w W2) := HB0.out.trans (HAL.out.mono HB0.out.size)
  have HOUT := Lib.hid (HOUT0.out.below HWW.out)
  clear HB1 HX2 HAL HZ2 HZ1 HBB hb2 HB0 HOUT0
  refine wp_region_held_drew (S := (fun X => Below W2.heap.size W2 X)) (by kernel_rfl) ((Below.refl _ W2).drew) (fun hHeld => ?_)
  (refine takeW (i := 0) (v := ?_) rfl (by kernel_rfl) (by kernel_rfl) (by kernel_rfl) (fun _ _ _ h => h) (by rfl) (by assumption) ?_ ?_; rotate_left; (intro W hW; (try dsimp only at hW); go_simp; try with_reducible rfl); (try simp only [Act.put, List.setIfInBounds_toArray, List.set_cons_zero, List.set_cons_succ]))
  (refine takeW (i := 1) rfl (by kernel_rfl) (by kernel_rfl) (by kernel_rfl) (fun _ _ _ h => h) (by rfl) (by assumption) (fun W hW => exec_load1 (v := .int .i64 x.s.r) FL3 rfl rfl (at2 hW HL1.out (HC0.out 0 _ rfl))) ?_; (try simp only [Act.put, List.setIfInBounds_toArray, List.set_cons_zero, List.set_cons_succ]))
  (refine takeW (i := 2) (v := ?_) rfl (by kernel_rfl) (by kernel_rfl) (by kernel_rfl) (fun _ _ _ h => h) (by rfl) (by assumption) ?_ ?_; rotate_left; (intro W hW; (try dsimp only at hW); go_simp; try with_reducible rfl); (try simp only [Act.put, List.setIfInBounds_toArray, List.set_cons_zero, List.set_cons_succ]))
  (refine takeW (i := 3) rfl (by kernel_rfl) (by kernel_rfl) (by kernel_rfl) (fun _ _ _ h => h) (by rfl) (by assumption) (fun W hW => exec_load1 (v := .int .i64 x.s.i) FL3 rfl rfl (at2 hW HL2.out (HC2.out 0 _ rfl))) ?_; (try simp only [Act.put, List.setIfInBounds_toArray, List.set_cons_zero, List.set_cons_succ]))
  (refine takeW (i := 4) (v := ?_) rfl (by kernel_rfl) (by kernel_rfl) (by kernel_rfl) (fun _ _ _ h => h) (by rfl) (by assumption) ?_ ?_; rotate_left; (intro W hW; (try dsimp only at hW); go_simp; try with_reducible rfl); (try simp only [Act.put, List.setIfInBounds_toArray, List.set_cons_zero, List.set_cons_succ]))
  (refine takeW (i := 5) rfl (by kernel_rfl) (by kernel_rfl) (by kernel_rfl) (fun _ _ _ h => h) (by rfl) (by assumption) (fun W hW => exec_load1 (v := .int .i64 x.s.s) FL3 rfl rfl (at2 hW HL2.out (HC2.out 1 _ rfl))) ?_; (try simp only [Act.put, List.setIfInBounds_toArray, List.set_cons_zero, List.set_cons_succ]))
  (refine takeW (i := 6) (v := ?_) rfl (by kernel_rfl) (by kernel_rfl) (by kernel_rfl) (fun _ _ _ h => h) (by rfl) (by assumption) ?_ ?_; rotate_left; (intro W hW; (try dsimp only at hW); go_simp; try with_reducible rfl); (try simp only [Act.put, List.setIfInBounds_toArray, List.set_cons_zero, List.set_cons_succ]))
  (refine takeW (i := 7) rfl (by kernel_rfl) (by kernel_rfl) (by kernel_rfl) (fun _ _ _ h => h) (by rfl) (by assumption) (fun W hW => exec_load1 (v := .int .i64 x.s.tm) FL3 rfl rfl (at2 hW HL2.out (HC2.out 14 _ rfl))) ?_; (try simp only [Act.put, List.setIfInBounds_toArray, List.set_cons_zero, List.set_cons_succ]))
  (refine takeW (i := 8) (v := ?_) rfl (by kernel_rfl) (by kernel_rfl) (by kernel_rfl) (fun _ _ _ h => h) (by rfl) (by assumption) ?_ ?_; rotate_left; (intro W hW; (try dsimp only at hW); go_simp; try with_reducible rfl); (try simp only [Act.put, List.setIfInBounds_toArray, List.set_cons_zero, List.set_cons_succ]))
  (refine takeW (i := 9) rfl (by kernel_rfl) (by kernel_rfl) (by kernel_rfl) (fun _ _ _ h => h) (by rfl) (by assumption) (fun W hW => exec_load1 (v := .bool x.s.bg) FL4 rfl rfl (at2 hW HL2.out (HC2.out 15 _ rfl))) ?_; (try simp only [Act.put, List.setIfInBounds_toArray, List.set_cons_zero, List.set_cons_succ]))
  (refine takeW (i := 11) (v := ?_) rfl (by kernel_rfl) (by kernel_rfl) (by kernel_rfl) (fun _ _ _ h => h) (by rfl) (by assumption) ?_ ?_; rotate_left; (intro W hW; (try dsimp only at hW); go_simp; try with_reducible rfl); (try simp only [Act.put, List.setIfInBounds_toArray, List.set_cons_zero, List.set_cons_succ]))
  (refine takeW (i := 12) rfl (by kernel_rfl) (by kernel_rfl) (by kernel_rfl) (fun _ _ _ h => h) (by rfl) (by assumption) (fun W hW => exec_load1 (v := .int .i64 x.s.su) FL3 rfl rfl (at2 hW HL2.out (HC2.out 16 _ rfl))) ?_; (try simp only [Act.put, List.setIfInBounds_toArray, List.set_cons_zero, List.set_cons_succ]))
  refine takeC (i := 10) rfl (by kernel_rfl) (by rfl) (fun K hK => ?_)
  go_simp
  refine (rtruth_any _ _).mono ?_
  rintro e w1 ⟨rfl, hw1⟩
  subst hw1
  refine hK.out _ _ (hHeld) (fun hHeld => ?_)
  clear hK K
  (try simp only [Act.put, List.setIfInBounds_toArray, List.set_cons_zero, List.set_cons_succ])
  refine takeE (i := 13) rfl (by kernel_rfl) (by rfl) (exec_bI6 rfl rfl rfl rfl rfl rfl rfl) ?_
  rintro v1 W3 ⟨hr3, hb3⟩
  have HR3 := Lib.hid hr3
  have HW3 := Lib.hid (hHeld.trans (hb3.mono hHeld.size))
  clear hr3 hb3 hHeld
  refine ⟨HW3.out, ?_⟩
  (try simp only [Act.put, List.setIfInBounds_toArray, List.set_cons_zero, List.set_cons_succ])
  refine takeC (i := 14) rfl (by kernel_rfl) (by rfl) (fun K hK => ?_)
  go_simp
  refine (HN1.out _ _ HR3.out).mono ?_
  rintro e W4 ⟨rfl, hb4⟩
  have HW4 := Lib.hid (HW3.out.trans (hb4.mono HW3.out.size))
  clear hb4 HR3 HW3
  refine hK.out _ _ (HW4.out) (fun hHeld => ?_)
  clear hK K
  (try simp only [Act.put, List.setIfInBounds_toArray, List.set_cons_zero, List.set_cons_succ])
  (refine takeW (i := 15) rfl (by kernel_rfl) (by kernel_rfl) (by kernel_rfl) (fun _ _ _ h => h) (by rfl) (by assumption) (fun W hW => exec_catE HT1 (by omega) rfl rfl rfl) ?_; (try simp only [Act.put, List.setIfInBounds_toArray, List.set_cons_zero, List.set_cons_succ]))
  (refine takeW (i := 16) (v := ?_) rfl (by kernel_rfl) (by kernel_rfl) (by kernel_rfl) (fun _ _ _ h => h) (by rfl) (by assumption) ?_ ?_; rotate_left; (intro W hW; (try dsimp only at hW); go_simp; try with_reducible rfl); (try simp only [Act.put, List.setIfInBounds_toArray, List.set_cons_zero, List.set_cons_succ]))
  refine wpAnyH_done (by kernel_rfl) ?_ _
  clear hHeld
  go_wp2_with (first | ((with_reducible show wpList _ _ _ (Oper.mk (some 27) _ _ _ _ _ :: _) _ _); refine wpList_val rfl (exec_load1 (v := .int .i64 x.s.t1) FL3 rfl rfl (at2 HW4.out HL2.out (HC2.out 2 _ rfl))) ?_) | ((with_reducible show wpList _ _ _ (Oper.mk (some 30) _ _ _ _ _ :: _) _ _); refine wpList_val rfl (exec_load1 (v := .int .i64 x.s.t2) FL3 rfl rfl (at2 HW4.out HL2.out (HC2.out 3 _ rfl))) ?_) | ((with_reducible show wpList _ _ _ (Oper.mk (some 33) _ _ _ _ _ :: _) _ _); refine wpList_val rfl (exec_load1 (v := .int .i64 x.s.t3) FL3 rfl rfl (at2 HW4.out HL2.out (HC2.out 4 _ rfl))) ?_) | ((with_reducible show wpList _ _ _ (Oper.mk (some 36) _ _ _ _ _ :: _) _ _); refine wpList_val rfl (exec_load1 (v := .int .i64 x.s.t4) FL3 rfl rfl (at2 HW4.out HL2.out (HC2.out 5 _ rfl))) ?_) | ((with_reducible show wpList _ _ _ (Oper.mk (some 39) _ _ _ _ _ :: _) _ _); refine wpList_val rfl (exec_load1 (v := .int .i64 x.s.t5) FL3 rfl rfl (at2 HW4.out HL2.out (HC2.out 6 _ rfl))) ?_) | ((with_reducible show wpList _ _ _ (Oper.mk (some 40) _ _ _ _ _ :: _) _ _); refine wpList_ex rfl (exec_bI5 rfl rfl rfl rfl rfl rfl) ?_; rintro v1 W5 ⟨hr5, hb5⟩; have HR5 := Lib.hid hr5; have HW5 := Lib.hid (HW4.out.trans (hb5.mono HW4.out.size)); clear hr5 hb5))
  refine (HN2.out _ _ HR5.out).mono ?_
  rintro e W6 ⟨rfl, hb6⟩
  have HW6 := Lib.hid (HW5.out.trans (hb6.mono HW5.out.size))
  clear hb6 HR5 HW5 HW4 HN1 HN2
  go_wp2_with (first | ((with_reducible show wpList _ _ _ (Oper.mk (some 42) _ _ _ _ _ :: _) _ _); refine wpList_val rfl (exec_catE HT2b (by omega) rfl rfl rfl) ?_) | ((with_reducible show wpList _ _ _ (Oper.mk (some 43) _ _ _ _ _ :: _) _ _); refine wpList_val rfl (exec_catE HT2 (by omega) rfl rfl rfl) ?_) | ((with_reducible show wpList _ _ _ (Oper.mk (some 47) _ _ _ _ _ :: _) _ _); refine wpList_val rfl (exec_load1 (v := .int .i64 x.s.m1) FL3 rfl rfl (at2 HW6.out HL2.out (HC2.out 7 _ rfl))) ?_) | ((with_reducible show wpList _ _ _ (Oper.mk (some 50) _ _ _ _ _ :: _) _ _); refine wpList_val rfl (exec_load1 (v := .int .i64 x.s.m2) FL3 rfl rfl (at2 HW6.out HL2.out (HC2.out 8 _ rfl))) ?_) | ((with_reducible show wpList _ _ _ (Oper.mk (some 53) _ _ _ _ _ :: _) _ _); refine wpList_val rfl (exec_load1 (v := .int .i64 x.s.m3) FL3 rfl rfl (at2 HW6.out HL2.out (HC2.out 9 _ rfl))) ?_) | ((with_reducible show wpList _ _ _ (Oper.mk (some 56) _ _ _ _ _ :: _) _ _); refine wpList_val rfl (exec_load1 (v := .int .i64 x.s.m4) FL3 rfl rfl (at2 HW6.out HL2.out (HC2.out 10 _ rfl))) ?_) | ((with_reducible show wpList _ _ _ (Oper.mk (some 59) _ _ _ _ _ :: _) _ _); refine wpList_val rfl (exec_load1 (v := .int .i64 x.s.m5) FL3 rfl rfl (at2 HW6.out HL2.out (HC2.out 11 _ rfl))) ?_) | ((with_reducible show wpList _ _ _ (Oper.mk (some 62) _ _ _ _ _ :: _) _ _); refine wpList_val rfl (exec_load1 (v := .int .i64 x.s.m6) FL3 rfl rfl (at2 HW6.out HL2.out (HC2.out 12 _ rfl))) ?_) | ((with_reducible show wpList _ _ _ (Oper.mk (some 65) _ _ _ _ _ :: _) _ _); refine wpList_val rfl (exec_load1 (v := .int .i64 x.s.m7) FL3 rfl rfl (at2 HW6.out HL2.out (HC2.out 13 _ rfl))) ?_) | ((with_reducible show wpList _ _ _ (Oper.mk (some 66) _ _ _ _ _ :: _) _ _); refine wpList_ex rfl (exec_bI7 rfl rfl rfl rfl rfl rfl rfl rfl) ?_; rintro v1 W7 ⟨hr7, hb7⟩; have HR7 := Lib.hid hr7; have HW7 := Lib.hid (HW6.out.trans (hb7.mono HW6.out.size)); clear hr7 hb7))
  refine (HN3.out _ _ HR7.out).mono ?_
  rintro e W8 ⟨rfl, hb8⟩
  have HW8 := Lib.hid (HW7.out.trans (hb8.mono HW7.out.size))
  clear hb8 HR7 HW7 HW6 HN3
  go_upto_region 5 with (first | ((with_reducible show wpList _ _ _ (Oper.mk (some 68) _ _ _ _ _ :: _) _ _); refine wpList_val rfl (exec_catE HT3b (by omega) rfl rfl rfl) ?_) | ((with_reducible show wpList _ _ _ (Oper.mk (some 69) _ _ _ _ _ :: _) _ _); refine wpList_val rfl (exec_catE HT3 (by omega) rfl rfl rfl) ?_))
  refine wp_region_held_drew (S := (fun X => Below W2.heap.size W2 X)) (by kernel_rfl) (HW8.out.drew) (fun hHeld => ?_)
  (refine takeW (i := 0) (v := ?_) rfl (by kernel_rfl) (by kernel_rfl) (by kernel_rfl) (fun _ _ _ h => h) (by rfl) (by assumption) ?_ ?_; rotate_left; (intro W hW; (try dsimp only at hW); go_simp; try with_reducible rfl); (try simp only [Act.put, List.setIfInBounds_toArray, List.set_cons_zero, List.set_cons_succ]))
  (refine takeW (i := 1) (v := ?_) rfl (by kernel_rfl) (by kernel_rfl) (by kernel_rfl) (fun _ _ _ h => h) (by rfl) (by assumption) ?_ ?_; rotate_left; (intro W hW; (try dsimp only at hW); go_simp; try with_reducible rfl); (try simp only [Act.put, List.setIfInBounds_toArray, List.set_cons_zero, List.set_cons_succ]))
  (refine takeW (i := 2) (v := ?_) rfl (by kernel_rfl) (by kernel_rfl) (by kernel_rfl) (fun _ _ _ h => h) (by rfl) (by assumption) ?_ ?_; rotate_left; (intro W hW; (try dsimp only at hW); go_simp; try with_reducible rfl); (try simp only [Act.put, List.setIfInBounds_toArray, List.set_cons_zero, List.set_cons_succ]))
  (refine takeW (i := 3) rfl (by kernel_rfl) (by kernel_rfl) (by kernel_rfl) (fun _ _ _ h => h) (by rfl) (by assumption) (fun W hW => exec_load1 (v := .int .i64 x.s.hi) FL3 rfl rfl (at2 hW HL2.out (HC2.out 17 _ rfl))) ?_; (try simp only [Act.put, List.setIfInBounds_toArray, List.set_cons_zero, List.set_cons_succ]))
  (refine takeW (i := 4) (v := ?_) rfl (by kernel_rfl) (by kernel_rfl) (by kernel_rfl) (fun _ _ _ h => h) (by rfl) (by assumption) ?_ ?_; rotate_left; (intro W hW; (try dsimp only at hW); go_simp; try with_reducible rfl); (try simp only [Act.put, List.setIfInBounds_toArray, List.set_cons_zero, List.set_cons_succ]))
  (refine takeW (i := 5) (v := ?_) rfl (by kernel_rfl) (by kernel_rfl) (by kernel_rfl) (fun _ _ _ h => h) (by rfl) (by assumption) ?_ ?_; rotate_left; (intro W hW; (try dsimp only at hW); go_simp; try with_reducible rfl); (try simp only [Act.put, List.setIfInBounds_toArray, List.set_cons_zero, List.set_cons_succ]))
  (refine takeW (i := 6) rfl (by kernel_rfl) (by kernel_rfl) (by kernel_rfl) (fun _ _ _ h => h) (by rfl) (by assumption) (fun W hW => exec_load1 (v := .int .i64 x.s.lf) FL3 rfl rfl (at2 hW HL2.out (HC2.out 20 _ rfl))) ?_; (try simp only [Act.put, List.setIfInBounds_toArray, List.set_cons_zero, List.set_cons_succ]))
  (refine takeW (i := 7) (v := ?_) rfl (by kernel_rfl) (by kernel_rfl) (by kernel_rfl) (fun _ _ _ h => h) (by rfl) (by assumption) ?_ ?_; rotate_left; (intro W hW; (try dsimp only at hW); go_simp; try with_reducible rfl); (try simp only [Act.put, List.setIfInBounds_toArray, List.set_cons_zero, List.set_cons_succ]))
  (refine takeW (i := 8) (v := ?_) rfl (by kernel_rfl) (by kernel_rfl) (by kernel_rfl) (fun _ _ _ h => h) (by rfl) (by assumption) ?_ ?_; rotate_left; (intro W hW; (try dsimp only at hW); go_simp; try with_reducible rfl); (try simp only [Act.put, List.setIfInBounds_toArray, List.set_cons_zero, List.set_cons_succ]))
  (refine takeW (i := 9) rfl (by kernel_rfl) (by kernel_rfl) (by kernel_rfl) (fun _ _ _ h => h) (by rfl) (by assumption) (fun W hW => exec_load1 (v := .int .i64 x.s.wt) FL3 rfl rfl (at2 hW HL2.out (HC2.out 21 _ rfl))) ?_; (try simp only [Act.put, List.setIfInBounds_toArray, List.set_cons_zero, List.set_cons_succ]))
  (refine takeW (i := 13) (v := ?_) rfl (by kernel_rfl) (by kernel_rfl) (by kernel_rfl) (fun _ _ _ h => h) (by rfl) (by assumption) ?_ ?_; rotate_left; (intro W hW; (try dsimp only at hW); go_simp; try with_reducible rfl); (try simp only [Act.put, List.setIfInBounds_toArray, List.set_cons_zero, List.set_cons_succ]))
  (refine takeW (i := 14) (v := ?_) rfl (by kernel_rfl) (by kernel_rfl) (by kernel_rfl) (fun _ _ _ h => h) (by rfl) (by assumption) ?_ ?_; rotate_left; (intro W hW; (try dsimp only at hW); go_simp; try with_reducible rfl); (try simp only [Act.put, List.setIfInBounds_toArray, List.set_cons_zero, List.set_cons_succ]))
  (refine takeW (i := 15) rfl (by kernel_rfl) (by kernel_rfl) (by kernel_rfl) (fun _ _ _ h => h) (by rfl) (by assumption) (fun W hW => exec_load1 (v := .slice x.s.oa x.s.on x.s.oc) F36 rfl rfl (at2 hW HL2.out (HC2.out 18 _ rfl))) ?_; (try simp only [Act.put, List.setIfInBounds_toArray, List.set_cons_zero, List.set_cons_succ]))
  (refine takeW (i := 19) (v := ?_) rfl (by kernel_rfl) (by kernel_rfl) (by kernel_rfl) (fun _ _ _ h => h) (by rfl) (by assumption) ?_ ?_; rotate_left; (intro W hW; (try dsimp only at hW); go_simp; try with_reducible rfl); (try simp only [Act.put, List.setIfInBounds_toArray, List.set_cons_zero, List.set_cons_succ]))
  (refine takeW (i := 20) (v := ?_) rfl (by kernel_rfl) (by kernel_rfl) (by kernel_rfl) (fun _ _ _ h => h) (by rfl) (by assumption) ?_ ?_; rotate_left; (intro W hW; (try dsimp only at hW); go_simp; try with_reducible rfl); (try simp only [Act.put, List.setIfInBounds_toArray, List.set_cons_zero, List.set_cons_succ]))
  (refine takeW (i := 21) rfl (by kernel_rfl) (by kernel_rfl) (by kernel_rfl) (fun _ _ _ h => h) (by rfl) (by assumption) (fun W hW => exec_load1 (v := .slice x.s.ia x.s.nn x.s.ic) F37 rfl rfl (at2 hW HL2.out (HC2.out 19 _ rfl))) ?_; (try simp only [Act.put, List.setIfInBounds_toArray, List.set_cons_zero, List.set_cons_succ]))
  (refine takeW (i := 22) (v := ?_) rfl (by kernel_rfl) (by kernel_rfl) (by kernel_rfl) (fun _ _ _ h => h) (by rfl) (by assumption) ?_ ?_; rotate_left; (intro W hW; (try dsimp only at hW); go_simp; try with_reducible rfl); (try simp only [Act.put, List.setIfInBounds_toArray, List.set_cons_zero, List.set_cons_succ]))
  refine takeE (i := 10) rfl (by kernel_rfl) (by rfl) (exec_bI3 rfl rfl rfl rfl) ?_
  rintro v1 W7 ⟨hr7, hb7⟩
  have HR7 := Lib.hid hr7
  have HW7 := Lib.hid (hHeld.trans (hb7.mono hHeld.size))
  clear hr7 hb7 hHeld
  refine ⟨HW7.out, ?_⟩
  (try simp only [Act.put, List.setIfInBounds_toArray, List.set_cons_zero, List.set_cons_succ])
  refine takeC (i := 11) rfl (by kernel_rfl) (by rfl) (fun K hK => ?_)
  go_simp
  refine (HN4.out _ _ HR7.out).mono ?_
  rintro e W8 ⟨rfl, hb8⟩
  have HW8 := Lib.hid (HW7.out.trans (hb8.mono HW7.out.size))
  clear hb8 HR7 HW7
  refine hK.out _ _ (HW8.out) (fun hHeld => ?_)
  clear hK K
  (try simp only [Act.put, List.setIfInBounds_toArray, List.set_cons_zero, List.set_cons_succ])
  (refine takeW (i := 12) rfl (by kernel_rfl) (by kernel_rfl) (by kernel_rfl) (fun _ _ _ h => h) (by rfl) (by assumption) (fun W hW => exec_catE HU1 (by omega) rfl rfl rfl) ?_; (try simp only [Act.put, List.setIfInBounds_toArray, List.set_cons_zero, List.set_cons_succ]))
  refine takeC (i := 16) rfl (by kernel_rfl) (by rfl) (fun K hK => ?_)
  go_simp
  refine (rhex_any B _ _ (HOUT.out.below HW8.out) HBL.out).mono ?_
  rintro e W9 ⟨rfl, hb9⟩
  have HW9 := Lib.hid (HW8.out.trans (hb9.mono HW8.out.size))
  clear hb9 HW8 hHeld
  refine hK.out _ _ (HW9.out) (fun hHeld => ?_)
  clear hK K
  (try simp only [Act.put, List.setIfInBounds_toArray, List.set_cons_zero, List.set_cons_succ])
  (refine takeW (i := 17) rfl (by kernel_rfl) (by kernel_rfl) (by kernel_rfl) (fun _ _ _ h => h) (by rfl) (by assumption) (fun W hW => exec_catE HU2 (by omega) rfl rfl rfl) ?_; (try simp only [Act.put, List.setIfInBounds_toArray, List.set_cons_zero, List.set_cons_succ]))
  (refine takeW (i := 18) rfl (by kernel_rfl) (by kernel_rfl) (by kernel_rfl) (fun _ _ _ h => h) (by rfl) (by assumption) (fun W hW => exec_catE HU3 (by omega) rfl rfl rfl) ?_; (try simp only [Act.put, List.setIfInBounds_toArray, List.set_cons_zero, List.set_cons_succ]))
  refine takeC (i := 23) rfl (by kernel_rfl) (by rfl) (fun K hK => ?_)
  go_simp
  refine (HNQ.out _).mono ?_
  rintro e W10 ⟨rfl, hb10⟩
  have HW10 := Lib.hid (HW9.out.trans (hb10.mono HW9.out.size))
  clear hb10 HW9 hHeld
  refine hK.out _ _ (HW10.out) (fun hHeld => ?_)
  clear hK K
  (try simp only [Act.put, List.setIfInBounds_toArray, List.set_cons_zero, List.set_cons_succ])
  (refine takeW (i := 24) rfl (by kernel_rfl) (by kernel_rfl) (by kernel_rfl) (fun _ _ _ h => h) (by rfl) (by assumption) (fun W hW => exec_catE HU4 (by omega) rfl rfl rfl) ?_; (try simp only [Act.put, List.setIfInBounds_toArray, List.set_cons_zero, List.set_cons_succ]))
  (refine takeW (i := 25) rfl (by kernel_rfl) (by kernel_rfl) (by kernel_rfl) (fun _ _ _ h => h) (by rfl) (by assumption) (fun W hW => exec_catE HU5 (by omega) rfl rfl rfl) ?_; (try simp only [Act.put, List.setIfInBounds_toArray, List.set_cons_zero, List.set_cons_succ]))
  (refine takeW (i := 26) rfl (by kernel_rfl) (by kernel_rfl) (by kernel_rfl) (fun _ _ _ h => h) (by rfl) (by assumption) (fun W hW => exec_catE HT4 (by omega) rfl rfl rfl) ?_; (try simp only [Act.put, List.setIfInBounds_toArray, List.set_cons_zero, List.set_cons_succ]))
  (refine takeW (i := 27) (v := ?_) rfl (by kernel_rfl) (by kernel_rfl) (by kernel_rfl) (fun _ _ _ h => h) (by rfl) (by assumption) ?_ ?_; rotate_left; (intro W hW; (try dsimp only at hW); go_simp; try with_reducible rfl); (try simp only [Act.put, List.setIfInBounds_toArray, List.set_cons_zero, List.set_cons_succ]))
  refine wpAnyH_done (by kernel_rfl) ?_ _
  have HW10 := Lib.hid hHeld
  clear hHeld
  clear HNQ HN4 HBL HOUT
  obtain ⟨q, hq⟩ : ∃ q, q = x.s.nn := ⟨_, rfl⟩
  have hq5' : q ≤ 50 := by omega
  have HQ2 : Hid (x.ms.length = q) := by show _ = _; rw [HQ.out, hq]
  have HS0 : Hid (W2.cell? ⟨b2, 19, none⟩ = some (.slice x.s.ia q x.s.ic)) := by show _ = _; rw [hq]; exact HC2.out 19 _ rfl
  clear HQ hq5 hq HC0 HL1
  go_wp2
  go_loopw [4, 5] (fun u i wr => ∃ (k : Nat) (acc : List UInt8), k ≤ q ∧ i = .int .i64 k ∧ u = strV acc ∧ Hid (acc = A0 ++ (x.ms.take k).flatMap (fun m => inW m.k)) ∧ Hid (acc.length ≤ 12000 + 10100 * k) ∧ Hid (Below W2.heap.size W2 wr)) (fun _ i _ => q - (intOf i).toNat)
  case atStart => exact ⟨0, A0, Nat.zero_le _, rfl, rfl, Lib.hid (by simp), Lib.hid (by have := HAC.out; omega), HW10.out⟩
  case round =>
    clear HW10 HAC
    obtain ⟨k, acc, hk, rfl, rfl, HA, HAL, HW⟩ := hrel
    obtain ⟨wo, rfl⟩ : ∃ wo : World, wo = wr := ⟨_, rfl⟩
    by_cases hlt : k < q
    · obtain ⟨m, hm⟩ : ∃ m, x.ms[k]? = some m := ⟨_, List.getElem?_eq_getElem (by rw [HQ2.out]; exact hlt)⟩
      obtain ⟨mb, mo, hia, hml, hmc⟩ := HINN0.out.row (by rintro e; rw [e] at hm; simp at hm)
      have HS19 : Hid (W2.cell? ⟨b2, 19, none⟩ = some (.slice (some ⟨mb, mo, none⟩) q x.s.ic)) := by have := HS0.out; rwa [hia] at this
      have HM0 : Hid (W2.cell? ⟨mb, mo + k * 2, none⟩ = some m.d.v) := by show _ = _; rw [HWW.out.cell hml]; exact hmc k m hm 0 _ rfl
      have HM1 : Hid (W2.cell? ⟨mb, mo + k * 2 + 1, none⟩ = some (.int .i64 m.age)) := by show _ = _; rw [HWW.out.cell hml]; exact hmc k m hm 1 _ rfl
      have HLM : Hid (mb < W2.heap.size) := Nat.lt_of_lt_of_le hml HWW.out.size
      have hgm := HEACH0.out m (List.mem_of_getElem? hm)
      have HMD := Lib.hid ((bys_of hgm.1).below HWW.out)
      have hds := HSM.out m (List.mem_of_getElem? hm)
      have HDL : Hid ((bytesOf m.d.l).length ≤ 1000000000) := by show _ ≤ _; unfold bytesOf; simp; omega
      have HHD : Hid ((hexW (bytesOf m.d.l)).length ≤ 10001) := by show _ ≤ _; rw [hexW_len]; unfold bytesOf; simp; omega
      have hag : inI m.age := hgm.2
      have HNM : Hid (∀ W v, Rd (encI .i64) 1 W v [m.age] → Calls Tryd.prog 33 #[strV wIn, v] W fun e w' => e = .returned (strV (lineN wIn [m.age])) ∧ Below W.heap.size W w') := fun W v h => rline_any _ _ _ _ h (by simpa using hag) (by decide) (by simp)
      have HEM : Hid ((lineN wIn [m.age]).length ≤ 40) := by show _ ≤ _; have := joinB_len wIn [m.age] (by simpa using hag); simp only [List.length_cons, List.length_nil] at this; have : wIn.length = 2 := rfl; omega
      have HTX : Hid (acc ++ (((lineN wIn [m.age] ++ [32]) ++ hexW (bytesOf m.d.l)) ++ [10]) = A0 ++ (x.ms.take (k + 1)).flatMap (fun m => inW m.k)) := by
        show _ = _
        obtain ⟨hk1, e⟩ := List.getElem?_eq_some_iff.1 hm
        rw [in_text, HA.out, List.take_succ_eq_append_getElem hk1, e, List.flatMap_append]
        simp
      have hal : acc.length ≤ 12000 + 10100 * k := HAL.out
      clear hm hia hml hmc hgm hds hag HA HAL
      generalize lineN wIn [m.age] = LM at *
      generalize bytesOf m.d.l = D at *
      obtain ⟨V1, HV1⟩ := cat_ex LM [32] 41 (by have := HEM.out; simp; omega)
      obtain ⟨V2, HV2⟩ := cat_ex V1 (hexW D) 10042 (by have := HV1.out.2; have := HHD.out; omega)
      obtain ⟨V3, HV3⟩ := cat_ex V2 [10] 10043 (by have := HV2.out.2; simp; omega)
      obtain ⟨V4, HV4⟩ := cat_ex acc V3 (12000 + 10100 * (k + 1)) (by have := HV3.out.2; omega)
      have HF4 : Hid (V4 = A0 ++ (x.ms.take (k + 1)).flatMap (fun m => inW m.k)) := by show _ = _; rw [← HTX.out, ← HV4.out.1, ← HV3.out.1, ← HV2.out.1, ← HV1.out.1]
      clear HTX HEM HHD
      go_upto_region 9 with ((with_reducible show wpList _ _ _ (Oper.mk (some 100) _ _ _ _ _ :: _) _ _); refine wpList_val rfl (exec_load1 (v := .slice x.s.ia _ x.s.ic) F37 rfl rfl (at2 HW.out HL2.out HS0.out)) ?_)
      refine wp_region_held_drew (S := (fun X => Below W2.heap.size W2 X)) (by kernel_rfl) (HW.out.drew) (fun hHeld => ?_)
      (refine takeW (i := 0) (v := ?_) rfl (by kernel_rfl) (by kernel_rfl) (by kernel_rfl) (fun _ _ _ h => h) (by rfl) (by assumption) ?_ ?_; rotate_left; (intro W hW; (try dsimp only at hW); go_simp; try with_reducible rfl); (try simp only [Act.put, List.setIfInBounds_toArray, List.set_cons_zero, List.set_cons_succ]))
      (refine takeW (i := 1) (v := ?_) rfl (by kernel_rfl) (by kernel_rfl) (by kernel_rfl) (fun _ _ _ h => h) (by rfl) (by assumption) ?_ ?_; rotate_left; (intro W hW; (try dsimp only at hW); go_simp; try with_reducible rfl); (try simp only [Act.put, List.setIfInBounds_toArray, List.set_cons_zero, List.set_cons_succ]))
      (refine takeW (i := 2) (v := ?_) rfl (by kernel_rfl) (by kernel_rfl) (by kernel_rfl) (fun _ _ _ h => h) (by rfl) (by assumption) ?_ ?_; rotate_left; (intro W hW; (try dsimp only at hW); go_simp; try with_reducible rfl); (try simp only [Act.put, List.setIfInBounds_toArray, List.set_cons_zero, List.set_cons_succ]))
      (refine takeW (i := 3) rfl (by kernel_rfl) (by kernel_rfl) (by kernel_rfl) (fun _ _ _ h => h) (by rfl) (by assumption) (fun W hW => exec_load1 (v := .slice (some ⟨mb, mo, none⟩) q x.s.ic) F37 rfl rfl (at2 hW HL2.out HS19.out)) ?_; (try simp only [Act.put, List.setIfInBounds_toArray, List.set_cons_zero, List.set_cons_succ]))
      (refine takeW (i := 4) (v := ?_) rfl (by kernel_rfl) (by kernel_rfl) (by kernel_rfl) (fun _ _ _ h => h) (by rfl) (by assumption) ?_ ?_; rotate_left; (intro W hW; (try dsimp only at hW); go_simp; try with_reducible rfl); (try simp only [Act.put, List.setIfInBounds_toArray, List.set_cons_zero, List.set_cons_succ]))
      (refine takeW (i := 5) (v := ?_) rfl (by kernel_rfl) (by kernel_rfl) (by kernel_rfl) (fun _ _ _ h => h) (by rfl) (by assumption) ?_ ?_; rotate_left; (intro W hW; (try dsimp only at hW); go_simp; try with_reducible rfl); (try simp only [Act.put, List.setIfInBounds_toArray, List.set_cons_zero, List.set_cons_succ]))
      (refine takeW (i := 6) (v := ?_) rfl (by kernel_rfl) (by kernel_rfl) (by kernel_rfl) (fun _ _ _ h => h) (by rfl) (by assumption) ?_ ?_; rotate_left; (intro W hW; (try dsimp only at hW); go_simp; try with_reducible rfl); (try simp only [Act.put, List.setIfInBounds_toArray, List.set_cons_zero, List.set_cons_succ]))
      (refine takeW (i := 7) rfl (by kernel_rfl) (by kernel_rfl) (by kernel_rfl) (fun _ _ _ h => h) (by rfl) (by assumption) (fun W hW => exec_load1 (v := .int .i64 m.age) FL3 rfl rfl (at2 hW HLM.out HM1.out)) ?_; (try simp only [Act.put, List.setIfInBounds_toArray, List.set_cons_zero, List.set_cons_succ]))
      (refine takeW (i := 11) (v := ?_) rfl (by kernel_rfl) (by kernel_rfl) (by kernel_rfl) (fun _ _ _ h => h) (by rfl) (by assumption) ?_ ?_; rotate_left; (intro W hW; (try dsimp only at hW); go_simp; try with_reducible rfl); (try simp only [Act.put, List.setIfInBounds_toArray, List.set_cons_zero, List.set_cons_succ]))
      (refine takeW (i := 12) (v := ?_) rfl (by kernel_rfl) (by kernel_rfl) (by kernel_rfl) (fun _ _ _ h => h) (by rfl) (by assumption) ?_ ?_; rotate_left; (intro W hW; (try dsimp only at hW); go_simp; try with_reducible rfl); (try simp only [Act.put, List.setIfInBounds_toArray, List.set_cons_zero, List.set_cons_succ]))
      (refine takeW (i := 13) rfl (by kernel_rfl) (by kernel_rfl) (by kernel_rfl) (fun _ _ _ h => h) (by rfl) (by assumption) (fun W hW => exec_load1 (v := .slice (some ⟨mb, mo, none⟩) q x.s.ic) F37 rfl rfl (at2 hW HL2.out HS19.out)) ?_; (try simp only [Act.put, List.setIfInBounds_toArray, List.set_cons_zero, List.set_cons_succ]))
      (refine takeW (i := 14) (v := ?_) rfl (by kernel_rfl) (by kernel_rfl) (by kernel_rfl) (fun _ _ _ h => h) (by rfl) (by assumption) ?_ ?_; rotate_left; (intro W hW; (try dsimp only at hW); go_simp; try with_reducible rfl); (try simp only [Act.put, List.setIfInBounds_toArray, List.set_cons_zero, List.set_cons_succ]))
      (refine takeW (i := 15) (v := ?_) rfl (by kernel_rfl) (by kernel_rfl) (by kernel_rfl) (fun _ _ _ h => h) (by rfl) (by assumption) ?_ ?_; rotate_left; (intro W hW; (try dsimp only at hW); go_simp; try with_reducible rfl); (try simp only [Act.put, List.setIfInBounds_toArray, List.set_cons_zero, List.set_cons_succ]))
      (refine takeW (i := 16) (v := ?_) rfl (by kernel_rfl) (by kernel_rfl) (by kernel_rfl) (fun _ _ _ h => h) (by rfl) (by assumption) ?_ ?_; rotate_left; (intro W hW; (try dsimp only at hW); go_simp; try with_reducible rfl); (try simp only [Act.put, List.setIfInBounds_toArray, List.set_cons_zero, List.set_cons_succ]))
      (refine takeW (i := 17) rfl (by kernel_rfl) (by kernel_rfl) (by kernel_rfl) (fun _ _ _ h => h) (by rfl) (by assumption) (fun W hW => exec_load1 (v := m.d.v) F36 rfl rfl (at2 hW HLM.out HM0.out)) ?_; (try simp only [Act.put, List.setIfInBounds_toArray, List.set_cons_zero, List.set_cons_succ]))
      refine takeE (i := 8) rfl (by kernel_rfl) (by rfl) (exec_bI1 rfl rfl) ?_
      rintro v1 W11 ⟨hr11, hb11⟩
      have HR11 := Lib.hid hr11
      have HW11 := Lib.hid (hHeld.trans (hb11.mono hHeld.size))
      clear hr11 hb11 hHeld
      refine ⟨HW11.out, ?_⟩
      (try simp only [Act.put, List.setIfInBounds_toArray, List.set_cons_zero, List.set_cons_succ])
      refine takeC (i := 9) rfl (by kernel_rfl) (by rfl) (fun K hK => ?_)
      go_simp
      refine (HNM.out _ _ HR11.out).mono ?_
      rintro e W12 ⟨rfl, hb12⟩
      have HW12 := Lib.hid (HW11.out.trans (hb12.mono HW11.out.size))
      clear hb12 HR11 HW11
      refine hK.out _ _ (HW12.out) (fun hHeld => ?_)
      clear hK K
      (try simp only [Act.put, List.setIfInBounds_toArray, List.set_cons_zero, List.set_cons_succ])
      (refine takeW (i := 10) rfl (by kernel_rfl) (by kernel_rfl) (by kernel_rfl) (fun _ _ _ h => h) (by rfl) (by assumption) (fun W hW => exec_catE HV1 (by omega) rfl rfl rfl) ?_; (try simp only [Act.put, List.setIfInBounds_toArray, List.set_cons_zero, List.set_cons_succ]))
      refine takeC (i := 18) rfl (by kernel_rfl) (by rfl) (fun K hK => ?_)
      go_simp
      refine (rhex_any D _ _ (HMD.out.below HW12.out) HDL.out).mono ?_
      rintro e W13 ⟨rfl, hb13⟩
      have HW13 := Lib.hid (HW12.out.trans (hb13.mono HW12.out.size))
      clear hb13 HW12 hHeld
      refine hK.out _ _ (HW13.out) (fun hHeld => ?_)
      clear hK K
      (try simp only [Act.put, List.setIfInBounds_toArray, List.set_cons_zero, List.set_cons_succ])
      (refine takeW (i := 19) rfl (by kernel_rfl) (by kernel_rfl) (by kernel_rfl) (fun _ _ _ h => h) (by rfl) (by assumption) (fun W hW => exec_catE HV2 (by omega) rfl rfl rfl) ?_; (try simp only [Act.put, List.setIfInBounds_toArray, List.set_cons_zero, List.set_cons_succ]))
      (refine takeW (i := 20) rfl (by kernel_rfl) (by kernel_rfl) (by kernel_rfl) (fun _ _ _ h => h) (by rfl) (by assumption) (fun W hW => exec_catE HV3 (by omega) rfl rfl rfl) ?_; (try simp only [Act.put, List.setIfInBounds_toArray, List.set_cons_zero, List.set_cons_succ]))
      (refine takeW (i := 21) rfl (by kernel_rfl) (by kernel_rfl) (by kernel_rfl) (fun _ _ _ h => h) (by rfl) (by assumption) (fun W hW => exec_catE HV4 (by omega) rfl rfl rfl) ?_; (try simp only [Act.put, List.setIfInBounds_toArray, List.set_cons_zero, List.set_cons_succ]))
      (refine takeW (i := 22) (v := ?_) rfl (by kernel_rfl) (by kernel_rfl) (by kernel_rfl) (fun _ _ _ h => h) (by rfl) (by assumption) ?_ ?_; rotate_left; (intro W hW; (try dsimp only at hW); go_simp; try with_reducible rfl); (try simp only [Act.put, List.setIfInBounds_toArray, List.set_cons_zero, List.set_cons_succ]))
      refine wpAnyH_done (by kernel_rfl) ?_ _
      have HW13 := Lib.hid hHeld
      clear hHeld
      go_wp2
      go_roundw
      case rel => exact ⟨k + 1, V4, by omega, by go_num, rfl, HF4, Lib.hid HV4.out.2, HW13⟩
      case measure => simp [intOf]; omega
    · obtain rfl : k = q := by omega
      have HF : Hid (acc = oneT x.k) := by
        show _ = _
        rw [HA.out, List.take_of_length_le (by rw [HQ2.out]; exact Nat.le_refl _), ← HTA.out, List.flatMap_map]
      clear HA HAL
      go_wp2_with ((with_reducible show wpList _ _ _ (Oper.mk (some 100) _ _ _ _ _ :: _) _ _); refine wpList_val rfl (exec_load1 (v := .slice x.s.ia _ x.s.ic) F37 rfl rfl (at2 HW.out HL2.out HS0.out)) ?_)
      exact HPO.out _ _ (HWW.out.trans (HW.out.mono HWW.out.size)) HF.out
end Go.Proofs.YtjaaldeaknmmbaaDoor
