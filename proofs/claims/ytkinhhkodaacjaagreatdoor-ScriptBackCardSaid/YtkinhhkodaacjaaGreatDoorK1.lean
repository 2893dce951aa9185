/- The program's text of any script (Print). -/
import Derived.Test.YtkinhhkodaacjaaGreatDoorR9
import Derived.Test.YtkinhhkodaacjaaGreatDoorZ10
import Derived.Test.YtkinhhkodaacjaaGreatDoorSc0
namespace Go.Proofs.YtkinhhkodaacjaaGreatDoor
open Go.RowKit Go.Shelf
open Md
attribute [local go_sem] Oper.semAt_some

/-- What Print asks of a script. -/
structure Prn (w : World) (x : Sc) : Prop where
  good : GoodSc w x
  fts : ∀ f ∈ x.faults, ∀ n ∈ f.fk.ints, inI n
  ups : x.ups.l.length ≤ 16384
  lens : x.offs.l.length ≤ 16384 ∧ x.gates.l.length ≤ 16384 ∧ x.guards.l.length ≤ 16384 ∧ x.drifts.l.length ≤ 16384
  ops : x.ops.length ≤ 20000 ∧ ∀ o ∈ x.ops, o.d.length ≤ 20000
  fl : x.faults.length ≤ 20000
/-- The script's box, the printer's cell. -/
structure SC (x : Sc) (w X : World) : Prop where
  s : Blk X w.heap.size 27 (encSc x).toArray
  t : Blk X (w.heap.size + 2) 59 #[.pointer (some ⟨w.heap.size + 1, 0, none⟩)]
  ct : X.cell? ⟨w.heap.size + 2, 0, none⟩ = some (.pointer (some ⟨w.heap.size + 1, 0, none⟩))
  c0 : X.cell? ⟨w.heap.size, 0, none⟩ = some (.int .i64 x.rounds)
  c1 : X.cell? ⟨w.heap.size, 1, none⟩ = some (.slice x.ups.a x.ups.l.length x.ups.c)
  c2 : X.cell? ⟨w.heap.size, 2, none⟩ = some (.slice x.offs.a x.offs.l.length x.offs.c)
  c3 : X.cell? ⟨w.heap.size, 3, none⟩ = some (.slice x.gates.a x.gates.l.length x.gates.c)
  c4 : X.cell? ⟨w.heap.size, 4, none⟩ = some (.slice x.guards.a x.guards.l.length x.guards.c)
  c5 : X.cell? ⟨w.heap.size, 5, none⟩ = some (.slice x.drifts.a x.drifts.l.length x.drifts.c)
  c6 : X.cell? ⟨w.heap.size, 6, none⟩ = some (.slice x.oa x.ops.length x.oc)
  c7 : X.cell? ⟨w.heap.size, 7, none⟩ = some (.slice x.fa x.faults.length x.fc)
theorem SC.of {x : Sc} {w X : World} (s : Blk X w.heap.size 27 (encSc x).toArray) (t : Blk X (w.heap.size + 2) 59 #[.pointer (some ⟨w.heap.size + 1, 0, none⟩)]) : SC x w X :=
  ⟨s, t, t.cell 0, s.list0 rfl, s.list0 rfl, s.list0 rfl, s.list0 rfl, s.list0 rfl, s.list0 rfl, s.list0 rfl, s.list0 rfl⟩
structure PX (x : Sc) (w X : World) : Prop where
  bel : Below w.heap.size w X
  s : Blk X w.heap.size 27 (encSc x).toArray
  bld : Bld w.heap.size (w.heap.size + 1) [] X
  t : Blk X (w.heap.size + 2) 59 #[.pointer (some ⟨w.heap.size + 1, 0, none⟩)]
theorem PX.keep {x : Sc} {w X Y : World} (h : PX x w X) (hb : Below X.heap.size X Y) : PX x w Y := ⟨h.bel.trans (hb.mono h.bel.size), h.s.keep hb, h.bld.keep hb, h.t.keep hb⟩
theorem PX.sb {x : Sc} {w X : World} (h : PX x w X) : Hid (SC x w X) := SC.of h.s h.t
theorem truths_k (B : Nat) (v : Value) (l : List Bool) (w : World) (h : Rd encB 1 w v l) (hl : l.length ≤ 16384) : Calls Tryz.prog 25 #[v] w fun e w' => (∃ a c, e = .returned (.slice a l.length c) ∧ NumsK B w' (.slice a l.length c) (l.map b2i)) ∧ Below w.heap.size w w' :=
  (truths_any v l w h hl).mono (by
    rintro e w' ⟨⟨v', rfl, ho⟩, hb⟩
    obtain ⟨a, c, rfl, -⟩ := owns_shape ho
    refine ⟨⟨_, _, rfl, ⟨⟨Rd.of_owns (e := 3) (base := w.heap.size) (encI_len .i64) (by rw [encI_flat, List.length_map]; exact ho) (by simp; omega), fun x hx => ?_⟩, fun g o n c e h => ?_⟩⟩, hb⟩
    · obtain ⟨b, _, rfl⟩ := List.mem_map.1 hx
      cases b <;> simp [b2i]
    · rcases ho.2 with ⟨e1, _⟩ | ⟨g', cap, cur, e1, hg, hh, _⟩
      · rw [e] at e1; cases e1
      · rw [e] at e1; cases e1
        exact .inr ⟨_, hh⟩)
theorem ilsK {w W : World} {d : Il} (h : Ils w d) (hb : Below w.heap.size w W) : NumsK w.heap.size W (.slice d.a d.l.length d.c) d.l := by
  refine ⟨⟨h.1.below hb, h.2⟩, fun g o n c e hne => ?_⟩
  obtain ⟨a, cap, e1, q1, q2, q3, q5, q4⟩ := h.1
  rw [e1] at e
  rcases q4 with q4 | ⟨b, off, rfl, hlt, hc⟩
  · exact absurd q4 hne
  · cases e; exact .inl hlt
theorem anyRows {w W : World} {x : Sc} {u v : Value} (h0 : NumsK w.heap.size W u [x.rounds]) (h1 : NumsK w.heap.size W v (x.ups.l.map b2i)) (h : Prn w x) (hb : Below w.heap.size w W) : ∀ (k : Nat) z l, [u, v, .slice x.offs.a x.offs.l.length x.offs.c, .slice x.gates.a x.gates.l.length x.gates.c, .slice x.guards.a x.guards.l.length x.guards.c, .slice x.drifts.a x.drifts.l.length x.drifts.c][k]? = some z → ([[x.rounds], x.ups.l.map b2i, x.offs.l, x.gates.l, x.guards.l, x.drifts.l] : List (List Int))[k]? = some l → NumsK w.heap.size W z l ∧ l.length ≤ 16384 := by
  intro k z l hx hl
  match k with
  | 0 => cases hx; cases hl; exact ⟨h0, by simp⟩
  | 1 => cases hx; cases hl; exact ⟨h1, by rw [List.length_map]; exact h.ups⟩
  | 2 => cases hx; cases hl; exact ⟨ilsK h.good.offs hb, h.lens.1⟩
  | 3 => cases hx; cases hl; exact ⟨ilsK h.good.gates hb, h.lens.2.1⟩
  | 4 => cases hx; cases hl; exact ⟨ilsK h.good.guards hb, h.lens.2.2.1⟩
  | 5 => cases hx; cases hl; exact ⟨ilsK h.good.drifts hb, h.lens.2.2.2⟩
  | k + 6 => cases hx
theorem rd_val {α : Type} {p : α → Prop} {enc : α → List Value} {size : Nat} {W : World} {v : Value} {l : List {y // p y}} (h : Rd enc size W v (l.map Subtype.val)) : Rd (fun y : {y // p y} => enc y.val) size W v l := by
  obtain ⟨a, cap, rfl, q1, q2, q3, q5, q4⟩ := h
  rw [List.length_map] at *
  refine ⟨a, cap, rfl, q1, q2, q3, q5, ?_⟩
  rcases q4 with q4 | ⟨b, off, rfl, hlt, hc⟩
  · exact .inl (List.map_eq_nil_iff.1 q4)
  · exact .inr ⟨b, off, rfl, hlt, fun j y hj i u hu => hc j y.val (by rw [List.getElem?_map, hj]; rfl) i u hu⟩
def sub {α : Type} {p : α → Prop} (l : List α) (h : ∀ y ∈ l, p y) : List {y // p y} := l.attach.map fun y => ⟨y.1, h y.1 y.2⟩
theorem sub_val {α : Type} {p : α → Prop} (l : List α) (h : ∀ y ∈ l, p y) : (sub l h).map Subtype.val = l := by
  unfold sub
  rw [List.map_map]
  exact List.attach_map_subtype_val l
theorem flat_max {α : Type} (f : α → List UInt8) (m : Nat) : ∀ (l : List α), (∀ y ∈ l, (f y).length ≤ m) → (l.flatMap f).length ≤ m * l.length
  | [], _ => by simp
  | y :: l, h => by
    have h1 := flat_max f m l (fun z hz => h z (by simp [hz]))
    have h2 := h y (by simp)
    rw [List.flatMap_cons, List.length_append, List.length_cons, Nat.mul_succ]
    omega
def OpG (w : World) (o : Ho) : Prop := GoodH w o ∧ o.d.length ≤ 20000
def FtG (f : Fa) : Prop := ∀ n ∈ f.fk.ints, inI n
theorem opT_len {w : World} {o : Ho} (h : OpG w o) : (opT o.ok).length ≤ 41000 := by
  rw [opT_eq]
  have h1 := numT_len o.ok.ints (by
    intro n hn
    simp only [Ok.ints, Ho.ok, List.mem_cons, List.not_mem_nil, or_false] at hn
    rcases hn with rfl | rfl | rfl | rfl | rfl
    · exact h.1.n
    · exact h.1.r
    · exact h.1.s
    · exact h.1.k
    · exact h.1.v)
  have h2 := h.2
  have h3 : o.ok.ints.length = 5 := rfl
  have h4 : o.ok.d.length = o.d.length := bytesOf_len _
  unfold lineT
  simp only [List.length_append, hexL_len]
  have h5 : wOp.length = 2 := rfl
  have h6 : ([32, 120] : List UInt8).length = 2 := rfl
  have h7 : ([10] : List UInt8).length = 1 := rfl
  omega
theorem ftT_len {f : Fa} (h : FtG f) : (ftT f.fk).length ≤ 41000 := by
  rw [ftT_eq]
  have h1 := numT_len f.fk.ints h
  have h3 : f.fk.ints.length = 7 := rfl
  unfold lineT
  simp only [List.length_append]
  have h5 : wFault.length = 5 := rfl
  have h7 : ([10] : List UInt8).length = 1 := rfl
  omega
theorem pre_len {w : World} {x : Sc} (h : Prn w x) : (preT x.k 6).length ≤ 3000000 := by
  rw [← heads_rows]
  have e : ∀ (l : List Int), l.length ≤ 16384 → (∀ n ∈ l, -9223372036854775808 ≤ n ∧ n ≤ 9223372036854775807) → (numT l).length ≤ 344064 := fun l h1 h2 => by have := numT_len l h2; omega
  have h0 := e [x.rounds] (by simp) (by intro n hn; rw [List.mem_singleton.1 hn]; exact h.good.rounds)
  have h1 := e (x.ups.l.map b2i) (by rw [List.length_map]; exact h.ups) (fun n hn => by obtain ⟨b, _, rfl⟩ := List.mem_map.1 hn; cases b <;> simp [b2i])
  have h2 := e _ h.lens.1 h.good.offs.2
  have h3 := e _ h.lens.2.1 h.good.gates.2
  have h4 := e _ h.lens.2.2.1 h.good.guards.2
  have h5 := e _ h.lens.2.2.2 h.good.drifts.2
  show (rowsT headsL [[x.rounds], x.ups.l.map b2i, x.offs.l, x.gates.l, x.guards.l, x.drifts.l]).length ≤ _
  simp only [rowsT, headsL, List.zip_cons_cons, List.zip_nil_right, List.flatMap_cons, List.flatMap_nil, List.append_nil, lineT, List.length_append, List.length_cons, List.length_nil]
  omega
theorem hexL_snoc {D : List UInt8} {k : Nat} {c : UInt8} (h : D[k]? = some c) : (hexL (D.take k) ++ [hexC (c.toNat / 16)]) ++ [hexC (c.toNat % 16)] = hexL (D.take (k + 1)) := by
  rw [take_snoc h, hexL_append]
  simp [hexL]
theorem nums_list {W : World} {v : Value} {l : List Int} (h : Rd (encI .i64) 1 W v l) (hb : ∀ n ∈ l, inI n) : Nums W v l := ⟨h, hb⟩
theorem printS_ne (x : Scr) : printS x ≠ [] := by
  unfold printS preT headT lineW
  simp
theorem numsK_row {B : Nat} {W : World} (g : Nat) (l : List Int) (hg : W.heap.size = g) (hb : ∀ n ∈ l, inI n) (hl : l.length ≤ 1000) : NumsK B (W.alloc (.cells (l.map (Value.int .i64)).toArray 3)) (.slice (some ⟨g, 0, none⟩) l.length l.length) l := by
  subst hg
  refine ⟨⟨by have := Rd.new (w := W) (t := 3) (enc := encI .i64) (encI_len .i64) l (by omega); rw [encI_flat] at this; exact this, hb⟩, fun g o n c e _ => ?_⟩
  simp only [Value.slice.injEq, Option.some.injEq, Addr.mk.injEq] at e
  obtain ⟨⟨rfl, _⟩, _⟩ := e
  exact .inr ⟨_, Blk.new' rfl⟩
theorem run_ints5 (w : World) (p0 p1 p2 p3 p4 : Int) : (Instr.buildSlice 23 5 #[(0, .int .i64 p0), (1, .int .i64 p1), (2, .int .i64 p2), (3, .int .i64 p3), (4, .int .i64 p4)]).run Tryz.prog w = .ok (.slice (some ⟨w.heap.size, 0, none⟩) 5 5) (w.alloc (.cells #[.int .i64 p0, .int .i64 p1, .int .i64 p2, .int .i64 p3, .int .i64 p4] 3)) := by
  unfold Instr.buildSlice
  go_simp
theorem exec_ints5 {w w' : World} {v : Value} {o : Oper} {ac : Act} {x0 x1 x2 x3 x4 : Operand} {p0 p1 p2 p3 p4 : Int} (hr : (Instr.buildSlice 23 5 #[(0, .int .i64 p0), (1, .int .i64 p1), (2, .int .i64 p2), (3, .int .i64 p3), (4, .int .i64 p4)]).run Tryz.prog w = .ok v w') (ho : o.op = .buildSlice 23 5 #[(0, x0), (1, x1), (2, x2), (3, x3), (4, x4)]) (h0 : ac.eval x0 = .int .i64 p0) (h1 : ac.eval x1 = .int .i64 p1) (h2 : ac.eval x2 = .int .i64 p2) (h3 : ac.eval x3 = .int .i64 p3) (h4 : ac.eval x4 = .int .i64 p4) : (execOp ac.eval o).run Tryz.prog w = .ok (.value v) w' := by
  simp [execOp, ho, h0, h1, h2, h3, h4, hr, Result.andThen]
theorem run_ints7 (w : World) (p0 p1 p2 p3 p4 p5 p6 : Int) : (Instr.buildSlice 23 7 #[(0, .int .i64 p0), (1, .int .i64 p1), (2, .int .i64 p2), (3, .int .i64 p3), (4, .int .i64 p4), (5, .int .i64 p5), (6, .int .i64 p6)]).run Tryz.prog w = .ok (.slice (some ⟨w.heap.size, 0, none⟩) 7 7) (w.alloc (.cells #[.int .i64 p0, .int .i64 p1, .int .i64 p2, .int .i64 p3, .int .i64 p4, .int .i64 p5, .int .i64 p6] 3)) := by
  unfold Instr.buildSlice
  go_simp
theorem exec_ints7 {w w' : World} {v : Value} {o : Oper} {ac : Act} {x0 x1 x2 x3 x4 x5 x6 : Operand} {p0 p1 p2 p3 p4 p5 p6 : Int} (hr : (Instr.buildSlice 23 7 #[(0, .int .i64 p0), (1, .int .i64 p1), (2, .int .i64 p2), (3, .int .i64 p3), (4, .int .i64 p4), (5, .int .i64 p5), (6, .int .i64 p6)]).run Tryz.prog w = .ok v w') (ho : o.op = .buildSlice 23 7 #[(0, x0), (1, x1), (2, x2), (3, x3), (4, x4), (5, x5), (6, x6)]) (h0 : ac.eval x0 = .int .i64 p0) (h1 : ac.eval x1 = .int .i64 p1) (h2 : ac.eval x2 = .int .i64 p2) (h3 : ac.eval x3 = .int .i64 p3) (h4 : ac.eval x4 = .int .i64 p4) (h5 : ac.eval x5 = .int .i64 p5) (h6 : ac.eval x6 = .int .i64 p6) : (execOp ac.eval o).run Tryz.prog w = .ok (.value v) w' := by
  simp [execOp, ho, h0, h1, h2, h3, h4, h5, h6, hr, Result.andThen]
def TO (w : World) (H : Nat) (x : Ho) (a : Act) (W : World) : Prop :=
  ∃ (U : Nat → Value) (bx : Nat), a = { tmps := #[U 0, U 1, U 2, .pointer (some ⟨w.heap.size + 2, 0, none⟩), .pointer (some ⟨bx, 0, none⟩), U 5, U 6, U 7, U 8, U 9, U 10, U 11, U 12, U 13, U 14, U 15, U 16, U 17, U 18, U 19, U 20, U 21, U 22, U 23, U 24, U 25, U 26, U 27, U 28, U 29, U 30, U 31, U 32, U 33, U 34, U 35, U 36, U 37, U 38, U 39, U 40, U 41, U 42, U 43, U 44, U 45, U 46, U 47, U 48, U 49, U 50, U 51, U 52, U 53, U 54, U 55, U 56, U 57, U 58, U 59, U 60, U 61, U 62, U 63, U 64, U 65, U 66, U 67, U 68, U 69, U 70, U 71, U 72, U 73, U 74, U 75, U 76, U 77, U 78, U 79, U 80, U 81, U 82, U 83, U 84, U 85, U 86, U 87, U 88, U 89, U 90, U 91, U 92, U 93, U 94, U 95, U 96, U 97, U 98, U 99, U 100, U 101, U 102, U 103, U 104, U 105], defers := [] } ∧ Blk W bx 46 (encH x).toArray ∧ H ≤ bx
theorem TO.mk' {w : World} {H : Nat} {x : Ho} {a : Act} {W : World} (bx : Nat) (h : a = { tmps := #[a.tmps.getD 0 undef, a.tmps.getD 1 undef, a.tmps.getD 2 undef, .pointer (some ⟨w.heap.size + 2, 0, none⟩), .pointer (some ⟨bx, 0, none⟩), a.tmps.getD 5 undef, a.tmps.getD 6 undef, a.tmps.getD 7 undef, a.tmps.getD 8 undef, a.tmps.getD 9 undef, a.tmps.getD 10 undef, a.tmps.getD 11 undef, a.tmps.getD 12 undef, a.tmps.getD 13 undef, a.tmps.getD 14 undef, a.tmps.getD 15 undef, a.tmps.getD 16 undef, a.tmps.getD 17 undef, a.tmps.getD 18 undef, a.tmps.getD 19 undef, a.tmps.getD 20 undef, a.tmps.getD 21 undef, a.tmps.getD 22 undef, a.tmps.getD 23 undef, a.tmps.getD 24 undef, a.tmps.getD 25 undef, a.tmps.getD 26 undef, a.tmps.getD 27 undef, a.tmps.getD 28 undef, a.tmps.getD 29 undef, a.tmps.getD 30 undef, a.tmps.getD 31 undef, a.tmps.getD 32 undef, a.tmps.getD 33 undef, a.tmps.getD 34 undef, a.tmps.getD 35 undef, a.tmps.getD 36 undef, a.tmps.getD 37 undef, a.tmps.getD 38 undef, a.tmps.getD 39 undef, a.tmps.getD 40 undef, a.tmps.getD 41 undef, a.tmps.getD 42 undef, a.tmps.getD 43 undef, a.tmps.getD 44 undef, a.tmps.getD 45 undef, a.tmps.getD 46 undef, a.tmps.getD 47 undef, a.tmps.getD 48 undef, a.tmps.getD 49 undef, a.tmps.getD 50 undef, a.tmps.getD 51 undef, a.tmps.getD 52 undef, a.tmps.getD 53 undef, a.tmps.getD 54 undef, a.tmps.getD 55 undef, a.tmps.getD 56 undef, a.tmps.getD 57 undef, a.tmps.getD 58 undef, a.tmps.getD 59 undef, a.tmps.getD 60 undef, a.tmps.getD 61 undef, a.tmps.getD 62 undef, a.tmps.getD 63 undef, a.tmps.getD 64 undef, a.tmps.getD 65 undef, a.tmps.getD 66 undef, a.tmps.getD 67 undef, a.tmps.getD 68 undef, a.tmps.getD 69 undef, a.tmps.getD 70 undef, a.tmps.getD 71 undef, a.tmps.getD 72 undef, a.tmps.getD 73 undef, a.tmps.getD 74 undef, a.tmps.getD 75 undef, a.tmps.getD 76 undef, a.tmps.getD 77 undef, a.tmps.getD 78 undef, a.tmps.getD 79 undef, a.tmps.getD 80 undef, a.tmps.getD 81 undef, a.tmps.getD 82 undef, a.tmps.getD 83 undef, a.tmps.getD 84 undef, a.tmps.getD 85 undef, a.tmps.getD 86 undef, a.tmps.getD 87 undef, a.tmps.getD 88 undef, a.tmps.getD 89 undef, a.tmps.getD 90 undef, a.tmps.getD 91 undef, a.tmps.getD 92 undef, a.tmps.getD 93 undef, a.tmps.getD 94 undef, a.tmps.getD 95 undef, a.tmps.getD 96 undef, a.tmps.getD 97 undef, a.tmps.getD 98 undef, a.tmps.getD 99 undef, a.tmps.getD 100 undef, a.tmps.getD 101 undef, a.tmps.getD 102 undef, a.tmps.getD 103 undef, a.tmps.getD 104 undef, a.tmps.getD 105 undef], defers := [] }) (h2 : Blk W bx 46 (encH x).toArray) (h3 : H ≤ bx) : TO w H x a W := ⟨fun i => a.tmps.getD i undef, bx, h, h2, h3⟩
def TF (w : World) (H : Nat) (x : Fa) (a : Act) (W : World) : Prop :=
  ∃ (U : Nat → Value) (bx : Nat), a = { tmps := #[U 0, U 1, U 2, .pointer (some ⟨w.heap.size + 2, 0, none⟩), U 4, U 5, U 6, .pointer (some ⟨bx, 0, none⟩), U 8, U 9, U 10, U 11, U 12, U 13, U 14, U 15, U 16, U 17, U 18, U 19, U 20, U 21, U 22, U 23, U 24, U 25, U 26, U 27, U 28, U 29, U 30, U 31, U 32, U 33, U 34, U 35, U 36, U 37, U 38, U 39, U 40, U 41, U 42, U 43, U 44, U 45, U 46, U 47, U 48, U 49, U 50, U 51, U 52, U 53, U 54, U 55, U 56, U 57, U 58, U 59, U 60, U 61, U 62, U 63, U 64, U 65, U 66, U 67, U 68, U 69, U 70, U 71, U 72, U 73, U 74, U 75, U 76, U 77, U 78, U 79, U 80, U 81, U 82, U 83, U 84, U 85, U 86, U 87, U 88, U 89, U 90, U 91, U 92, U 93, U 94, U 95, U 96, U 97, U 98, U 99, U 100, U 101, U 102, U 103, U 104, U 105], defers := [] } ∧ Blk W bx 81 (encF x).toArray ∧ H ≤ bx
theorem TF.mk' {w : World} {H : Nat} {x : Fa} {a : Act} {W : World} (bx : Nat) (h : a = { tmps := #[a.tmps.getD 0 undef, a.tmps.getD 1 undef, a.tmps.getD 2 undef, .pointer (some ⟨w.heap.size + 2, 0, none⟩), a.tmps.getD 4 undef, a.tmps.getD 5 undef, a.tmps.getD 6 undef, .pointer (some ⟨bx, 0, none⟩), a.tmps.getD 8 undef, a.tmps.getD 9 undef, a.tmps.getD 10 undef, a.tmps.getD 11 undef, a.tmps.getD 12 undef, a.tmps.getD 13 undef, a.tmps.getD 14 undef, a.tmps.getD 15 undef, a.tmps.getD 16 undef, a.tmps.getD 17 undef, a.tmps.getD 18 undef, a.tmps.getD 19 undef, a.tmps.getD 20 undef, a.tmps.getD 21 undef, a.tmps.getD 22 undef, a.tmps.getD 23 undef, a.tmps.getD 24 undef, a.tmps.getD 25 undef, a.tmps.getD 26 undef, a.tmps.getD 27 undef, a.tmps.getD 28 undef, a.tmps.getD 29 undef, a.tmps.getD 30 undef, a.tmps.getD 31 undef, a.tmps.getD 32 undef, a.tmps.getD 33 undef, a.tmps.getD 34 undef, a.tmps.getD 35 undef, a.tmps.getD 36 undef, a.tmps.getD 37 undef, a.tmps.getD 38 undef, a.tmps.getD 39 undef, a.tmps.getD 40 undef, a.tmps.getD 41 undef, a.tmps.getD 42 undef, a.tmps.getD 43 undef, a.tmps.getD 44 undef, a.tmps.getD 45 undef, a.tmps.getD 46 undef, a.tmps.getD 47 undef, a.tmps.getD 48 undef, a.tmps.getD 49 undef, a.tmps.getD 50 undef, a.tmps.getD 51 undef, a.tmps.getD 52 undef, a.tmps.getD 53 undef, a.tmps.getD 54 undef, a.tmps.getD 55 undef, a.tmps.getD 56 undef, a.tmps.getD 57 undef, a.tmps.getD 58 undef, a.tmps.getD 59 undef, a.tmps.getD 60 undef, a.tmps.getD 61 undef, a.tmps.getD 62 undef, a.tmps.getD 63 undef, a.tmps.getD 64 undef, a.tmps.getD 65 undef, a.tmps.getD 66 undef, a.tmps.getD 67 undef, a.tmps.getD 68 undef, a.tmps.getD 69 undef, a.tmps.getD 70 undef, a.tmps.getD 71 undef, a.tmps.getD 72 undef, a.tmps.getD 73 undef, a.tmps.getD 74 undef, a.tmps.getD 75 undef, a.tmps.getD 76 undef, a.tmps.getD 77 undef, a.tmps.getD 78 undef, a.tmps.getD 79 undef, a.tmps.getD 80 undef, a.tmps.getD 81 undef, a.tmps.getD 82 undef, a.tmps.getD 83 undef, a.tmps.getD 84 undef, a.tmps.getD 85 undef, a.tmps.getD 86 undef, a.tmps.getD 87 undef, a.tmps.getD 88 undef, a.tmps.getD 89 undef, a.tmps.getD 90 undef, a.tmps.getD 91 undef, a.tmps.getD 92 undef, a.tmps.getD 93 undef, a.tmps.getD 94 undef, a.tmps.getD 95 undef, a.tmps.getD 96 undef, a.tmps.getD 97 undef, a.tmps.getD 98 undef, a.tmps.getD 99 undef, a.tmps.getD 100 undef, a.tmps.getD 101 undef, a.tmps.getD 102 undef, a.tmps.getD 103 undef, a.tmps.getD 104 undef, a.tmps.getD 105 undef], defers := [] }) (h2 : Blk W bx 81 (encF x).toArray) (h3 : H ≤ bx) : TF w H x a W := ⟨fun i => a.tmps.getD i undef, bx, h, h2, h3⟩
theorem opG_ints {w : World} {o : Ho} (h : OpG w o) : ∀ n ∈ o.ok.ints, inI n := by
  intro n hn
  simp only [Ok.ints, Ho.ok, List.mem_cons, List.not_mem_nil, or_false] at hn
  rcases hn with rfl | rfl | rfl | rfl | rfl
  · exact h.1.n
  · exact h.1.r
  · exact h.1.s
  · exact h.1.k
  · exact h.1.v
theorem BI.drew {w w1 W : World} {n₀ b : Nat} {l : List UInt8} (h : BI w n₀ b w1 l W) : BI w n₀ b w1 l W.drew := h.below (Below.refl _ _).drew
set_option maxRecDepth 100000 in
set_option maxHeartbeats 3200000 in
theorem print_any (x : Sc) (w : World) (h : Prn w x) : Calls Tryz.prog 9 #[.agg (encSc x).toArray] w fun e w' => e = .returned (strV (printS x.k)) ∧ Below w.heap.size w w' := by
  have HPO : Hid (∀ w' T, Below w.heap.size w w' → T = printS x.k → (fun e w' => e = Ending.returned (strV (printS x.k)) ∧ Below w.heap.size w w') (.returned (.string ⟨T.toArray⟩)) w') := fun w' T h e => by subst e; exact ⟨rfl, h⟩
  generalize (fun e w' => e = Ending.returned (strV (printS x.k)) ∧ Below w.heap.size w w') = POST at *
  have HPR := Lib.hid h
  have HT0L := Lib.hid (pre_len h)
  obtain ⟨T0, hT0⟩ : ∃ T0, preT x.k 6 = T0 := ⟨_, rfl⟩
  rw [hT0] at HT0L
  have HT0 : Hid (rowsT headsL [[x.rounds], x.ups.l.map b2i, x.offs.l, x.gates.l, x.guards.l, x.drifts.l] = T0) := (heads_rows x.k).trans hT0
  have HTE : Hid (printS x.k = T0 ++ ((x.ops.map Ho.ok).flatMap opT ++ (x.faults.map Fa.fk).flatMap ftT)) := by rw [← hT0]; rfl
  clear h hT0
  have HPS : Hid (PX x w (((w.alloc (.cells (encSc x).toArray 27)).alloc (.cells #[.pointer none, .slice none 0 0] 64)).alloc (.cells #[.pointer (some ⟨w.heap.size + 1, 0, none⟩)] 59))) := Lib.hid
    ⟨below3 w _ _ _, ((Blk.new' rfl : Blk _ _ _ _).alloc _).alloc _, Bld.keep (by
      have h := Lib.IsBuilderF.of (Lib.fresh_isBuilder 64 5 (w.alloc (.cells (encSc x).toArray 27)))
      have hs : (w.alloc (.cells (encSc x).toArray 27)).heap.size = w.heap.size + 1 := by simp
      rw [hs] at h
      exact bld_mono h (by omega)) (below1 _ _), Blk.new' (by simp)⟩
  refine (callsIn_wide (n := 3)).1 ?_
  refine callsIn_of_wp_marks Tryz.func9 rfl trivial ?_ rfl
  refine wpIn_wide.2 ?_
  simp only [Tryz.ntmps9, List.size_toArray, List.length_cons, List.length_nil, Nat.reduceAdd, Nat.reduceSub, Array.replicate_succ, Array.replicate_zero, List.push_toArray, List.append_toArray, List.nil_append, List.cons_append]
  go_upto_region 2 with ((with_reducible show wpList _ _ _ (Oper.mk none _ _ _ _ _ :: _) _ _); refine wpList_boxW W27 rfl rfl rfl (encSc x) rfl rfl (encSc_one x) rfl ?_)
  change Code.wp _ _ _ _ (((w.alloc (.cells (encSc x).toArray 27)).alloc (.cells #[.pointer none, .slice none 0 0] 64)).alloc (.cells #[.pointer (some ⟨w.heap.size + 1, 0, none⟩)] 59))
  generalize (((w.alloc (.cells (encSc x).toArray 27)).alloc (.cells #[.pointer none, .slice none 0 0] 64)).alloc (.cells #[.pointer (some ⟨w.heap.size + 1, 0, none⟩)] 59)) = W1 at *
  replace HPS := Lib.hid (HPS.out.keep (Below.refl _ _).drew)
  have hS := HPS.out.sb
  refine wp_region_noPanic ?_
  refine wp_region_held_drew (S := fun X => Hid (SC x w X)) (by kernel_rfl) hS (fun hHeld => ?_)
  (refine takeW (i := 0) rfl (by kernel_rfl) (by kernel_rfl) (by kernel_rfl) (fun _ _ _ h => h) (by rfl) (by assumption) (fun W hW => exec_load1 FL83 rfl rfl hW.out.ct) ?_; (try simp only [Act.put, List.setIfInBounds_toArray, List.set_cons_zero, List.set_cons_succ]))
  (refine takeW (i := 1) rfl (by kernel_rfl) (by kernel_rfl) (by kernel_rfl) (fun _ _ _ h => h) (by rfl) (by assumption) (fun W hW => exec_load1 FL83 rfl rfl hW.out.ct) ?_; (try simp only [Act.put, List.setIfInBounds_toArray, List.set_cons_zero, List.set_cons_succ]))
  (refine takeW (i := 2) (v := ?_) rfl (by kernel_rfl) (by kernel_rfl) (by kernel_rfl) (fun _ _ _ h => h) (by rfl) (by assumption) ?_ ?_; rotate_left; (intro W hW; (try dsimp only at hW); go_simp; try with_reducible rfl); (try simp only [Act.put, List.setIfInBounds_toArray, List.set_cons_zero, List.set_cons_succ]))
  (refine takeW (i := 4) (v := ?_) rfl (by kernel_rfl) (by kernel_rfl) (by kernel_rfl) (fun _ _ _ h => h) (by rfl) (by assumption) ?_ ?_; rotate_left; (intro W hW; (try dsimp only at hW); go_simp; try with_reducible rfl); (try simp only [Act.put, List.setIfInBounds_toArray, List.set_cons_zero, List.set_cons_succ]))
  (refine takeW (i := 5) rfl (by kernel_rfl) (by kernel_rfl) (by kernel_rfl) (fun _ _ _ h => h) (by rfl) (by assumption) (fun W hW => exec_load1 FL3 rfl rfl hW.out.c0) ?_; (try simp only [Act.put, List.setIfInBounds_toArray, List.set_cons_zero, List.set_cons_succ]))
  (refine takeW (i := 7) (v := ?_) rfl (by kernel_rfl) (by kernel_rfl) (by kernel_rfl) (fun _ _ _ h => h) (by rfl) (by assumption) ?_ ?_; rotate_left; (intro W hW; (try dsimp only at hW); go_simp; try with_reducible rfl); (try simp only [Act.put, List.setIfInBounds_toArray, List.set_cons_zero, List.set_cons_succ]))
  (refine takeW (i := 8) rfl (by kernel_rfl) (by kernel_rfl) (by kernel_rfl) (fun _ _ _ h => h) (by rfl) (by assumption) (fun W hW => exec_load1 FL22 rfl rfl hW.out.c1) ?_; (try simp only [Act.put, List.setIfInBounds_toArray, List.set_cons_zero, List.set_cons_succ]))
  (refine takeW (i := 10) (v := ?_) rfl (by kernel_rfl) (by kernel_rfl) (by kernel_rfl) (fun _ _ _ h => h) (by rfl) (by assumption) ?_ ?_; rotate_left; (intro W hW; (try dsimp only at hW); go_simp; try with_reducible rfl); (try simp only [Act.put, List.setIfInBounds_toArray, List.set_cons_zero, List.set_cons_succ]))
  (refine takeW (i := 11) rfl (by kernel_rfl) (by kernel_rfl) (by kernel_rfl) (fun _ _ _ h => h) (by rfl) (by assumption) (fun W hW => exec_load1 FL26 rfl rfl hW.out.c2) ?_; (try simp only [Act.put, List.setIfInBounds_toArray, List.set_cons_zero, List.set_cons_succ]))
  (refine takeW (i := 12) (v := ?_) rfl (by kernel_rfl) (by kernel_rfl) (by kernel_rfl) (fun _ _ _ h => h) (by rfl) (by assumption) ?_ ?_; rotate_left; (intro W hW; (try dsimp only at hW); go_simp; try with_reducible rfl); (try simp only [Act.put, List.setIfInBounds_toArray, List.set_cons_zero, List.set_cons_succ]))
  (refine takeW (i := 13) rfl (by kernel_rfl) (by kernel_rfl) (by kernel_rfl) (fun _ _ _ h => h) (by rfl) (by assumption) (fun W hW => exec_load1 FL26 rfl rfl hW.out.c3) ?_; (try simp only [Act.put, List.setIfInBounds_toArray, List.set_cons_zero, List.set_cons_succ]))
  (refine takeW (i := 14) (v := ?_) rfl (by kernel_rfl) (by kernel_rfl) (by kernel_rfl) (fun _ _ _ h => h) (by rfl) (by assumption) ?_ ?_; rotate_left; (intro W hW; (try dsimp only at hW); go_simp; try with_reducible rfl); (try simp only [Act.put, List.setIfInBounds_toArray, List.set_cons_zero, List.set_cons_succ]))
  (refine takeW (i := 15) rfl (by kernel_rfl) (by kernel_rfl) (by kernel_rfl) (fun _ _ _ h => h) (by rfl) (by assumption) (fun W hW => exec_load1 FL26 rfl rfl hW.out.c4) ?_; (try simp only [Act.put, List.setIfInBounds_toArray, List.set_cons_zero, List.set_cons_succ]))
  (refine takeW (i := 16) (v := ?_) rfl (by kernel_rfl) (by kernel_rfl) (by kernel_rfl) (fun _ _ _ h => h) (by rfl) (by assumption) ?_ ?_; rotate_left; (intro W hW; (try dsimp only at hW); go_simp; try with_reducible rfl); (try simp only [Act.put, List.setIfInBounds_toArray, List.set_cons_zero, List.set_cons_succ]))
  (refine takeW (i := 17) rfl (by kernel_rfl) (by kernel_rfl) (by kernel_rfl) (fun _ _ _ h => h) (by rfl) (by assumption) (fun W hW => exec_load1 FL26 rfl rfl hW.out.c5) ?_; (try simp only [Act.put, List.setIfInBounds_toArray, List.set_cons_zero, List.set_cons_succ]))
  refine takeC2 (i := 3) (j := 6) rfl rfl (by kernel_rfl) (by rfl) (by rfl) (fun K hK => ?_) (fun K hK => ?_)
  · go_simp
    refine (heads_any' _).mono ?_
    rintro e W3 ⟨⟨gw, rfl, hgw⟩, hb⟩
    have HPS := Lib.hid (HPS.out.keep hb)
    (try have HHD := Lib.hid (HHD.out.keep hb))
    (try have HBL := Lib.hid (HBL.out.keep hb))
    (try have HNR := Lib.hid (HNR.out.below hb))
    (try have HTR := Lib.hid (HTR.out.below hb))
    have HHD := Lib.hid hgw
    clear hgw
    clear hb hHeld
    refine hK.out _ _ HPS.out.sb (fun hHeld => ?_)
    clear hK K
    try simp only [Act.put, List.setIfInBounds_toArray, List.set_cons_zero, List.set_cons_succ]
    refine takeC2 (i := 6) (j := 9) rfl rfl (by kernel_rfl) (by rfl) (by rfl) (fun K hK => ?_) (fun K hK => ?_)
    · obtain ⟨W6, hW6⟩ : ∃ W6, W3.alloc (.cells #[.int .i64 x.rounds] 3) = W6 := ⟨_, rfl⟩
      obtain ⟨g6, hg6⟩ : ∃ g6, W3.heap.size = g6 := ⟨_, rfl⟩
      have HNR : Hid (NumsK w.heap.size W6 (.slice (some ⟨g6, 0, none⟩) 1 1) [x.rounds]) := Lib.hid (by rw [← hW6, ← hg6]; exact numsK_new _ _ _ HPR.out.good.rounds.1 HPR.out.good.rounds.2)
      have HB6 : Hid (Below W3.heap.size W3 W6) := Lib.hid (by rw [← hW6]; exact below1 _ _)
      have HX6 := Lib.hid (run_one3 W3 x.rounds)
      rw [hW6, hg6] at HX6
      clear hW6 hg6
      unfold Oper.wp
      rw [exec_run1 HX6.out rfl rfl]
      refine hK.out _ _ ((HPS.out.keep HB6.out).sb) (fun hHeld => ?_)
      clear hK K
      (try simp only [Act.put, List.setIfInBounds_toArray, List.set_cons_zero, List.set_cons_succ])
      have HPS := Lib.hid (HPS.out.keep HB6.out)
      (try have HHD := Lib.hid (HHD.out.keep HB6.out))
      (try have HBL := Lib.hid (HBL.out.keep HB6.out))
      (try have HTR := Lib.hid (HTR.out.below HB6.out))
      clear HB6 HX6
      refine takeC (i := 9) rfl (by kernel_rfl) (by rfl) (fun K hK => ?_)
      go_simp
      refine (truths_k w.heap.size _ x.ups.l _ (HPR.out.good.ups.below HPS.out.bel) HPR.out.ups).mono ?_
      rintro e W9 ⟨⟨at', ct, rfl, hvt⟩, hb⟩
      have HPS := Lib.hid (HPS.out.keep hb)
      (try have HHD := Lib.hid (HHD.out.keep hb))
      (try have HBL := Lib.hid (HBL.out.keep hb))
      (try have HNR := Lib.hid (HNR.out.below hb))
      (try have HTR := Lib.hid (HTR.out.below hb))
      have HTR : Hid (NumsK w.heap.size W9 (.slice at' x.ups.l.length ct) (x.ups.l.map b2i)) := Lib.hid hvt
      clear hvt
      clear hb hHeld
      refine hK.out _ _ HPS.out.sb (fun hHeld => ?_)
      clear hK K
      try simp only [Act.put, List.setIfInBounds_toArray, List.set_cons_zero, List.set_cons_succ]
      obtain ⟨W18, hW18⟩ : ∃ W18, W9.alloc (.cells #[.slice (some ⟨g6, 0, none⟩) 1 1, .slice at' x.ups.l.length ct, .slice x.offs.a x.offs.l.length x.offs.c, .slice x.gates.a x.gates.l.length x.gates.c, .slice x.guards.a x.guards.l.length x.guards.c, .slice x.drifts.a x.drifts.l.length x.drifts.c] 23) = W18 := ⟨_, rfl⟩
      obtain ⟨g18, hg18⟩ : ∃ g18, W9.heap.size = g18 := ⟨_, rfl⟩
      have HBL : Hid (Blk W18 g18 23 #[.slice (some ⟨g6, 0, none⟩) 1 1, .slice at' x.ups.l.length ct, .slice x.offs.a x.offs.l.length x.offs.c, .slice x.gates.a x.gates.l.length x.gates.c, .slice x.guards.a x.guards.l.length x.guards.c, .slice x.drifts.a x.drifts.l.length x.drifts.c]) := Lib.hid (by rw [← hW18]; exact Blk.new' hg18)
      have HB18 : Hid (Below W9.heap.size W9 W18) := Lib.hid (by rw [← hW18]; exact below1 _ _)
      have HX18 := Lib.hid (run_six26 W9 (some ⟨g6, 0, none⟩) at' x.offs.a x.gates.a x.guards.a x.drifts.a 1 1 x.ups.l.length ct x.offs.l.length x.offs.c x.gates.l.length x.gates.c x.guards.l.length x.guards.c x.drifts.l.length x.drifts.c)
      rw [hW18, hg18] at HX18
      clear hW18 hg18
      refine takeV (i := 18) rfl (by kernel_rfl) (by rfl) (exec_run6 HX18.out rfl rfl rfl rfl rfl rfl rfl) ((HPS.out.keep HB18.out).sb) ?_
      (try simp only [Act.put, List.setIfInBounds_toArray, List.set_cons_zero, List.set_cons_succ])
      have hHeld : Hid (SC x w W18) := (HPS.out.keep HB18.out).sb
      have HPS := Lib.hid (HPS.out.keep HB18.out)
      (try have HHD := Lib.hid (HHD.out.keep HB18.out))
      (try have HNR := Lib.hid (HNR.out.below HB18.out))
      (try have HTR := Lib.hid (HTR.out.below HB18.out))
      clear HB18 HX18
      refine takeC (i := 19) rfl (by kernel_rfl) (by rfl) (fun K hK => ?_)
      go_simp
      refine (rows_any w.heap.size (w.heap.size + 1) gw g18 [] headsL _ [[x.rounds], x.ups.l.map b2i, x.offs.l, x.gates.l, x.guards.l, x.drifts.l] W18 HPS.out.bld HHD.out HBL.out rfl rfl (by decide) (anyRows HNR.out HTR.out HPR.out HPS.out.bel) (by decide) (by simp)).mono ?_
      rintro e W19 ⟨rfl, hp⟩
      have HBP := Lib.hid (BI.post (BI.start HPS.out.bld HPS.out.bel) hp)
      have HS19 : Hid (SC x w W19) := Lib.hid (SC.of (blk_post HPS.out.s hp (by omega)) (blk_post HPS.out.t hp (by omega)))
      clear hp hHeld HHD HBL HTR HNR HPS
      refine hK.out _ _ HS19 (fun hHeld => ?_)
      clear hK K
      try simp only [Act.put, List.setIfInBounds_toArray, List.set_cons_zero, List.set_cons_succ]
      refine wpAnyH_done (by kernel_rfl) ?_ _
      refine NoPanic.normal ?_
      clear hHeld
      rw [List.nil_append, HT0.out] at HBP
      obtain ⟨Wa, rfl⟩ : ∃ Wa : World, Wa = W19 := ⟨_, rfl⟩
      have HBJ : Hid (BI w w.heap.size (w.heap.size + 1) Wa T0 Wa) := Lib.hid (BI.start HBP.out.bld HBP.out.bel)
      clear HBP HT0
      have HSB := HS19
      clear HS19
      obtain ⟨lo, hlo⟩ : ∃ lo : List {y : Ho // OpG w y}, lo.map Subtype.val = x.ops := ⟨_, sub_val x.ops (fun y hy => ⟨HPR.out.good.opg y hy, HPR.out.ops.2 y hy⟩)⟩
      obtain ⟨lf, hlf⟩ : ∃ lf : List {y : Fa // FtG y}, lf.map Subtype.val = x.faults := ⟨_, sub_val x.faults HPR.out.fts⟩
      have HLO : Hid (∀ W', Below w.heap.size w W' → Rd (fun y : {y : Ho // OpG w y} => encH y.val) 6 W' (.slice x.oa x.ops.length x.oc) lo) := fun W' hW' => rd_val (by rw [hlo]; exact HPR.out.good.ops.below hW')
      have HLF : Hid (∀ W', Below w.heap.size w W' → Rd (fun y : {y : Fa // FtG y} => encF y.val) 7 W' (.slice x.fa x.faults.length x.fc) lf) := fun W' hW' => rd_val (by rw [hlf]; exact HPR.out.good.faults.below hW')
      have HLOL : Hid (lo.length ≤ 20000) := by have := congrArg List.length hlo; rw [List.length_map] at this; show _ ≤ _; rw [this]; exact HPR.out.ops.1
      have HLFL : Hid (lf.length ≤ 20000) := by have := congrArg List.length hlf; rw [List.length_map] at this; show _ ≤ _; rw [this]; exact HPR.out.fl
      have HTF : Hid (printS x.k = (T0 ++ (lo.map (fun y => y.val.ok)).flatMap opT) ++ (lf.map (fun y => y.val.fk)).flatMap ftT) := by show _ = _; rw [HTE.out, ← hlo, ← hlf, List.map_map, List.map_map, List.append_assoc]; rfl
      clear hlo hlf HTE HPR
      have c6 : Wa.cell? ⟨w.heap.size, 6, none⟩ = some (.slice x.oa x.ops.length x.oc) := HSB.out.c6
      go_wp2_with fail
      refine (makeO_any x.oa x.ops.length x.oc Wa).mono ?_
      rintro e Wb ⟨rfl, hwb⟩
      have HB1 : Hid (BI w w.heap.size (w.heap.size + 1) Wa T0 Wb) := Lib.hid (by rw [← hwb]; exact HBJ.out.below (below1 _ _))
      have hg1 : Wb.cell? ⟨Wa.heap.size, 0, none⟩ = some (.slice x.oa x.ops.length x.oc) := by rw [← hwb, World.cell?_alloc_at _ _ _ _ rfl]; rfl
      clear hwb c6
      have HB1' : Hid (BI w w.heap.size (w.heap.size + 1) Wb T0 Wb) := Lib.hid (BI.start HB1.out.bld HB1.out.bel)
      have hbz : w.heap.size ≤ Wb.heap.size := HB1.out.le
      have hseq := eachO_stops (enc := fun y : {y : Ho // OpG w y} => encH y.val) (fun _ => rfl) (fun y => encH_one y.val) 2 (by omega) Wa.heap.size w.heap.size (fun _ => False) (.slice x.oa x.ops.length x.oc) lo Wb HB1.out.le hg1 (fun W' hW' => HLO.out W' (HB1.out.bel.trans hW'.1))
      have HS1 : Hid (SC x w Wb) := Lib.hid (SC.of (HB1.out.ok _ _ HSB.out.s (by simp) (fun c fz e => by cases e)) (HB1.out.ok _ _ HSB.out.t (by simp) (fun c fz e => by cases e)))
      have HCT : Hid (∀ T X, BI w w.heap.size (w.heap.size + 1) Wb T X → X.cell? ⟨w.heap.size + 2, 0, none⟩ = some (.pointer (some ⟨w.heap.size + 1, 0, none⟩))) := Lib.hid (fun T X hX => Blk.cell (hX.ok _ _ HS1.out.t (by simp) (fun c fz e => by cases e)) 0)
      have hbb : w.heap.size + 1 < Wb.heap.size := HB1.out.bld.lt.2
      clear hg1
      go_wp2_with fail
      refine (wpIn_wide (n := 3)).1 ?_
      refine wpIn_rangeFunc_ownH rfl (by omega) (gf := 53) (lb := #[.pointer (some ⟨Wa.heap.size, 0, none⟩)]) rfl trivial (enters_of Tryz.func53 (by kernel_rfl) rfl) hseq (fun h k => KQ.trans h k) (KQ.put hbz (fun k hk => hk.elim)) (Below.refl _ _) (fun _ => rfl)
        (fun pre W => BI w w.heap.size (w.heap.size + 1) Wb (T0 ++ (pre.map (fun y => y.val.ok)).flatMap opT) W) (fun _ _ _ => False) (BI.own (f := fun pre : List {y : Ho // OpG w y} => T0 ++ (pre.map (fun y => y.val.ok)).flatMap opT) (Nat.le_refl _) hbz) (fun _ _ _ _ _ h _ _ => h) (by simpa using HB1'.out)
        (fun x => TO w Wb.heap.size x.val)
        (fun x a' s A B row hs hg hr => by obtain ⟨U, bx, h1, h2, h3⟩ := hs; exact ⟨U, bx, h1, Blk.own _ _ _ s A B row h2 hg (fun r e => (hr r e).2), h3⟩)
        ?assign ?body ?done ?stop
      case assign =>
        rintro y pre x W K hI hK
        unfold encV
        gi_wp2_with (refine wpListIn_storeW W43 rfl rfl rfl (encH x.val) rfl rfl (encH_one x.val) rfl ?_)
        exact hK _ _ ((KeepsOthers.alloc _ _).from _) (KQ.of_below (below1 _ _) hI.le) (hI.below (below1 _ _)) (TO.mk' W.heap.size rfl (Blk.new' rfl) hI.sz)
      case body =>
        as_aux_lemma =>
        rintro y pre x1 a' W hl0 hr0 hI ⟨U2, bx, rfl, hBx, hHx⟩ hlen
        have hbxb : bx ≠ w.heap.size + 1 := by omega
        obtain ⟨TP, hTP⟩ : ∃ TP, T0 ++ (pre.map (fun y => y.val.ok)).flatMap opT = TP := ⟨_, rfl⟩
        have hgx := x1.2
        have HTS : Hid (T0 ++ ((pre ++ [x1]).map (fun y => y.val.ok)).flatMap opT = TP ++ opT x1.val.ok) := by
          show _ = _
          rw [List.map_append, List.flatMap_append, ← List.append_assoc, hTP]
          simp
        have HTL1 : Hid (TP.length ≤ 900000000) := by
          have h1 := flat_max (fun y : {y : Ho // OpG w y} => opT y.val.ok) 41000 pre (fun y _ => opT_len y.2)
          have h2 : (pre.map (fun y => y.val.ok)).flatMap opT = pre.flatMap (fun y : {y : Ho // OpG w y} => opT y.val.ok) := by rw [List.flatMap_map]
          have h3 := HLOL.out
          have h4 := HT0L.out
          show _ ≤ _
          rw [← hTP, List.length_append, h2]
          omega
        have HI0 : Hid (BI w w.heap.size (w.heap.size + 1) Wb TP W) := by rw [← hTP]; exact hI
        have HBI0 : Hid (BI w w.heap.size (w.heap.size + 1) W TP W) := Lib.hid (BI.start HI0.out.bld HI0.out.bel)
        have HGX := Lib.hid hgx
        have HFIN : Hid (∀ X, BI w w.heap.size (w.heap.size + 1) W (TP ++ opT x1.val.ok) X → KeepsFrom Wb.heap.size W X ∧ KQ w.heap.size (fun _ => False) W X ∧ BI w w.heap.size (w.heap.size + 1) Wb (T0 ++ ((pre ++ [x1]).map (fun y => y.val.ok)).flatMap opT) X) := fun X hX =>
          ⟨(hX.others HI0.out.bld).from _, BI.kq HI0.out hX (fun k hk => hk.elim), by rw [HTS.out]; exact HI0.out.join hX⟩
        replace HCT : Hid (∀ T X, BI w w.heap.size (w.heap.size + 1) W T X → X.cell? ⟨w.heap.size + 2, 0, none⟩ = some (.pointer (some ⟨w.heap.size + 1, 0, none⟩))) := Lib.hid (fun T X hX => HCT.out T X (HI0.out.join hX))
        have HXB : Hid (∀ T X, BI w w.heap.size (w.heap.size + 1) W T X → ∀ (j : Nat) (u : Value), (encH x1.val)[j]? = some u → X.cell? ⟨bx, j, none⟩ = some u) := Lib.hid (fun T X hX j u hu => Blk.list0 (hX.ok _ _ hBx (by simpa using hbxb) (fun c fz e => by cases e)) hu)
        clear hI hl0 hr0 hTP hBx hgx HI0 HTS hseq hlen hbb hbz HSB HS1 HB1 HB1' HBJ 
        generalize x1.val = xv at *
        obtain ⟨W2, hW2⟩ : ∃ W2, W.alloc (.cells #[.int .i64 xv.n, .int .i64 xv.r, .int .i64 xv.s, .int .i64 xv.k, .int .i64 xv.v] 3) = W2 := ⟨_, rfl⟩
        obtain ⟨g2, hg2⟩ : ∃ g2, W.heap.size = g2 := ⟨_, rfl⟩
        have HRUN := Lib.hid (run_ints5 W xv.n xv.r xv.s xv.k xv.v)
        have HNK : Hid (NumsK w.heap.size W2 (.slice (some ⟨g2, 0, none⟩) 5 5) xv.ok.ints) := Lib.hid (by rw [← hW2]; exact numsK_row g2 xv.ok.ints hg2 (opG_ints HGX.out) (by simp [Ok.ints]))
        have HB2 : Hid (BI w w.heap.size (w.heap.size + 1) W TP W2) := Lib.hid (by rw [← hW2]; exact HBI0.out.below (below1 _ _))
        rw [hW2, hg2] at HRUN
        clear hW2 hg2
        have ct := HCT.out _ _ HBI0.out
        have q0 : W.cell? ⟨bx, 0, none⟩ = some (.int .i64 xv.n) := HXB.out _ _ HBI0.out 0 _ rfl
        have q1 : W.cell? ⟨bx, 1, none⟩ = some (.int .i64 xv.r) := HXB.out _ _ HBI0.out 1 _ rfl
        have q2 : W.cell? ⟨bx, 2, none⟩ = some (.int .i64 xv.s) := HXB.out _ _ HBI0.out 2 _ rfl
        have q3 : W.cell? ⟨bx, 3, none⟩ = some (.int .i64 xv.k) := HXB.out _ _ HBI0.out 3 _ rfl
        have q4 : W.cell? ⟨bx, 4, none⟩ = some (.int .i64 xv.v) := HXB.out _ _ HBI0.out 4 _ rfl
        gi_wp2_with (((with_reducible show wpListIn _ _ _ _ _ (Oper.mk (some 45) _ _ _ _ _ :: _) _ _); refine wpListIn_val rfl (by rfl) (fun c h => by cases h) (exec_ints5 HRUN.out rfl rfl rfl rfl rfl rfl) ?_))
        refine ⟨trivial, ?_⟩
        refine (CallsIn.inRound y (callsIn_wide.2 (numbers_any w.heap.size (w.heap.size + 1) TP wOp _ xv.ok.ints W2 HB2.out.bld HNK.out.1 HNK.out.2 (by simp [Ok.ints]) (by have := HTL1.out; simp [wOp]; omega)))).mono ?_
        rintro e W3 ⟨rfl, hp⟩
        have HB3 := Lib.hid (HB2.out.post hp)
        have HTL3 : Hid ((TP ++ lineT wOp xv.ok.ints).length ≤ 2000000000) := by
          have h1 := numT_len xv.ok.ints (opG_ints HGX.out)
          have h3 : xv.ok.ints.length = 5 := rfl
          have h4 := HTL1.out
          have h5 : wOp.length = 2 := rfl
          show _ ≤ _
          unfold lineT
          simp only [List.length_append]
          omega
        clear hp HRUN HNK HB2 HBI0 ct q0 q1 q2 q3 q4
        have ct := HCT.out _ _ HB3.out
        gi_wp2_with fail
        refine ⟨trivial, ?_⟩
        refine (CallsIn.inRound y (callsIn_wide.2 (wstr_any w.heap.size (w.heap.size + 1) (TP ++ lineT wOp xv.ok.ints) [32, 120] W3 HB3.out.bld (by have := HTL3.out; rw [List.length_append] at this; simp only [List.length_append, List.length_cons, List.length_nil]; omega) HB3.out.le))).mono ?_
        rintro e W4 ⟨rfl, hp⟩
        have HB4 := Lib.hid (HB3.out.post hp)
        clear hp HB3 ct
        have q5 : W4.cell? ⟨bx, 5, none⟩ = some (.slice xv.a xv.d.length xv.c) := HXB.out _ _ HB4.out 5 _ rfl
        have HBY : Hid (∀ T X, BI w w.heap.size (w.heap.size + 1) W T X → Bys X (.slice xv.a xv.d.length xv.c) (bytesOf xv.d)) := Lib.hid (fun T X hX => bys_of (HGX.out.1.d.below hX.bel))
        have HDL : Hid (xv.d.length ≤ 20000) := HGX.out.2
        have HDB : Hid ((bytesOf xv.d).length = xv.d.length) := bytesOf_len _
        have HFIN2 : Hid (TP ++ opT xv.ok = ((TP ++ lineT wOp xv.ok.ints) ++ [32, 120]) ++ hexL (bytesOf xv.d) ++ [10]) := by show _ = _; rw [opT_eq]; simp [Ho.ok]
        have HT4 : Hid (((TP ++ lineT wOp xv.ok.ints) ++ [32, 120]).length ≤ 2000000002) := by show _ ≤ _; rw [List.length_append]; exact Nat.add_le_add HTL3.out (Nat.le_refl 2)
        rw [HFIN2.out] at HFIN
        clear HFIN2 HTL3 HTL1
        generalize ((TP ++ lineT wOp xv.ok.ints) ++ [32, 120]) = T4 at *
        generalize bytesOf xv.d = D at *
        generalize xv.d.length = m at *
        generalize xv.a = da at *
        generalize xv.c = dc at *
        gi_wp2_with fail
        gi_loopw [54] (fun i wr => ∃ k : Nat, k ≤ m ∧ i = .int .i64 k ∧ Hid (BI w w.heap.size (w.heap.size + 1) W (T4 ++ hexL (D.take k)) wr)) (fun i _ => m - (intOf i).toNat)
        case atStart => exact ⟨0, Nat.zero_le _, rfl, Lib.hid (by simpa [hexL] using HB4.out)⟩
        case round =>
          clear HB4 q5
          obtain ⟨k, hk, rfl, HB7⟩ := hrel
          obtain ⟨wo, rfl⟩ : ∃ wo : World, wo = wr := ⟨_, rfl⟩
          by_cases hlt : k < m
          · obtain ⟨c, hc0⟩ : ∃ c, D[k]? = some c := ⟨_, List.getElem?_eq_getElem (by rw [HDB.out]; exact hlt)⟩
            obtain ⟨bb, off, hba, hbl, hc⟩ := (HBY.out _ _ HB7.out).row (by rintro rfl; simp at hc0)
            have cb : wo.cell? ⟨bb, off + k, none⟩ = some (.int .u8 (c.toNat : Int)) := by
              have := hc k c hc0 0 _ rfl
              simpa [u8c] using this
            have hc8 := c.toNat_lt
            have hm20 : m ≤ 20000 := HDL.out
            have HG0 := Lib.hid (digs_at (c.toNat / 16) (by omega))
            have HG1 := Lib.hid (digs_at (c.toNat % 16) (by omega))
            have HSN := Lib.hid (hexL_snoc hc0)
            have HTK : Hid ((T4 ++ hexL (D.take k)).length + 2 ≤ 3000000000) := by show _ ≤ _; rw [List.length_append, hexL_len, List.length_take]; have := HT4.out; have := HDL.out; omega
            subst hba
            clear hc hc0 hbl
            gi_upto_region 10 with fail
            have hS10 : wo.drew.cell? ⟨w.heap.size + 2, 0, none⟩ = some (.pointer (some ⟨w.heap.size + 1, 0, none⟩)) := HCT.out _ _ HB7.out.drew
            refine wpIn_region_held_drew (S := fun X => X.cell? ⟨w.heap.size + 2, 0, none⟩ = some (.pointer (some ⟨w.heap.size + 1, 0, none⟩))) (by kernel_rfl) (by rfl) (fun ⟨_, _, h⟩ => h) hS10 (fun hHeld => ?_)
            (refine takeW (i := 0) rfl (by kernel_rfl) (by kernel_rfl) (by kernel_rfl) (fun _ _ _ h => h) (by rfl) (by assumption) (fun W hW => exec_load1 FL83 rfl rfl hW) ?_; (try simp only [Act.put, List.setIfInBounds_toArray, List.set_cons_zero, List.set_cons_succ]))
            (refine takeW (i := 1) (v := ?_) rfl (by kernel_rfl) (by kernel_rfl) (by kernel_rfl) (fun _ _ _ h => h) (by rfl) (by assumption) ?_ ?_; rotate_left; (intro W hW; (try dsimp only at hW); go_simp; try with_reducible rfl); (try simp only [Act.put, List.setIfInBounds_toArray, List.set_cons_zero, List.set_cons_succ]))
            (refine takeW (i := 2) (v := ?_) rfl (by kernel_rfl) (by kernel_rfl) (by kernel_rfl) (fun _ _ _ h => h) (by rfl) (by assumption) ?_ ?_; rotate_left; (intro W hW; (try dsimp only at hW); go_simp; try with_reducible rfl); (try simp only [Act.put, List.setIfInBounds_toArray, List.set_cons_zero, List.set_cons_succ]))
            (refine takeW (i := 3) (v := ?_) rfl (by kernel_rfl) (by kernel_rfl) (by kernel_rfl) (fun _ _ _ h => h) (by rfl) (by assumption) ?_ ?_; rotate_left; (intro W hW; (try dsimp only at hW); go_simp; try with_reducible rfl); (try simp only [Act.put, List.setIfInBounds_toArray, List.set_cons_zero, List.set_cons_succ]))
            (refine takeW (i := 4) rfl (by kernel_rfl) (by kernel_rfl) (by kernel_rfl) (fun _ _ _ h => h) (by rfl) (by assumption) (fun W hW => exec_shr4 (n := c.toNat) rfl rfl) ?_; (try simp only [Act.put, List.setIfInBounds_toArray, List.set_cons_zero, List.set_cons_succ]))
            (refine takeW (i := 5) rfl (by kernel_rfl) (by kernel_rfl) (by kernel_rfl) (fun _ _ _ h => h) (by rfl) (by assumption) (fun W hW => exec_ixu (l := digsL) (k := c.toNat / 16) rfl rfl rfl HG0.out) ?_; (try simp only [Act.put, List.setIfInBounds_toArray, List.set_cons_zero, List.set_cons_succ]))
            refine takeC (i := 6) rfl (by kernel_rfl) (by rfl) (fun K hK => ?_)
            go_simp
            refine (wbyte_any w.heap.size (w.heap.size + 1) (T4 ++ hexL (D.take k)) (hexC (c.toNat / 16)) _ HB7.out.drew.bld (by have := HTK.out; simp at this ⊢; omega) HB7.out.drew.le).mono ?_
            rintro e W8 ⟨rfl, hp⟩
            have HB8 := Lib.hid (HB7.out.drew.post hp)
            have hct := HCT.out _ _ HB8.out
            clear hp hHeld hS10
            refine hK.out _ _ (hct) (fun hHeld => ?_)
            clear hK K
            (try simp only [Act.put, List.setIfInBounds_toArray, List.set_cons_zero, List.set_cons_succ])
            refine wpAnyH_done (by kernel_rfl) ?_ _
            clear hHeld
            clear hct HB7
            gi_upto_region 11 with fail
            have hS11 : W8.drew.cell? ⟨w.heap.size + 2, 0, none⟩ = some (.pointer (some ⟨w.heap.size + 1, 0, none⟩)) := HCT.out _ _ HB8.out.drew
            refine wpIn_region_held_drew (S := fun X => X.cell? ⟨w.heap.size + 2, 0, none⟩ = some (.pointer (some ⟨w.heap.size + 1, 0, none⟩))) (by kernel_rfl) (by rfl) (fun ⟨_, _, h⟩ => h) hS11 (fun hHeld => ?_)
            (refine takeW (i := 0) rfl (by kernel_rfl) (by kernel_rfl) (by kernel_rfl) (fun _ _ _ h => h) (by rfl) (by assumption) (fun W hW => exec_load1 FL83 rfl rfl hW) ?_; (try simp only [Act.put, List.setIfInBounds_toArray, List.set_cons_zero, List.set_cons_succ]))
            (refine takeW (i := 1) (v := ?_) rfl (by kernel_rfl) (by kernel_rfl) (by kernel_rfl) (fun _ _ _ h => h) (by rfl) (by assumption) ?_ ?_; rotate_left; (intro W hW; (try dsimp only at hW); go_simp; try with_reducible rfl); (try simp only [Act.put, List.setIfInBounds_toArray, List.set_cons_zero, List.set_cons_succ]))
            (refine takeW (i := 2) (v := ?_) rfl (by kernel_rfl) (by kernel_rfl) (by kernel_rfl) (fun _ _ _ h => h) (by rfl) (by assumption) ?_ ?_; rotate_left; (intro W hW; (try dsimp only at hW); go_simp; try with_reducible rfl); (try simp only [Act.put, List.setIfInBounds_toArray, List.set_cons_zero, List.set_cons_succ]))
            (refine takeW (i := 3) (v := ?_) rfl (by kernel_rfl) (by kernel_rfl) (by kernel_rfl) (fun _ _ _ h => h) (by rfl) (by assumption) ?_ ?_; rotate_left; (intro W hW; (try dsimp only at hW); go_simp; try with_reducible rfl); (try simp only [Act.put, List.setIfInBounds_toArray, List.set_cons_zero, List.set_cons_succ]))
            (refine takeW (i := 4) rfl (by kernel_rfl) (by kernel_rfl) (by kernel_rfl) (fun _ _ _ h => h) (by rfl) (by assumption) (fun W hW => exec_and15 (n := c.toNat) rfl rfl hc8) ?_; (try simp only [Act.put, List.setIfInBounds_toArray, List.set_cons_zero, List.set_cons_succ]))
            (refine takeW (i := 5) rfl (by kernel_rfl) (by kernel_rfl) (by kernel_rfl) (fun _ _ _ h => h) (by rfl) (by assumption) (fun W hW => exec_ixu (l := digsL) (k := c.toNat % 16) rfl rfl rfl HG1.out) ?_; (try simp only [Act.put, List.setIfInBounds_toArray, List.set_cons_zero, List.set_cons_succ]))
            refine takeC (i := 6) rfl (by kernel_rfl) (by rfl) (fun K hK => ?_)
            go_simp
            refine (wbyte_any w.heap.size (w.heap.size + 1) ((T4 ++ hexL (D.take k)) ++ [hexC (c.toNat / 16)]) (hexC (c.toNat % 16)) _ HB8.out.drew.bld (by have := HTK.out; simp at this ⊢; omega) HB8.out.drew.le).mono ?_
            rintro e W9 ⟨rfl, hp⟩
            have HB9 := Lib.hid (HB8.out.drew.post hp)
            have hct := HCT.out _ _ HB9.out
            clear hp hHeld hS11
            refine hK.out _ _ (hct) (fun hHeld => ?_)
            clear hK K
            (try simp only [Act.put, List.setIfInBounds_toArray, List.set_cons_zero, List.set_cons_succ])
            refine wpAnyH_done (by kernel_rfl) ?_ _
            clear hHeld
            clear hct HB8
            rw [List.append_assoc, List.append_assoc, ← List.append_assoc (hexL _), HSN.out] at HB9
            gi_wp2
            go_roundw
            case rel => exact ⟨k + 1, by omega, by go_num, HB9⟩
            case measure => simp [intOf]; omega
          · obtain rfl : k = m := by omega
            have HB8 := HB7
            rw [List.take_of_length_le (by rw [HDB.out]; exact Nat.le_refl _)] at HB8
            clear HB7
            have ct := HCT.out _ _ HB8.out
            gi_wp2_with fail
            refine ⟨trivial, ?_⟩
            refine (CallsIn.inRound y (callsIn_wide.2 (wbyte_any w.heap.size (w.heap.size + 1) (T4 ++ hexL D) 10 wo HB8.out.bld (by have := HT4.out; have := HDL.out; have := HDB.out; rw [List.length_append, hexL_len]; omega) HB8.out.le))).mono ?_
            rintro e W9 ⟨rfl, hp⟩
            have HB9 := Lib.hid (HB8.out.post hp)
            clear hp HB8 ct
            gi_wp2
            exact HFIN.out _ HB9.out
      case stop =>
        rintro DD c pre W hDD hp h hK
        exact h.elim
      case done =>
        rintro D1 ys W hD1 hys hI hK1
        obtain rfl : ys = lo := hys
        obtain ⟨T1, hT1⟩ : ∃ T1, T0 ++ (ys.map (fun y => y.val.ok)).flatMap opT = T1 := ⟨_, rfl⟩
        have HT1L : Hid (T1.length ≤ 900000000) := by
          have h1 := flat_max (fun y : {y : Ho // OpG w y} => opT y.val.ok) 41000 ys (fun y _ => opT_len y.2)
          have h2 : (ys.map (fun y => y.val.ok)).flatMap opT = ys.flatMap (fun y : {y : Ho // OpG w y} => opT y.val.ok) := by rw [List.flatMap_map]
          have h3 := HLOL.out
          have h4 := HT0L.out
          show _ ≤ _
          rw [← hT1, List.length_append, h2]
          omega
        rw [hT1] at HTF
        have HI1 : Hid (BI w w.heap.size (w.heap.size + 1) Wb T1 W) := by rw [← hT1]; exact hI
        replace HS1 : Hid (SC x w W) := Lib.hid (SC.of (HI1.out.ok _ _ HS1.out.s (by simp) (fun c fz e => by cases e)) (HI1.out.ok _ _ HS1.out.t (by simp) (fun c fz e => by cases e)))
        have HM1 : Hid (Marks w.heap.size W [{ target := .collected D1, args := #[] }]) := Lib.hid ((Marks.nil w.heap.size Wb).add (fun D hD => by
          refine HI1.out.ok D _ hD (fun e => ?_) (fun c fz e => by cases e)
          cases e
          obtain ⟨cs, fz, hb⟩ := HB1.out.bld.blk
          rw [hb] at hD; cases hD) hD1 (by omega) hK1)
        obtain ⟨Wd, rfl⟩ : ∃ Wd : World, Wd = W := ⟨_, rfl⟩
        clear hseq hI hK1 HB1 HB1' HSB HBJ HCT hT1 hbb HLO HLOL
        have HBJ : Hid (BI w w.heap.size (w.heap.size + 1) Wd T1 Wd) := Lib.hid (BI.start HI1.out.bld HI1.out.bel)
        have HSB := HS1
        clear HI1 HS1 hbz HT0L
        have c7 : Wd.cell? ⟨w.heap.size, 7, none⟩ = some (.slice x.fa x.faults.length x.fc) := HSB.out.c7
        go_wp2_with fail
        refine (makeF_any x.fa x.faults.length x.fc Wd).mono ?_
        rintro e We ⟨rfl, hwb⟩
        have HB1 : Hid (BI w w.heap.size (w.heap.size + 1) Wd T1 We) := Lib.hid (by rw [← hwb]; exact HBJ.out.below (below1 _ _))
        have hg1 : We.cell? ⟨Wd.heap.size, 0, none⟩ = some (.slice x.fa x.faults.length x.fc) := by rw [← hwb, World.cell?_alloc_at _ _ _ _ rfl]; rfl
        clear hwb c7
        have HB1' : Hid (BI w w.heap.size (w.heap.size + 1) We T1 We) := Lib.hid (BI.start HB1.out.bld HB1.out.bel)
        have hbz : w.heap.size ≤ We.heap.size := HB1.out.le
        have hseq := eachF_stops (enc := fun y : {y : Fa // FtG y} => encF y.val) (fun _ => rfl) (fun y => encF_one y.val) 2 (by omega) Wd.heap.size w.heap.size (fun _ => False) (.slice x.fa x.faults.length x.fc) lf We HB1.out.le hg1 (fun W' hW' => HLF.out W' (HB1.out.bel.trans hW'.1))
        have HS1 : Hid (SC x w We) := Lib.hid (SC.of (HB1.out.ok _ _ HSB.out.s (by simp) (fun c fz e => by cases e)) (HB1.out.ok _ _ HSB.out.t (by simp) (fun c fz e => by cases e)))
        have HCT : Hid (∀ T X, BI w w.heap.size (w.heap.size + 1) We T X → X.cell? ⟨w.heap.size + 2, 0, none⟩ = some (.pointer (some ⟨w.heap.size + 1, 0, none⟩))) := Lib.hid (fun T X hX => Blk.cell (hX.ok _ _ HS1.out.t (by simp) (fun c fz e => by cases e)) 0)
        have hbb : w.heap.size + 1 < We.heap.size := HB1.out.bld.lt.2
        clear hg1
        have HMC : Hid (Marks w.heap.size We [{ target := .collected D1, args := #[] }]) := Lib.hid (HM1.out.keep (fun D hD => by
          refine HB1.out.ok D _ hD (fun e => ?_) (fun c fz e => by cases e)
          cases e
          obtain ⟨cs, fz, hb⟩ := HBJ.out.bld.blk
          rw [hb] at hD; cases hD))
        go_wp2_with fail
        refine (wpIn_wide (n := 3)).1 ?_
        refine wpIn_rangeFunc_ownH rfl (by omega) (gf := 55) (lb := #[.pointer (some ⟨Wd.heap.size, 0, none⟩)]) rfl trivial (enters_of Tryz.func55 (by kernel_rfl) rfl) hseq (fun h k => KQ.trans h k) (KQ.put hbz (fun k hk => hk.elim)) (Below.refl _ _) (fun _ => rfl)
          (fun pre W => BI w w.heap.size (w.heap.size + 1) We (T1 ++ (pre.map (fun y => y.val.fk)).flatMap ftT) W) (fun _ _ _ => False) (BI.own (f := fun pre : List {y : Fa // FtG y} => T1 ++ (pre.map (fun y => y.val.fk)).flatMap ftT) (Nat.le_refl _) hbz) (fun _ _ _ _ _ h _ _ => h) (by simpa using HB1'.out)
          (fun x => TF w We.heap.size x.val)
          (fun x a' s A B row hs hg hr => by obtain ⟨U, bx, h1, h2, h3⟩ := hs; exact ⟨U, bx, h1, Blk.own _ _ _ s A B row h2 hg (fun r e => (hr r e).2), h3⟩)
          ?assign ?body ?done ?stop
        case assign =>
          rintro y pre x W K hI hK
          unfold encV
          gi_wp2_with (refine wpListIn_storeW W39 rfl rfl rfl (encF x.val) rfl rfl (encF_one x.val) rfl ?_)
          exact hK _ _ ((KeepsOthers.alloc _ _).from _) (KQ.of_below (below1 _ _) hI.le) (hI.below (below1 _ _)) (TF.mk' W.heap.size rfl (Blk.new' rfl) hI.sz)
        case body =>
          as_aux_lemma =>
          rintro y pre x1 a' W hl0 hr0 hI ⟨U2, bx, rfl, hBx, hHx⟩ hlen
          have hbxb : bx ≠ w.heap.size + 1 := by omega
          obtain ⟨TP, hTP⟩ : ∃ TP, T1 ++ (pre.map (fun y => y.val.fk)).flatMap ftT = TP := ⟨_, rfl⟩
          have hgx := x1.2
          have HTS : Hid (T1 ++ ((pre ++ [x1]).map (fun y => y.val.fk)).flatMap ftT = TP ++ ftT x1.val.fk) := by
            show _ = _
            rw [List.map_append, List.flatMap_append, ← List.append_assoc, hTP]
            simp
          have HTL1 : Hid (TP.length ≤ 1800000000) := by
            have h1 := flat_max (fun y : {y : Fa // FtG y} => ftT y.val.fk) 41000 pre (fun y _ => ftT_len y.2)
            have h2 : (pre.map (fun y => y.val.fk)).flatMap ftT = pre.flatMap (fun y : {y : Fa // FtG y} => ftT y.val.fk) := by rw [List.flatMap_map]
            have h3 := HLFL.out
            have h4 := HT1L.out
            show _ ≤ _
            rw [← hTP, List.length_append, h2]
            omega
          have HI0 : Hid (BI w w.heap.size (w.heap.size + 1) We TP W) := by rw [← hTP]; exact hI
          have HBI0 : Hid (BI w w.heap.size (w.heap.size + 1) W TP W) := Lib.hid (BI.start HI0.out.bld HI0.out.bel)
          have HGX := Lib.hid hgx
          have HFIN : Hid (∀ X, BI w w.heap.size (w.heap.size + 1) W (TP ++ ftT x1.val.fk) X → KeepsFrom We.heap.size W X ∧ KQ w.heap.size (fun _ => False) W X ∧ BI w w.heap.size (w.heap.size + 1) We (T1 ++ ((pre ++ [x1]).map (fun y => y.val.fk)).flatMap ftT) X) := fun X hX =>
            ⟨(hX.others HI0.out.bld).from _, BI.kq HI0.out hX (fun k hk => hk.elim), by rw [HTS.out]; exact HI0.out.join hX⟩
          replace HCT : Hid (∀ T X, BI w w.heap.size (w.heap.size + 1) W T X → X.cell? ⟨w.heap.size + 2, 0, none⟩ = some (.pointer (some ⟨w.heap.size + 1, 0, none⟩))) := Lib.hid (fun T X hX => HCT.out T X (HI0.out.join hX))
          have HXB : Hid (∀ T X, BI w w.heap.size (w.heap.size + 1) W T X → ∀ (j : Nat) (u : Value), (encF x1.val)[j]? = some u → X.cell? ⟨bx, j, none⟩ = some u) := Lib.hid (fun T X hX j u hu => Blk.list0 (hX.ok _ _ hBx (by simpa using hbxb) (fun c fz e => by cases e)) hu)
          clear hI hl0 hr0 hTP hBx hgx HI0 HTS hseq hlen hbb hbz HSB HS1 HB1 HB1' HBJ HM1 HMC
          generalize x1.val = xv at *
          obtain ⟨W2, hW2⟩ : ∃ W2, W.alloc (.cells #[.int .i64 xv.k, .int .i64 xv.n, .int .i64 xv.c, .int .i64 xv.r, .int .i64 xv.s, .int .i64 xv.a, .int .i64 xv.b] 3) = W2 := ⟨_, rfl⟩
          obtain ⟨g2, hg2⟩ : ∃ g2, W.heap.size = g2 := ⟨_, rfl⟩
          have HRUN := Lib.hid (run_ints7 W xv.k xv.n xv.c xv.r xv.s xv.a xv.b)
          have HNK : Hid (NumsK w.heap.size W2 (.slice (some ⟨g2, 0, none⟩) 7 7) xv.fk.ints) := Lib.hid (by rw [← hW2]; exact numsK_row g2 xv.fk.ints hg2 (HGX.out) (by simp [Fk.ints]))
          have HB2 : Hid (BI w w.heap.size (w.heap.size + 1) W TP W2) := Lib.hid (by rw [← hW2]; exact HBI0.out.below (below1 _ _))
          rw [hW2, hg2] at HRUN
          clear hW2 hg2
          have ct := HCT.out _ _ HBI0.out
          have q0 : W.cell? ⟨bx, 0, none⟩ = some (.int .i64 xv.k) := HXB.out _ _ HBI0.out 0 _ rfl
          have q1 : W.cell? ⟨bx, 1, none⟩ = some (.int .i64 xv.n) := HXB.out _ _ HBI0.out 1 _ rfl
          have q2 : W.cell? ⟨bx, 2, none⟩ = some (.int .i64 xv.c) := HXB.out _ _ HBI0.out 2 _ rfl
          have q3 : W.cell? ⟨bx, 3, none⟩ = some (.int .i64 xv.r) := HXB.out _ _ HBI0.out 3 _ rfl
          have q4 : W.cell? ⟨bx, 4, none⟩ = some (.int .i64 xv.s) := HXB.out _ _ HBI0.out 4 _ rfl
          have q5 : W.cell? ⟨bx, 5, none⟩ = some (.int .i64 xv.a) := HXB.out _ _ HBI0.out 5 _ rfl
          have q6 : W.cell? ⟨bx, 6, none⟩ = some (.int .i64 xv.b) := HXB.out _ _ HBI0.out 6 _ rfl
          gi_wp2_with (((with_reducible show wpListIn _ _ _ _ _ (Oper.mk (some 96) _ _ _ _ _ :: _) _ _); refine wpListIn_val rfl (by rfl) (fun c h => by cases h) (exec_ints7 HRUN.out rfl rfl rfl rfl rfl rfl rfl rfl) ?_))
          refine ⟨trivial, ?_⟩
          refine (CallsIn.inRound y (callsIn_wide.2 (numbers_any w.heap.size (w.heap.size + 1) TP wFault _ xv.fk.ints W2 HB2.out.bld HNK.out.1 HNK.out.2 (by simp [Fk.ints]) (by have := HTL1.out; simp [wFault]; omega)))).mono ?_
          rintro e W3 ⟨rfl, hp⟩
          have HB3 := Lib.hid (HB2.out.post hp)
          have HTL3 : Hid ((TP ++ lineT wFault xv.fk.ints).length ≤ 2000000000) := by
            have h1 := numT_len xv.fk.ints (HGX.out)
            have h3 : xv.fk.ints.length = 7 := rfl
            have h4 := HTL1.out
            have h5 : wFault.length = 5 := rfl
            show _ ≤ _
            unfold lineT
            simp only [List.length_append]
            omega
          clear hp HRUN HNK HB2 HBI0 ct q0 q1 q2 q3 q4 q5 q6
          have ct := HCT.out _ _ HB3.out
          gi_wp2_with fail
          refine ⟨trivial, ?_⟩
          refine (CallsIn.inRound y (callsIn_wide.2 (wbyte_any w.heap.size (w.heap.size + 1) (TP ++ lineT wFault xv.fk.ints) 10 W3 HB3.out.bld (by have := HTL3.out; omega) HB3.out.le))).mono ?_
          rintro e W4 ⟨rfl, hp⟩
          have HB4 := Lib.hid (HB3.out.post hp)
          clear hp HB3 ct
          rw [List.append_assoc, ← ftT_eq] at HB4
          gi_wp2
          exact HFIN.out _ HB4.out
        case stop =>
          rintro DD c pre W hDD hp h hK
          exact h.elim
        case done =>
          rintro D2 ys W hD1 hys hI hK1
          obtain rfl : ys = lf := hys
          obtain ⟨T2, hT2⟩ : ∃ T2, T1 ++ (ys.map (fun y => y.val.fk)).flatMap ftT = T2 := ⟨_, rfl⟩
          rw [hT2] at HTF
          have HI2 : Hid (BI w w.heap.size (w.heap.size + 1) We T2 W) := by rw [← hT2]; exact hI
          have HM2 : Hid (Marks w.heap.size W [{ target := .collected D2, args := #[] }, { target := .collected D1, args := #[] }]) := Lib.hid (HMC.out.add (fun D hD => by
            refine HI2.out.ok D _ hD (fun e => ?_) (fun c fz e => by cases e)
            cases e
            obtain ⟨cs, fz, hb⟩ := HB1.out.bld.blk
            rw [hb] at hD; cases hD) hD1 (by omega) hK1)
          have ct := HCT.out _ _ HI2.out
          clear hseq hI hK1 HB1 HB1' HSB HS1 HMC HM1 HBJ HCT hT2 hbb HLF HLFL
          have HNE : Hid (T2 ≠ []) := by show _ ≠ _; rw [← HTF.out]; exact printS_ne _
          have HST := Lib.hid (string_any w.heap.size (w.heap.size + 1) T2 W HI2.out.bld HNE.out)
          have HBD := Lib.hid HI2.out.bld
          have HBE := Lib.hid HI2.out.bel
          clear HI2
          go_wp2_with fail
          refine HST.out.mono ?_
          rintro e W5 ⟨rfl, hb5, hk5⟩
          have HB5 := Lib.hid (HBE.out.trans hb5)
          have HMK5 := Lib.hid (HM2.out.keep (fun E hE => by
            refine hk5 E _ hE (fun e => ?_) (fun c fz e => by cases e)
            cases e
            obtain ⟨cs, fz, hb⟩ := HBD.out.blk
            rw [hb] at hE; cases hE))
          clear hb5 hk5 HST ct
          go_wp2
          obtain ⟨Ds, hd1, hd2, hd3⟩ := HMK5.out
          show LeavesInM _ _ _ _ _ _ [{ target := .collected D2, args := #[] }, { target := .collected D1, args := #[] }] _ _
          rw [hd2]
          exact leave_marks Ds _ hd1 hd3 (fun X hX => ⟨by simp [results, Tryz.f9, go_sem], HPO.out X _ (HB5.out.trans hX) HTF.out.symm⟩)
    · go_simp
      refine (truths_k w.heap.size _ x.ups.l _ (HPR.out.good.ups.below HPS.out.bel) HPR.out.ups).mono ?_
      rintro e W9 ⟨⟨at', ct, rfl, hvt⟩, hb⟩
      have HPS := Lib.hid (HPS.out.keep hb)
      (try have HHD := Lib.hid (HHD.out.keep hb))
      (try have HBL := Lib.hid (HBL.out.keep hb))
      (try have HNR := Lib.hid (HNR.out.below hb))
      (try have HTR := Lib.hid (HTR.out.below hb))
      have HTR : Hid (NumsK w.heap.size W9 (.slice at' x.ups.l.length ct) (x.ups.l.map b2i)) := Lib.hid hvt
      clear hvt
      clear hb hHeld
      refine hK.out _ _ HPS.out.sb (fun hHeld => ?_)
      clear hK K
      try simp only [Act.put, List.setIfInBounds_toArray, List.set_cons_zero, List.set_cons_succ]
      obtain ⟨W6, hW6⟩ : ∃ W6, W9.alloc (.cells #[.int .i64 x.rounds] 3) = W6 := ⟨_, rfl⟩
      obtain ⟨g6, hg6⟩ : ∃ g6, W9.heap.size = g6 := ⟨_, rfl⟩
      have HNR : Hid (NumsK w.heap.size W6 (.slice (some ⟨g6, 0, none⟩) 1 1) [x.rounds]) := Lib.hid (by rw [← hW6, ← hg6]; exact numsK_new _ _ _ HPR.out.good.rounds.1 HPR.out.good.rounds.2)
      have HB6 : Hid (Below W9.heap.size W9 W6) := Lib.hid (by rw [← hW6]; exact below1 _ _)
      have HX6 := Lib.hid (run_one3 W9 x.rounds)
      rw [hW6, hg6] at HX6
      clear hW6 hg6
      refine takeV (i := 6) rfl (by kernel_rfl) (by rfl) (exec_run1 HX6.out rfl rfl) ((HPS.out.keep HB6.out).sb) ?_
      (try simp only [Act.put, List.setIfInBounds_toArray, List.set_cons_zero, List.set_cons_succ])
      have hHeld : Hid (SC x w W6) := (HPS.out.keep HB6.out).sb
      have HPS := Lib.hid (HPS.out.keep HB6.out)
      (try have HHD := Lib.hid (HHD.out.keep HB6.out))
      (try have HBL := Lib.hid (HBL.out.keep HB6.out))
      (try have HTR := Lib.hid (HTR.out.below HB6.out))
      clear HB6 HX6
      obtain ⟨W18, hW18⟩ : ∃ W18, W6.alloc (.cells #[.slice (some ⟨g6, 0, none⟩) 1 1, .slice at' x.ups.l.length ct, .slice x.offs.a x.offs.l.length x.offs.c, .slice x.gates.a x.gates.l.length x.gates.c, .slice x.guards.a x.guards.l.length x.guards.c, .slice x.drifts.a x.drifts.l.length x.drifts.c] 23) = W18 := ⟨_, rfl⟩
      obtain ⟨g18, hg18⟩ : ∃ g18, W6.heap.size = g18 := ⟨_, rfl⟩
      have HBL : Hid (Blk W18 g18 23 #[.slice (some ⟨g6, 0, none⟩) 1 1, .slice at' x.ups.l.length ct, .slice x.offs.a x.offs.l.length x.offs.c, .slice x.gates.a x.gates.l.length x.gates.c, .slice x.guards.a x.guards.l.length x.guards.c, .slice x.drifts.a x.drifts.l.length x.drifts.c]) := Lib.hid (by rw [← hW18]; exact Blk.new' hg18)
      have HB18 : Hid (Below W6.heap.size W6 W18) := Lib.hid (by rw [← hW18]; exact below1 _ _)
      have HX18 := Lib.hid (run_six26 W6 (some ⟨g6, 0, none⟩) at' x.offs.a x.gates.a x.guards.a x.drifts.a 1 1 x.ups.l.length ct x.offs.l.length x.offs.c x.gates.l.length x.gates.c x.guards.l.length x.guards.c x.drifts.l.length x.drifts.c)
      rw [hW18, hg18] at HX18
      clear hW18 hg18
      refine takeV (i := 18) rfl (by kernel_rfl) (by rfl) (exec_run6 HX18.out rfl rfl rfl rfl rfl rfl rfl) ((HPS.out.keep HB18.out).sb) ?_
      (try simp only [Act.put, List.setIfInBounds_toArray, List.set_cons_zero, List.set_cons_succ])
      have hHeld : Hid (SC x w W18) := (HPS.out.keep HB18.out).sb
      have HPS := Lib.hid (HPS.out.keep HB18.out)
      (try have HHD := Lib.hid (HHD.out.keep HB18.out))
      (try have HNR := Lib.hid (HNR.out.below HB18.out))
      (try have HTR := Lib.hid (HTR.out.below HB18.out))
      clear HB18 HX18
      refine takeC (i := 19) rfl (by kernel_rfl) (by rfl) (fun K hK => ?_)
      go_simp
      refine (rows_any w.heap.size (w.heap.size + 1) gw g18 [] headsL _ [[x.rounds], x.ups.l.map b2i, x.offs.l, x.gates.l, x.guards.l, x.drifts.l] W18 HPS.out.bld HHD.out HBL.out rfl rfl (by decide) (anyRows HNR.out HTR.out HPR.out HPS.out.bel) (by decide) (by simp)).mono ?_
      rintro e W19 ⟨rfl, hp⟩
      have HBP := Lib.hid (BI.post (BI.start HPS.out.bld HPS.out.bel) hp)
      have HS19 : Hid (SC x w W19) := Lib.hid (SC.of (blk_post HPS.out.s hp (by omega)) (blk_post HPS.out.t hp (by omega)))
      clear hp hHeld HHD HBL HTR HNR HPS
      refine hK.out _ _ HS19 (fun hHeld => ?_)
      clear hK K
      try simp only [Act.put, List.setIfInBounds_toArray, List.set_cons_zero, List.set_cons_succ]
      refine wpAnyH_done (by kernel_rfl) ?_ _
      refine NoPanic.normal ?_
      clear hHeld
      rw [List.nil_append, HT0.out] at HBP
      obtain ⟨Wa, rfl⟩ : ∃ Wa : World, Wa = W19 := ⟨_, rfl⟩
      have HBJ : Hid (BI w w.heap.size (w.heap.size + 1) Wa T0 Wa) := Lib.hid (BI.start HBP.out.bld HBP.out.bel)
      clear HBP HT0
      have HSB := HS19
      clear HS19
      obtain ⟨lo, hlo⟩ : ∃ lo : List {y : Ho // OpG w y}, lo.map Subtype.val = x.ops := ⟨_, sub_val x.ops (fun y hy => ⟨HPR.out.good.opg y hy, HPR.out.ops.2 y hy⟩)⟩
      obtain ⟨lf, hlf⟩ : ∃ lf : List {y : Fa // FtG y}, lf.map Subtype.val = x.faults := ⟨_, sub_val x.faults HPR.out.fts⟩
      have HLO : Hid (∀ W', Below w.heap.size w W' → Rd (fun y : {y : Ho // OpG w y} => encH y.val) 6 W' (.slice x.oa x.ops.length x.oc) lo) := fun W' hW' => rd_val (by rw [hlo]; exact HPR.out.good.ops.below hW')
      have HLF : Hid (∀ W', Below w.heap.size w W' → Rd (fun y : {y : Fa // FtG y} => encF y.val) 7 W' (.slice x.fa x.faults.length x.fc) lf) := fun W' hW' => rd_val (by rw [hlf]; exact HPR.out.good.faults.below hW')
      have HLOL : Hid (lo.length ≤ 20000) := by have := congrArg List.length hlo; rw [List.length_map] at this; show _ ≤ _; rw [this]; exact HPR.out.ops.1
      have HLFL : Hid (lf.length ≤ 20000) := by have := congrArg List.length hlf; rw [List.length_map] at this; show _ ≤ _; rw [this]; exact HPR.out.fl
      have HTF : Hid (printS x.k = (T0 ++ (lo.map (fun y => y.val.ok)).flatMap opT) ++ (lf.map (fun y => y.val.fk)).flatMap ftT) := by show _ = _; rw [HTE.out, ← hlo, ← hlf, List.map_map, List.map_map, List.append_assoc]; rfl
      clear hlo hlf HTE HPR
      have c6 : Wa.cell? ⟨w.heap.size, 6, none⟩ = some (.slice x.oa x.ops.length x.oc) := HSB.out.c6
      go_wp2_with fail
      refine (makeO_any x.oa x.ops.length x.oc Wa).mono ?_
      rintro e Wb ⟨rfl, hwb⟩
      have HB1 : Hid (BI w w.heap.size (w.heap.size + 1) Wa T0 Wb) := Lib.hid (by rw [← hwb]; exact HBJ.out.below (below1 _ _))
      have hg1 : Wb.cell? ⟨Wa.heap.size, 0, none⟩ = some (.slice x.oa x.ops.length x.oc) := by rw [← hwb, World.cell?_alloc_at _ _ _ _ rfl]; rfl
      clear hwb c6
      have HB1' : Hid (BI w w.heap.size (w.heap.size + 1) Wb T0 Wb) := Lib.hid (BI.start HB1.out.bld HB1.out.bel)
      have hbz : w.heap.size ≤ Wb.heap.size := HB1.out.le
      have hseq := eachO_stops (enc := fun y : {y : Ho // OpG w y} => encH y.val) (fun _ => rfl) (fun y => encH_one y.val) 2 (by omega) Wa.heap.size w.heap.size (fun _ => False) (.slice x.oa x.ops.length x.oc) lo Wb HB1.out.le hg1 (fun W' hW' => HLO.out W' (HB1.out.bel.trans hW'.1))
      have HS1 : Hid (SC x w Wb) := Lib.hid (SC.of (HB1.out.ok _ _ HSB.out.s (by simp) (fun c fz e => by cases e)) (HB1.out.ok _ _ HSB.out.t (by simp) (fun c fz e => by cases e)))
      have HCT : Hid (∀ T X, BI w w.heap.size (w.heap.size + 1) Wb T X → X.cell? ⟨w.heap.size + 2, 0, none⟩ = some (.pointer (some ⟨w.heap.size + 1, 0, none⟩))) := Lib.hid (fun T X hX => Blk.cell (hX.ok _ _ HS1.out.t (by simp) (fun c fz e => by cases e)) 0)
      have hbb : w.heap.size + 1 < Wb.heap.size := HB1.out.bld.lt.2
      clear hg1
      go_wp2_with fail
      refine (wpIn_wide (n := 3)).1 ?_
      refine wpIn_rangeFunc_ownH rfl (by omega) (gf := 53) (lb := #[.pointer (some ⟨Wa.heap.size, 0, none⟩)]) rfl trivial (enters_of Tryz.func53 (by kernel_rfl) rfl) hseq (fun h k => KQ.trans h k) (KQ.put hbz (fun k hk => hk.elim)) (Below.refl _ _) (fun _ => rfl)
        (fun pre W => BI w w.heap.size (w.heap.size + 1) Wb (T0 ++ (pre.map (fun y => y.val.ok)).flatMap opT) W) (fun _ _ _ => False) (BI.own (f := fun pre : List {y : Ho // OpG w y} => T0 ++ (pre.map (fun y => y.val.ok)).flatMap opT) (Nat.le_refl _) hbz) (fun _ _ _ _ _ h _ _ => h) (by simpa using HB1'.out)
        (fun x => TO w Wb.heap.size x.val)
        (fun x a' s A B row hs hg hr => by obtain ⟨U, bx, h1, h2, h3⟩ := hs; exact ⟨U, bx, h1, Blk.own _ _ _ s A B row h2 hg (fun r e => (hr r e).2), h3⟩)
        ?assign ?body ?done ?stop
      case assign =>
        rintro y pre x W K hI hK
        unfold encV
        gi_wp2_with (refine wpListIn_storeW W43 rfl rfl rfl (encH x.val) rfl rfl (encH_one x.val) rfl ?_)
        exact hK _ _ ((KeepsOthers.alloc _ _).from _) (KQ.of_below (below1 _ _) hI.le) (hI.below (below1 _ _)) (TO.mk' W.heap.size rfl (Blk.new' rfl) hI.sz)
      case body =>
        as_aux_lemma =>
        rintro y pre x1 a' W hl0 hr0 hI ⟨U2, bx, rfl, hBx, hHx⟩ hlen
        have hbxb : bx ≠ w.heap.size + 1 := by omega
        obtain ⟨TP, hTP⟩ : ∃ TP, T0 ++ (pre.map (fun y => y.val.ok)).flatMap opT = TP := ⟨_, rfl⟩
        have hgx := x1.2
        have HTS : Hid (T0 ++ ((pre ++ [x1]).map (fun y => y.val.ok)).flatMap opT = TP ++ opT x1.val.ok) := by
          show _ = _
          rw [List.map_append, List.flatMap_append, ← List.append_assoc, hTP]
          simp
        have HTL1 : Hid (TP.length ≤ 900000000) := by
          have h1 := flat_max (fun y : {y : Ho // OpG w y} => opT y.val.ok) 41000 pre (fun y _ => opT_len y.2)
          have h2 : (pre.map (fun y => y.val.ok)).flatMap opT = pre.flatMap (fun y : {y : Ho // OpG w y} => opT y.val.ok) := by rw [List.flatMap_map]
          have h3 := HLOL.out
          have h4 := HT0L.out
          show _ ≤ _
          rw [← hTP, List.length_append, h2]
          omega
        have HI0 : Hid (BI w w.heap.size (w.heap.size + 1) Wb TP W) := by rw [← hTP]; exact hI
        have HBI0 : Hid (BI w w.heap.size (w.heap.size + 1) W TP W) := Lib.hid (BI.start HI0.out.bld HI0.out.bel)
        have HGX := Lib.hid hgx
        have HFIN : Hid (∀ X, BI w w.heap.size (w.heap.size + 1) W (TP ++ opT x1.val.ok) X → KeepsFrom Wb.heap.size W X ∧ KQ w.heap.size (fun _ => False) W X ∧ BI w w.heap.size (w.heap.size + 1) Wb (T0 ++ ((pre ++ [x1]).map (fun y => y.val.ok)).flatMap opT) X) := fun X hX =>
          ⟨(hX.others HI0.out.bld).from _, BI.kq HI0.out hX (fun k hk => hk.elim), by rw [HTS.out]; exact HI0.out.join hX⟩
        replace HCT : Hid (∀ T X, BI w w.heap.size (w.heap.size + 1) W T X → X.cell? ⟨w.heap.size + 2, 0, none⟩ = some (.pointer (some ⟨w.heap.size + 1, 0, none⟩))) := Lib.hid (fun T X hX => HCT.out T X (HI0.out.join hX))
        have HXB : Hid (∀ T X, BI w w.heap.size (w.heap.size + 1) W T X → ∀ (j : Nat) (u : Value), (encH x1.val)[j]? = some u → X.cell? ⟨bx, j, none⟩ = some u) := Lib.hid (fun T X hX j u hu => Blk.list0 (hX.ok _ _ hBx (by simpa using hbxb) (fun c fz e => by cases e)) hu)
        clear hI hl0 hr0 hTP hBx hgx HI0 HTS hseq hlen hbb hbz HSB HS1 HB1 HB1' HBJ 
        generalize x1.val = xv at *
        obtain ⟨W2, hW2⟩ : ∃ W2, W.alloc (.cells #[.int .i64 xv.n, .int .i64 xv.r, .int .i64 xv.s, .int .i64 xv.k, .int .i64 xv.v] 3) = W2 := ⟨_, rfl⟩
        obtain ⟨g2, hg2⟩ : ∃ g2, W.heap.size = g2 := ⟨_, rfl⟩
        have HRUN := Lib.hid (run_ints5 W xv.n xv.r xv.s xv.k xv.v)
        have HNK : Hid (NumsK w.heap.size W2 (.slice (some ⟨g2, 0, none⟩) 5 5) xv.ok.ints) := Lib.hid (by rw [← hW2]; exact numsK_row g2 xv.ok.ints hg2 (opG_ints HGX.out) (by simp [Ok.ints]))
        have HB2 : Hid (BI w w.heap.size (w.heap.size + 1) W TP W2) := Lib.hid (by rw [← hW2]; exact HBI0.out.below (below1 _ _))
        rw [hW2, hg2] at HRUN
        clear hW2 hg2
        have ct := HCT.out _ _ HBI0.out
        have q0 : W.cell? ⟨bx, 0, none⟩ = some (.int .i64 xv.n) := HXB.out _ _ HBI0.out 0 _ rfl
        have q1 : W.cell? ⟨bx, 1, none⟩ = some (.int .i64 xv.r) := HXB.out _ _ HBI0.out 1 _ rfl
        have q2 : W.cell? ⟨bx, 2, none⟩ = some (.int .i64 xv.s) := HXB.out _ _ HBI0.out 2 _ rfl
        have q3 : W.cell? ⟨bx, 3, none⟩ = some (.int .i64 xv.k) := HXB.out _ _ HBI0.out 3 _ rfl
        have q4 : W.cell? ⟨bx, 4, none⟩ = some (.int .i64 xv.v) := HXB.out _ _ HBI0.out 4 _ rfl
        gi_wp2_with (((with_reducible show wpListIn _ _ _ _ _ (Oper.mk (some 45) _ _ _ _ _ :: _) _ _); refine wpListIn_val rfl (by rfl) (fun c h => by cases h) (exec_ints5 HRUN.out rfl rfl rfl rfl rfl rfl) ?_))
        refine ⟨trivial, ?_⟩
        refine (CallsIn.inRound y (callsIn_wide.2 (numbers_any w.heap.size (w.heap.size + 1) TP wOp _ xv.ok.ints W2 HB2.out.bld HNK.out.1 HNK.out.2 (by simp [Ok.ints]) (by have := HTL1.out; simp [wOp]; omega)))).mono ?_
        rintro e W3 ⟨rfl, hp⟩
        have HB3 := Lib.hid (HB2.out.post hp)
        have HTL3 : Hid ((TP ++ lineT wOp xv.ok.ints).length ≤ 2000000000) := by
          have h1 := numT_len xv.ok.ints (opG_ints HGX.out)
          have h3 : xv.ok.ints.length = 5 := rfl
          have h4 := HTL1.out
          have h5 : wOp.length = 2 := rfl
          show _ ≤ _
          unfold lineT
          simp only [List.length_append]
          omega
        clear hp HRUN HNK HB2 HBI0 ct q0 q1 q2 q3 q4
        have ct := HCT.out _ _ HB3.out
        gi_wp2_with fail
        refine ⟨trivial, ?_⟩
        refine (CallsIn.inRound y (callsIn_wide.2 (wstr_any w.heap.size (w.heap.size + 1) (TP ++ lineT wOp xv.ok.ints) [32, 120] W3 HB3.out.bld (by have := HTL3.out; rw [List.length_append] at this; simp only [List.length_append, List.length_cons, List.length_nil]; omega) HB3.out.le))).mono ?_
        rintro e W4 ⟨rfl, hp⟩
        have HB4 := Lib.hid (HB3.out.post hp)
        clear hp HB3 ct
        have q5 : W4.cell? ⟨bx, 5, none⟩ = some (.slice xv.a xv.d.length xv.c) := HXB.out _ _ HB4.out 5 _ rfl
        have HBY : Hid (∀ T X, BI w w.heap.size (w.heap.size + 1) W T X → Bys X (.slice xv.a xv.d.length xv.c) (bytesOf xv.d)) := Lib.hid (fun T X hX => bys_of (HGX.out.1.d.below hX.bel))
        have HDL : Hid (xv.d.length ≤ 20000) := HGX.out.2
        have HDB : Hid ((bytesOf xv.d).length = xv.d.length) := bytesOf_len _
        have HFIN2 : Hid (TP ++ opT xv.ok = ((TP ++ lineT wOp xv.ok.ints) ++ [32, 120]) ++ hexL (bytesOf xv.d) ++ [10]) := by show _ = _; rw [opT_eq]; simp [Ho.ok]
        have HT4 : Hid (((TP ++ lineT wOp xv.ok.ints) ++ [32, 120]).length ≤ 2000000002) := by show _ ≤ _; rw [List.length_append]; exact Nat.add_le_add HTL3.out (Nat.le_refl 2)
        rw [HFIN2.out] at HFIN
        clear HFIN2 HTL3 HTL1
        generalize ((TP ++ lineT wOp xv.ok.ints) ++ [32, 120]) = T4 at *
        generalize bytesOf xv.d = D at *
        generalize xv.d.length = m at *
        generalize xv.a = da at *
        generalize xv.c = dc at *
        gi_wp2_with fail
        gi_loopw [54] (fun i wr => ∃ k : Nat, k ≤ m ∧ i = .int .i64 k ∧ Hid (BI w w.heap.size (w.heap.size + 1) W (T4 ++ hexL (D.take k)) wr)) (fun i _ => m - (intOf i).toNat)
        case atStart => exact ⟨0, Nat.zero_le _, rfl, Lib.hid (by simpa [hexL] using HB4.out)⟩
        case round =>
          clear HB4 q5
          obtain ⟨k, hk, rfl, HB7⟩ := hrel
          obtain ⟨wo, rfl⟩ : ∃ wo : World, wo = wr := ⟨_, rfl⟩
          by_cases hlt : k < m
          · obtain ⟨c, hc0⟩ : ∃ c, D[k]? = some c := ⟨_, List.getElem?_eq_getElem (by rw [HDB.out]; exact hlt)⟩
            obtain ⟨bb, off, hba, hbl, hc⟩ := (HBY.out _ _ HB7.out).row (by rintro rfl; simp at hc0)
            have cb : wo.cell? ⟨bb, off + k, none⟩ = some (.int .u8 (c.toNat : Int)) := by
              have := hc k c hc0 0 _ rfl
              simpa [u8c] using this
            have hc8 := c.toNat_lt
            have hm20 : m ≤ 20000 := HDL.out
            have HG0 := Lib.hid (digs_at (c.toNat / 16) (by omega))
            have HG1 := Lib.hid (digs_at (c.toNat % 16) (by omega))
            have HSN := Lib.hid (hexL_snoc hc0)
            have HTK : Hid ((T4 ++ hexL (D.take k)).length + 2 ≤ 3000000000) := by show _ ≤ _; rw [List.length_append, hexL_len, List.length_take]; have := HT4.out; have := HDL.out; omega
            subst hba
            clear hc hc0 hbl
            gi_upto_region 10 with fail
            have hS10 : wo.drew.cell? ⟨w.heap.size + 2, 0, none⟩ = some (.pointer (some ⟨w.heap.size + 1, 0, none⟩)) := HCT.out _ _ HB7.out.drew
            refine wpIn_region_held_drew (S := fun X => X.cell? ⟨w.heap.size + 2, 0, none⟩ = some (.pointer (some ⟨w.heap.size + 1, 0, none⟩))) (by kernel_rfl) (by rfl) (fun ⟨_, _, h⟩ => h) hS10 (fun hHeld => ?_)
            (refine takeW (i := 0) rfl (by kernel_rfl) (by kernel_rfl) (by kernel_rfl) (fun _ _ _ h => h) (by rfl) (by assumption) (fun W hW => exec_load1 FL83 rfl rfl hW) ?_; (try simp only [Act.put, List.setIfInBounds_toArray, List.set_cons_zero, List.set_cons_succ]))
            (refine takeW (i := 1) (v := ?_) rfl (by kernel_rfl) (by kernel_rfl) (by kernel_rfl) (fun _ _ _ h => h) (by rfl) (by assumption) ?_ ?_; rotate_left; (intro W hW; (try dsimp only at hW); go_simp; try with_reducible rfl); (try simp only [Act.put, List.setIfInBounds_toArray, List.set_cons_zero, List.set_cons_succ]))
            (refine takeW (i := 2) (v := ?_) rfl (by kernel_rfl) (by kernel_rfl) (by kernel_rfl) (fun _ _ _ h => h) (by rfl) (by assumption) ?_ ?_; rotate_left; (intro W hW; (try dsimp only at hW); go_simp; try with_reducible rfl); (try simp only [Act.put, List.setIfInBounds_toArray, List.set_cons_zero, List.set_cons_succ]))
            (refine takeW (i := 3) (v := ?_) rfl (by kernel_rfl) (by kernel_rfl) (by kernel_rfl) (fun _ _ _ h => h) (by rfl) (by assumption) ?_ ?_; rotate_left; (intro W hW; (try dsimp only at hW); go_simp; try with_reducible rfl); (try simp only [Act.put, List.setIfInBounds_toArray, List.set_cons_zero, List.set_cons_succ]))
            (refine takeW (i := 4) rfl (by kernel_rfl) (by kernel_rfl) (by kernel_rfl) (fun _ _ _ h => h) (by rfl) (by assumption) (fun W hW => exec_shr4 (n := c.toNat) rfl rfl) ?_; (try simp only [Act.put, List.setIfInBounds_toArray, List.set_cons_zero, List.set_cons_succ]))
            (refine takeW (i := 5) rfl (by kernel_rfl) (by kernel_rfl) (by kernel_rfl) (fun _ _ _ h => h) (by rfl) (by assumption) (fun W hW => exec_ixu (l := digsL) (k := c.toNat / 16) rfl rfl rfl HG0.out) ?_; (try simp only [Act.put, List.setIfInBounds_toArray, List.set_cons_zero, List.set_cons_succ]))
            refine takeC (i := 6) rfl (by kernel_rfl) (by rfl) (fun K hK => ?_)
            go_simp
            refine (wbyte_any w.heap.size (w.heap.size + 1) (T4 ++ hexL (D.take k)) (hexC (c.toNat / 16)) _ HB7.out.drew.bld (by have := HTK.out; simp at this ⊢; omega) HB7.out.drew.le).mono ?_
            rintro e W8 ⟨rfl, hp⟩
            have HB8 := Lib.hid (HB7.out.drew.post hp)
            have hct := HCT.out _ _ HB8.out
            clear hp hHeld hS10
            refine hK.out _ _ (hct) (fun hHeld => ?_)
            clear hK K
            (try simp only [Act.put, List.setIfInBounds_toArray, List.set_cons_zero, List.set_cons_succ])
            refine wpAnyH_done (by kernel_rfl) ?_ _
            clear hHeld
            clear hct HB7
            gi_upto_region 11 with fail
            have hS11 : W8.drew.cell? ⟨w.heap.size + 2, 0, none⟩ = some (.pointer (some ⟨w.heap.size + 1, 0, none⟩)) := HCT.out _ _ HB8.out.drew
            refine wpIn_region_held_drew (S := fun X => X.cell? ⟨w.heap.size + 2, 0, none⟩ = some (.pointer (some ⟨w.heap.size + 1, 0, none⟩))) (by kernel_rfl) (by rfl) (fun ⟨_, _, h⟩ => h) hS11 (fun hHeld => ?_)
            (refine takeW (i := 0) rfl (by kernel_rfl) (by kernel_rfl) (by kernel_rfl) (fun _ _ _ h => h) (by rfl) (by assumption) (fun W hW => exec_load1 FL83 rfl rfl hW) ?_; (try simp only [Act.put, List.setIfInBounds_toArray, List.set_cons_zero, List.set_cons_succ]))
            (refine takeW (i := 1) (v := ?_) rfl (by kernel_rfl) (by kernel_rfl) (by kernel_rfl) (fun _ _ _ h => h) (by rfl) (by assumption) ?_ ?_; rotate_left; (intro W hW; (try dsimp only at hW); go_simp; try with_reducible rfl); (try simp only [Act.put, List.setIfInBounds_toArray, List.set_cons_zero, List.set_cons_succ]))
            (refine takeW (i := 2) (v := ?_) rfl (by kernel_rfl) (by kernel_rfl) (by kernel_rfl) (fun _ _ _ h => h) (by rfl) (by assumption) ?_ ?_; rotate_left; (intro W hW; (try dsimp only at hW); go_simp; try with_reducible rfl); (try simp only [Act.put, List.setIfInBounds_toArray, List.set_cons_zero, List.set_cons_succ]))
            (refine takeW (i := 3) (v := ?_) rfl (by kernel_rfl) (by kernel_rfl) (by kernel_rfl) (fun _ _ _ h => h) (by rfl) (by assumption) ?_ ?_; rotate_left; (intro W hW; (try dsimp only at hW); go_simp; try with_reducible rfl); (try simp only [Act.put, List.setIfInBounds_toArray, List.set_cons_zero, List.set_cons_succ]))
            (refine takeW (i := 4) rfl (by kernel_rfl) (by kernel_rfl) (by kernel_rfl) (fun _ _ _ h => h) (by rfl) (by assumption) (fun W hW => exec_and15 (n := c.toNat) rfl rfl hc8) ?_; (try simp only [Act.put, List.setIfInBounds_toArray, List.set_cons_zero, List.set_cons_succ]))
            (refine takeW (i := 5) rfl (by kernel_rfl) (by kernel_rfl) (by kernel_rfl) (fun _ _ _ h => h) (by rfl) (by assumption) (fun W hW => exec_ixu (l := digsL) (k := c.toNat % 16) rfl rfl rfl HG1.out) ?_; (try simp only [Act.put, List.setIfInBounds_toArray, List.set_cons_zero, List.set_cons_succ]))
            refine takeC (i := 6) rfl (by kernel_rfl) (by rfl) (fun K hK => ?_)
            go_simp
            refine (wbyte_any w.heap.size (w.heap.size + 1) ((T4 ++ hexL (D.take k)) ++ [hexC (c.toNat / 16)]) (hexC (c.toNat % 16)) _ HB8.out.drew.bld (by have := HTK.out; simp at this ⊢; omega) HB8.out.drew.le).mono ?_
            rintro e W9 ⟨rfl, hp⟩
            have HB9 := Lib.hid (HB8.out.drew.post hp)
            have hct := HCT.out _ _ HB9.out
            clear hp hHeld hS11
            refine hK.out _ _ (hct) (fun hHeld => ?_)
            clear hK K
            (try simp only [Act.put, List.setIfInBounds_toArray, List.set_cons_zero, List.set_cons_succ])
            refine wpAnyH_done (by kernel_rfl) ?_ _
            clear hHeld
            clear hct HB8
            rw [List.append_assoc, List.append_assoc, ← List.append_assoc (hexL _), HSN.out] at HB9
            gi_wp2
            go_roundw
            case rel => exact ⟨k + 1, by omega, by go_num, HB9⟩
            case measure => simp [intOf]; omega
          · obtain rfl : k = m := by omega
            have HB8 := HB7
            rw [List.take_of_length_le (by rw [HDB.out]; exact Nat.le_refl _)] at HB8
            clear HB7
            have ct := HCT.out _ _ HB8.out
            gi_wp2_with fail
            refine ⟨trivial, ?_⟩
            refine (CallsIn.inRound y (callsIn_wide.2 (wbyte_any w.heap.size (w.heap.size + 1) (T4 ++ hexL D) 10 wo HB8.out.bld (by have := HT4.out; have := HDL.out; have := HDB.out; rw [List.length_append, hexL_len]; omega) HB8.out.le))).mono ?_
            rintro e W9 ⟨rfl, hp⟩
            have HB9 := Lib.hid (HB8.out.post hp)
            clear hp HB8 ct
            gi_wp2
            exact HFIN.out _ HB9.out
      case stop =>
        rintro DD c pre W hDD hp h hK
        exact h.elim
      case done =>
        rintro D1 ys W hD1 hys hI hK1
        obtain rfl : ys = lo := hys
        obtain ⟨T1, hT1⟩ : ∃ T1, T0 ++ (ys.map (fun y => y.val.ok)).flatMap opT = T1 := ⟨_, rfl⟩
        have HT1L : Hid (T1.length ≤ 900000000) := by
          have h1 := flat_max (fun y : {y : Ho // OpG w y} => opT y.val.ok) 41000 ys (fun y _ => opT_len y.2)
          have h2 : (ys.map (fun y => y.val.ok)).flatMap opT = ys.flatMap (fun y : {y : Ho // OpG w y} => opT y.val.ok) := by rw [List.flatMap_map]
          have h3 := HLOL.out
          have h4 := HT0L.out
          show _ ≤ _
          rw [← hT1, List.length_append, h2]
          omega
        rw [hT1] at HTF
        have HI1 : Hid (BI w w.heap.size (w.heap.size + 1) Wb T1 W) := by rw [← hT1]; exact hI
        replace HS1 : Hid (SC x w W) := Lib.hid (SC.of (HI1.out.ok _ _ HS1.out.s (by simp) (fun c fz e => by cases e)) (HI1.out.ok _ _ HS1.out.t (by simp) (fun c fz e => by cases e)))
        have HM1 : Hid (Marks w.heap.size W [{ target := .collected D1, args := #[] }]) := Lib.hid ((Marks.nil w.heap.size Wb).add (fun D hD => by
          refine HI1.out.ok D _ hD (fun e => ?_) (fun c fz e => by cases e)
          cases e
          obtain ⟨cs, fz, hb⟩ := HB1.out.bld.blk
          rw [hb] at hD; cases hD) hD1 (by omega) hK1)
        obtain ⟨Wd, rfl⟩ : ∃ Wd : World, Wd = W := ⟨_, rfl⟩
        clear hseq hI hK1 HB1 HB1' HSB HBJ HCT hT1 hbb HLO HLOL
        have HBJ : Hid (BI w w.heap.size (w.heap.size + 1) Wd T1 Wd) := Lib.hid (BI.start HI1.out.bld HI1.out.bel)
        have HSB := HS1
        clear HI1 HS1 hbz HT0L
        have c7 : Wd.cell? ⟨w.heap.size, 7, none⟩ = some (.slice x.fa x.faults.length x.fc) := HSB.out.c7
        go_wp2_with fail
        refine (makeF_any x.fa x.faults.length x.fc Wd).mono ?_
        rintro e We ⟨rfl, hwb⟩
        have HB1 : Hid (BI w w.heap.size (w.heap.size + 1) Wd T1 We) := Lib.hid (by rw [← hwb]; exact HBJ.out.below (below1 _ _))
        have hg1 : We.cell? ⟨Wd.heap.size, 0, none⟩ = some (.slice x.fa x.faults.length x.fc) := by rw [← hwb, World.cell?_alloc_at _ _ _ _ rfl]; rfl
        clear hwb c7
        have HB1' : Hid (BI w w.heap.size (w.heap.size + 1) We T1 We) := Lib.hid (BI.start HB1.out.bld HB1.out.bel)
        have hbz : w.heap.size ≤ We.heap.size := HB1.out.le
        have hseq := eachF_stops (enc := fun y : {y : Fa // FtG y} => encF y.val) (fun _ => rfl) (fun y => encF_one y.val) 2 (by omega) Wd.heap.size w.heap.size (fun _ => False) (.slice x.fa x.faults.length x.fc) lf We HB1.out.le hg1 (fun W' hW' => HLF.out W' (HB1.out.bel.trans hW'.1))
        have HS1 : Hid (SC x w We) := Lib.hid (SC.of (HB1.out.ok _ _ HSB.out.s (by simp) (fun c fz e => by cases e)) (HB1.out.ok _ _ HSB.out.t (by simp) (fun c fz e => by cases e)))
        have HCT : Hid (∀ T X, BI w w.heap.size (w.heap.size + 1) We T X → X.cell? ⟨w.heap.size + 2, 0, none⟩ = some (.pointer (some ⟨w.heap.size + 1, 0, none⟩))) := Lib.hid (fun T X hX => Blk.cell (hX.ok _ _ HS1.out.t (by simp) (fun c fz e => by cases e)) 0)
        have hbb : w.heap.size + 1 < We.heap.size := HB1.out.bld.lt.2
        clear hg1
        have HMC : Hid (Marks w.heap.size We [{ target := .collected D1, args := #[] }]) := Lib.hid (HM1.out.keep (fun D hD => by
          refine HB1.out.ok D _ hD (fun e => ?_) (fun c fz e => by cases e)
          cases e
          obtain ⟨cs, fz, hb⟩ := HBJ.out.bld.blk
          rw [hb] at hD; cases hD))
        go_wp2_with fail
        refine (wpIn_wide (n := 3)).1 ?_
        refine wpIn_rangeFunc_ownH rfl (by omega) (gf := 55) (lb := #[.pointer (some ⟨Wd.heap.size, 0, none⟩)]) rfl trivial (enters_of Tryz.func55 (by kernel_rfl) rfl) hseq (fun h k => KQ.trans h k) (KQ.put hbz (fun k hk => hk.elim)) (Below.refl _ _) (fun _ => rfl)
          (fun pre W => BI w w.heap.size (w.heap.size + 1) We (T1 ++ (pre.map (fun y => y.val.fk)).flatMap ftT) W) (fun _ _ _ => False) (BI.own (f := fun pre : List {y : Fa // FtG y} => T1 ++ (pre.map (fun y => y.val.fk)).flatMap ftT) (Nat.le_refl _) hbz) (fun _ _ _ _ _ h _ _ => h) (by simpa using HB1'.out)
          (fun x => TF w We.heap.size x.val)
          (fun x a' s A B row hs hg hr => by obtain ⟨U, bx, h1, h2, h3⟩ := hs; exact ⟨U, bx, h1, Blk.own _ _ _ s A B row h2 hg (fun r e => (hr r e).2), h3⟩)
          ?assign ?body ?done ?stop
        case assign =>
          rintro y pre x W K hI hK
          unfold encV
          gi_wp2_with (refine wpListIn_storeW W39 rfl rfl rfl (encF x.val) rfl rfl (encF_one x.val) rfl ?_)
          exact hK _ _ ((KeepsOthers.alloc _ _).from _) (KQ.of_below (below1 _ _) hI.le) (hI.below (below1 _ _)) (TF.mk' W.heap.size rfl (Blk.new' rfl) hI.sz)
        case body =>
          as_aux_lemma =>
          rintro y pre x1 a' W hl0 hr0 hI ⟨U2, bx, rfl, hBx, hHx⟩ hlen
          have hbxb : bx ≠ w.heap.size + 1 := by omega
          obtain ⟨TP, hTP⟩ : ∃ TP, T1 ++ (pre.map (fun y => y.val.fk)).flatMap ftT = TP := ⟨_, rfl⟩
          have hgx := x1.2
          have HTS : Hid (T1 ++ ((pre ++ [x1]).map (fun y => y.val.fk)).flatMap ftT = TP ++ ftT x1.val.fk) := by
            show _ = _
            rw [List.map_append, List.flatMap_append, ← List.append_assoc, hTP]
            simp
          have HTL1 : Hid (TP.length ≤ 1800000000) := by
            have h1 := flat_max (fun y : {y : Fa // FtG y} => ftT y.val.fk) 41000 pre (fun y _ => ftT_len y.2)
            have h2 : (pre.map (fun y => y.val.fk)).flatMap ftT = pre.flatMap (fun y : {y : Fa // FtG y} => ftT y.val.fk) := by rw [List.flatMap_map]
            have h3 := HLFL.out
            have h4 := HT1L.out
            show _ ≤ _
            rw [← hTP, List.length_append, h2]
            omega
          have HI0 : Hid (BI w w.heap.size (w.heap.size + 1) We TP W) := by rw [← hTP]; exact hI
          have HBI0 : Hid (BI w w.heap.size (w.heap.size + 1) W TP W) := Lib.hid (BI.start HI0.out.bld HI0.out.bel)
          have HGX := Lib.hid hgx
          have HFIN : Hid (∀ X, BI w w.heap.size (w.heap.size + 1) W (TP ++ ftT x1.val.fk) X → KeepsFrom We.heap.size W X ∧ KQ w.heap.size (fun _ => False) W X ∧ BI w w.heap.size (w.heap.size + 1) We (T1 ++ ((pre ++ [x1]).map (fun y => y.val.fk)).flatMap ftT) X) := fun X hX =>
            ⟨(hX.others HI0.out.bld).from _, BI.kq HI0.out hX (fun k hk => hk.elim), by rw [HTS.out]; exact HI0.out.join hX⟩
          replace HCT : Hid (∀ T X, BI w w.heap.size (w.heap.size + 1) W T X → X.cell? ⟨w.heap.size + 2, 0, none⟩ = some (.pointer (some ⟨w.heap.size + 1, 0, none⟩))) := Lib.hid (fun T X hX => HCT.out T X (HI0.out.join hX))
          have HXB : Hid (∀ T X, BI w w.heap.size (w.heap.size + 1) W T X → ∀ (j : Nat) (u : Value), (encF x1.val)[j]? = some u → X.cell? ⟨bx, j, none⟩ = some u) := Lib.hid (fun T X hX j u hu => Blk.list0 (hX.ok _ _ hBx (by simpa using hbxb) (fun c fz e => by cases e)) hu)
          clear hI hl0 hr0 hTP hBx hgx HI0 HTS hseq hlen hbb hbz HSB HS1 HB1 HB1' HBJ HM1 HMC
          generalize x1.val = xv at *
          obtain ⟨W2, hW2⟩ : ∃ W2, W.alloc (.cells #[.int .i64 xv.k, .int .i64 xv.n, .int .i64 xv.c, .int .i64 xv.r, .int .i64 xv.s, .int .i64 xv.a, .int .i64 xv.b] 3) = W2 := ⟨_, rfl⟩
          obtain ⟨g2, hg2⟩ : ∃ g2, W.heap.size = g2 := ⟨_, rfl⟩
          have HRUN := Lib.hid (run_ints7 W xv.k xv.n xv.c xv.r xv.s xv.a xv.b)
          have HNK : Hid (NumsK w.heap.size W2 (.slice (some ⟨g2, 0, none⟩) 7 7) xv.fk.ints) := Lib.hid (by rw [← hW2]; exact numsK_row g2 xv.fk.ints hg2 (HGX.out) (by simp [Fk.ints]))
          have HB2 : Hid (BI w w.heap.size (w.heap.size + 1) W TP W2) := Lib.hid (by rw [← hW2]; exact HBI0.out.below (below1 _ _))
          rw [hW2, hg2] at HRUN
          clear hW2 hg2
          have ct := HCT.out _ _ HBI0.out
          have q0 : W.cell? ⟨bx, 0, none⟩ = some (.int .i64 xv.k) := HXB.out _ _ HBI0.out 0 _ rfl
          have q1 : W.cell? ⟨bx, 1, none⟩ = some (.int .i64 xv.n) := HXB.out _ _ HBI0.out 1 _ rfl
          have q2 : W.cell? ⟨bx, 2, none⟩ = some (.int .i64 xv.c) := HXB.out _ _ HBI0.out 2 _ rfl
          have q3 : W.cell? ⟨bx, 3, none⟩ = some (.int .i64 xv.r) := HXB.out _ _ HBI0.out 3 _ rfl
          have q4 : W.cell? ⟨bx, 4, none⟩ = some (.int .i64 xv.s) := HXB.out _ _ HBI0.out 4 _ rfl
          have q5 : W.cell? ⟨bx, 5, none⟩ = some (.int .i64 xv.a) := HXB.out _ _ HBI0.out 5 _ rfl
          have q6 : W.cell? ⟨bx, 6, none⟩ = some (.int .i64 xv.b) := HXB.out _ _ HBI0.out 6 _ rfl
          gi_wp2_with (((with_reducible show wpListIn _ _ _ _ _ (Oper.mk (some 96) _ _ _ _ _ :: _) _ _); refine wpListIn_val rfl (by rfl) (fun c h => by cases h) (exec_ints7 HRUN.out rfl rfl rfl rfl rfl rfl rfl rfl) ?_))
          refine ⟨trivial, ?_⟩
          refine (CallsIn.inRound y (callsIn_wide.2 (numbers_any w.heap.size (w.heap.size + 1) TP wFault _ xv.fk.ints W2 HB2.out.bld HNK.out.1 HNK.out.2 (by simp [Fk.ints]) (by have := HTL1.out; simp [wFault]; omega)))).mono ?_
          rintro e W3 ⟨rfl, hp⟩
          have HB3 := Lib.hid (HB2.out.post hp)
          have HTL3 : Hid ((TP ++ lineT wFault xv.fk.ints).length ≤ 2000000000) := by
            have h1 := numT_len xv.fk.ints (HGX.out)
            have h3 : xv.fk.ints.length = 7 := rfl
            have h4 := HTL1.out
            have h5 : wFault.length = 5 := rfl
            show _ ≤ _
            unfold lineT
            simp only [List.length_append]
            omega
          clear hp HRUN HNK HB2 HBI0 ct q0 q1 q2 q3 q4 q5 q6
          have ct := HCT.out _ _ HB3.out
          gi_wp2_with fail
          refine ⟨trivial, ?_⟩
          refine (CallsIn.inRound y (callsIn_wide.2 (wbyte_any w.heap.size (w.heap.size + 1) (TP ++ lineT wFault xv.fk.ints) 10 W3 HB3.out.bld (by have := HTL3.out; omega) HB3.out.le))).mono ?_
          rintro e W4 ⟨rfl, hp⟩
          have HB4 := Lib.hid (HB3.out.post hp)
          clear hp HB3 ct
          rw [List.append_assoc, ← ftT_eq] at HB4
          gi_wp2
          exact HFIN.out _ HB4.out
        case stop =>
          rintro DD c pre W hDD hp h hK
          exact h.elim
        case done =>
          rintro D2 ys W hD1 hys hI hK1
          obtain rfl : ys = lf := hys
          obtain ⟨T2, hT2⟩ : ∃ T2, T1 ++ (ys.map (fun y => y.val.fk)).flatMap ftT = T2 := ⟨_, rfl⟩
          rw [hT2] at HTF
          have HI2 : Hid (BI w w.heap.size (w.heap.size + 1) We T2 W) := by rw [← hT2]; exact hI
          have HM2 : Hid (Marks w.heap.size W [{ target := .collected D2, args := #[] }, { target := .collected D1, args := #[] }]) := Lib.hid (HMC.out.add (fun D hD => by
            refine HI2.out.ok D _ hD (fun e => ?_) (fun c fz e => by cases e)
            cases e
            obtain ⟨cs, fz, hb⟩ := HB1.out.bld.blk
            rw [hb] at hD; cases hD) hD1 (by omega) hK1)
          have ct := HCT.out _ _ HI2.out
          clear hseq hI hK1 HB1 HB1' HSB HS1 HMC HM1 HBJ HCT hT2 hbb HLF HLFL
          have HNE : Hid (T2 ≠ []) := by show _ ≠ _; rw [← HTF.out]; exact printS_ne _
          have HST := Lib.hid (string_any w.heap.size (w.heap.size + 1) T2 W HI2.out.bld HNE.out)
          have HBD := Lib.hid HI2.out.bld
          have HBE := Lib.hid HI2.out.bel
          clear HI2
          go_wp2_with fail
          refine HST.out.mono ?_
          rintro e W5 ⟨rfl, hb5, hk5⟩
          have HB5 := Lib.hid (HBE.out.trans hb5)
          have HMK5 := Lib.hid (HM2.out.keep (fun E hE => by
            refine hk5 E _ hE (fun e => ?_) (fun c fz e => by cases e)
            cases e
            obtain ⟨cs, fz, hb⟩ := HBD.out.blk
            rw [hb] at hE; cases hE))
          clear hb5 hk5 HST ct
          go_wp2
          obtain ⟨Ds, hd1, hd2, hd3⟩ := HMK5.out
          show LeavesInM _ _ _ _ _ _ [{ target := .collected D2, args := #[] }, { target := .collected D1, args := #[] }] _ _
          rw [hd2]
          exact leave_marks Ds _ hd1 hd3 (fun X hX => ⟨by simp [results, Tryz.f9, go_sem], HPO.out X _ (HB5.out.trans hX) HTF.out.symm⟩)
  · obtain ⟨W6, hW6⟩ : ∃ W6, W1.drew.alloc (.cells #[.int .i64 x.rounds] 3) = W6 := ⟨_, rfl⟩
    obtain ⟨g6, hg6⟩ : ∃ g6, W1.drew.heap.size = g6 := ⟨_, rfl⟩
    have HNR : Hid (NumsK w.heap.size W6 (.slice (some ⟨g6, 0, none⟩) 1 1) [x.rounds]) := Lib.hid (by rw [← hW6, ← hg6]; exact numsK_new _ _ _ HPR.out.good.rounds.1 HPR.out.good.rounds.2)
    have HB6 : Hid (Below W1.drew.heap.size W1.drew W6) := Lib.hid (by rw [← hW6]; exact below1 _ _)
    have HX6 := Lib.hid (run_one3 W1.drew x.rounds)
    rw [hW6, hg6] at HX6
    clear hW6 hg6
    unfold Oper.wp
    rw [exec_run1 HX6.out rfl rfl]
    refine hK.out _ _ ((HPS.out.keep HB6.out).sb) (fun hHeld => ?_)
    clear hK K
    (try simp only [Act.put, List.setIfInBounds_toArray, List.set_cons_zero, List.set_cons_succ])
    have HPS := Lib.hid (HPS.out.keep HB6.out)
    (try have HHD := Lib.hid (HHD.out.keep HB6.out))
    (try have HBL := Lib.hid (HBL.out.keep HB6.out))
    (try have HTR := Lib.hid (HTR.out.below HB6.out))
    clear HB6 HX6
    refine takeC (i := 3) rfl (by kernel_rfl) (by rfl) (fun K hK => ?_)
    go_simp
    refine (heads_any' _).mono ?_
    rintro e W3 ⟨⟨gw, rfl, hgw⟩, hb⟩
    have HPS := Lib.hid (HPS.out.keep hb)
    (try have HHD := Lib.hid (HHD.out.keep hb))
    (try have HBL := Lib.hid (HBL.out.keep hb))
    (try have HNR := Lib.hid (HNR.out.below hb))
    (try have HTR := Lib.hid (HTR.out.below hb))
    have HHD := Lib.hid hgw
    clear hgw
    clear hb hHeld
    refine hK.out _ _ HPS.out.sb (fun hHeld => ?_)
    clear hK K
    try simp only [Act.put, List.setIfInBounds_toArray, List.set_cons_zero, List.set_cons_succ]
    refine takeC (i := 9) rfl (by kernel_rfl) (by rfl) (fun K hK => ?_)
    go_simp
    refine (truths_k w.heap.size _ x.ups.l _ (HPR.out.good.ups.below HPS.out.bel) HPR.out.ups).mono ?_
    rintro e W9 ⟨⟨at', ct, rfl, hvt⟩, hb⟩
    have HPS := Lib.hid (HPS.out.keep hb)
    (try have HHD := Lib.hid (HHD.out.keep hb))
    (try have HBL := Lib.hid (HBL.out.keep hb))
    (try have HNR := Lib.hid (HNR.out.below hb))
    (try have HTR := Lib.hid (HTR.out.below hb))
    have HTR : Hid (NumsK w.heap.size W9 (.slice at' x.ups.l.length ct) (x.ups.l.map b2i)) := Lib.hid hvt
    clear hvt
    clear hb hHeld
    refine hK.out _ _ HPS.out.sb (fun hHeld => ?_)
    clear hK K
    try simp only [Act.put, List.setIfInBounds_toArray, List.set_cons_zero, List.set_cons_succ]
    obtain ⟨W18, hW18⟩ : ∃ W18, W9.alloc (.cells #[.slice (some ⟨g6, 0, none⟩) 1 1, .slice at' x.ups.l.length ct, .slice x.offs.a x.offs.l.length x.offs.c, .slice x.gates.a x.gates.l.length x.gates.c, .slice x.guards.a x.guards.l.length x.guards.c, .slice x.drifts.a x.drifts.l.length x.drifts.c] 23) = W18 := ⟨_, rfl⟩
    obtain ⟨g18, hg18⟩ : ∃ g18, W9.heap.size = g18 := ⟨_, rfl⟩
    have HBL : Hid (Blk W18 g18 23 #[.slice (some ⟨g6, 0, none⟩) 1 1, .slice at' x.ups.l.length ct, .slice x.offs.a x.offs.l.length x.offs.c, .slice x.gates.a x.gates.l.length x.gates.c, .slice x.guards.a x.guards.l.length x.guards.c, .slice x.drifts.a x.drifts.l.length x.drifts.c]) := Lib.hid (by rw [← hW18]; exact Blk.new' hg18)
    have HB18 : Hid (Below W9.heap.size W9 W18) := Lib.hid (by rw [← hW18]; exact below1 _ _)
    have HX18 := Lib.hid (run_six26 W9 (some ⟨g6, 0, none⟩) at' x.offs.a x.gates.a x.guards.a x.drifts.a 1 1 x.ups.l.length ct x.offs.l.length x.offs.c x.gates.l.length x.gates.c x.guards.l.length x.guards.c x.drifts.l.length x.drifts.c)
    rw [hW18, hg18] at HX18
    clear hW18 hg18
    refine takeV (i := 18) rfl (by kernel_rfl) (by rfl) (exec_run6 HX18.out rfl rfl rfl rfl rfl rfl rfl) ((HPS.out.keep HB18.out).sb) ?_
    (try simp only [Act.put, List.setIfInBounds_toArray, List.set_cons_zero, List.set_cons_succ])
    have hHeld : Hid (SC x w W18) := (HPS.out.keep HB18.out).sb
    have HPS := Lib.hid (HPS.out.keep HB18.out)
    (try have HHD := Lib.hid (HHD.out.keep HB18.out))
    (try have HNR := Lib.hid (HNR.out.below HB18.out))
    (try have HTR := Lib.hid (HTR.out.below HB18.out))
    clear HB18 HX18
    refine takeC (i := 19) rfl (by kernel_rfl) (by rfl) (fun K hK => ?_)
    go_simp
    refine (rows_any w.heap.size (w.heap.size + 1) gw g18 [] headsL _ [[x.rounds], x.ups.l.map b2i, x.offs.l, x.gates.l, x.guards.l, x.drifts.l] W18 HPS.out.bld HHD.out HBL.out rfl rfl (by decide) (anyRows HNR.out HTR.out HPR.out HPS.out.bel) (by decide) (by simp)).mono ?_
    rintro e W19 ⟨rfl, hp⟩
    have HBP := Lib.hid (BI.post (BI.start HPS.out.bld HPS.out.bel) hp)
    have HS19 : Hid (SC x w W19) := Lib.hid (SC.of (blk_post HPS.out.s hp (by omega)) (blk_post HPS.out.t hp (by omega)))
    clear hp hHeld HHD HBL HTR HNR HPS
    refine hK.out _ _ HS19 (fun hHeld => ?_)
    clear hK K
    try simp only [Act.put, List.setIfInBounds_toArray, List.set_cons_zero, List.set_cons_succ]
    refine wpAnyH_done (by kernel_rfl) ?_ _
    refine NoPanic.normal ?_
    clear hHeld
    rw [List.nil_append, HT0.out] at HBP
    obtain ⟨Wa, rfl⟩ : ∃ Wa : World, Wa = W19 := ⟨_, rfl⟩
    have HBJ : Hid (BI w w.heap.size (w.heap.size + 1) Wa T0 Wa) := Lib.hid (BI.start HBP.out.bld HBP.out.bel)
    clear HBP HT0
    have HSB := HS19
    clear HS19
    obtain ⟨lo, hlo⟩ : ∃ lo : List {y : Ho // OpG w y}, lo.map Subtype.val = x.ops := ⟨_, sub_val x.ops (fun y hy => ⟨HPR.out.good.opg y hy, HPR.out.ops.2 y hy⟩)⟩
    obtain ⟨lf, hlf⟩ : ∃ lf : List {y : Fa // FtG y}, lf.map Subtype.val = x.faults := ⟨_, sub_val x.faults HPR.out.fts⟩
    have HLO : Hid (∀ W', Below w.heap.size w W' → Rd (fun y : {y : Ho // OpG w y} => encH y.val) 6 W' (.slice x.oa x.ops.length x.oc) lo) := fun W' hW' => rd_val (by rw [hlo]; exact HPR.out.good.ops.below hW')
    have HLF : Hid (∀ W', Below w.heap.size w W' → Rd (fun y : {y : Fa // FtG y} => encF y.val) 7 W' (.slice x.fa x.faults.length x.fc) lf) := fun W' hW' => rd_val (by rw [hlf]; exact HPR.out.good.faults.below hW')
    have HLOL : Hid (lo.length ≤ 20000) := by have := congrArg List.length hlo; rw [List.length_map] at this; show _ ≤ _; rw [this]; exact HPR.out.ops.1
    have HLFL : Hid (lf.length ≤ 20000) := by have := congrArg List.length hlf; rw [List.length_map] at this; show _ ≤ _; rw [this]; exact HPR.out.fl
    have HTF : Hid (printS x.k = (T0 ++ (lo.map (fun y => y.val.ok)).flatMap opT) ++ (lf.map (fun y => y.val.fk)).flatMap ftT) := by show _ = _; rw [HTE.out, ← hlo, ← hlf, List.map_map, List.map_map, List.append_assoc]; rfl
    clear hlo hlf HTE HPR
    have c6 : Wa.cell? ⟨w.heap.size, 6, none⟩ = some (.slice x.oa x.ops.length x.oc) := HSB.out.c6
    go_wp2_with fail
    refine (makeO_any x.oa x.ops.length x.oc Wa).mono ?_
    rintro e Wb ⟨rfl, hwb⟩
    have HB1 : Hid (BI w w.heap.size (w.heap.size + 1) Wa T0 Wb) := Lib.hid (by rw [← hwb]; exact HBJ.out.below (below1 _ _))
    have hg1 : Wb.cell? ⟨Wa.heap.size, 0, none⟩ = some (.slice x.oa x.ops.length x.oc) := by rw [← hwb, World.cell?_alloc_at _ _ _ _ rfl]; rfl
    clear hwb c6
    have HB1' : Hid (BI w w.heap.size (w.heap.size + 1) Wb T0 Wb) := Lib.hid (BI.start HB1.out.bld HB1.out.bel)
    have hbz : w.heap.size ≤ Wb.heap.size := HB1.out.le
    have hseq := eachO_stops (enc := fun y : {y : Ho // OpG w y} => encH y.val) (fun _ => rfl) (fun y => encH_one y.val) 2 (by omega) Wa.heap.size w.heap.size (fun _ => False) (.slice x.oa x.ops.length x.oc) lo Wb HB1.out.le hg1 (fun W' hW' => HLO.out W' (HB1.out.bel.trans hW'.1))
    have HS1 : Hid (SC x w Wb) := Lib.hid (SC.of (HB1.out.ok _ _ HSB.out.s (by simp) (fun c fz e => by cases e)) (HB1.out.ok _ _ HSB.out.t (by simp) (fun c fz e => by cases e)))
    have HCT : Hid (∀ T X, BI w w.heap.size (w.heap.size + 1) Wb T X → X.cell? ⟨w.heap.size + 2, 0, none⟩ = some (.pointer (some ⟨w.heap.size + 1, 0, none⟩))) := Lib.hid (fun T X hX => Blk.cell (hX.ok _ _ HS1.out.t (by simp) (fun c fz e => by cases e)) 0)
    have hbb : w.heap.size + 1 < Wb.heap.size := HB1.out.bld.lt.2
    clear hg1
    go_wp2_with fail
    refine (wpIn_wide (n := 3)).1 ?_
    refine wpIn_rangeFunc_ownH rfl (by omega) (gf := 53) (lb := #[.pointer (some ⟨Wa.heap.size, 0, none⟩)]) rfl trivial (enters_of Tryz.func53 (by kernel_rfl) rfl) hseq (fun h k => KQ.trans h k) (KQ.put hbz (fun k hk => hk.elim)) (Below.refl _ _) (fun _ => rfl)
      (fun pre W => BI w w.heap.size (w.heap.size + 1) Wb (T0 ++ (pre.map (fun y => y.val.ok)).flatMap opT) W) (fun _ _ _ => False) (BI.own (f := fun pre : List {y : Ho // OpG w y} => T0 ++ (pre.map (fun y => y.val.ok)).flatMap opT) (Nat.le_refl _) hbz) (fun _ _ _ _ _ h _ _ => h) (by simpa using HB1'.out)
      (fun x => TO w Wb.heap.size x.val)
      (fun x a' s A B row hs hg hr => by obtain ⟨U, bx, h1, h2, h3⟩ := hs; exact ⟨U, bx, h1, Blk.own _ _ _ s A B row h2 hg (fun r e => (hr r e).2), h3⟩)
      ?assign ?body ?done ?stop
    case assign =>
      rintro y pre x W K hI hK
      unfold encV
      gi_wp2_with (refine wpListIn_storeW W43 rfl rfl rfl (encH x.val) rfl rfl (encH_one x.val) rfl ?_)
      exact hK _ _ ((KeepsOthers.alloc _ _).from _) (KQ.of_below (below1 _ _) hI.le) (hI.below (below1 _ _)) (TO.mk' W.heap.size rfl (Blk.new' rfl) hI.sz)
    case body =>
      as_aux_lemma =>
      rintro y pre x1 a' W hl0 hr0 hI ⟨U2, bx, rfl, hBx, hHx⟩ hlen
      have hbxb : bx ≠ w.heap.size + 1 := by omega
      obtain ⟨TP, hTP⟩ : ∃ TP, T0 ++ (pre.map (fun y => y.val.ok)).flatMap opT = TP := ⟨_, rfl⟩
      have hgx := x1.2
      have HTS : Hid (T0 ++ ((pre ++ [x1]).map (fun y => y.val.ok)).flatMap opT = TP ++ opT x1.val.ok) := by
        show _ = _
        rw [List.map_append, List.flatMap_append, ← List.append_assoc, hTP]
        simp
      have HTL1 : Hid (TP.length ≤ 900000000) := by
        have h1 := flat_max (fun y : {y : Ho // OpG w y} => opT y.val.ok) 41000 pre (fun y _ => opT_len y.2)
        have h2 : (pre.map (fun y => y.val.ok)).flatMap opT = pre.flatMap (fun y : {y : Ho // OpG w y} => opT y.val.ok) := by rw [List.flatMap_map]
        have h3 := HLOL.out
        have h4 := HT0L.out
        show _ ≤ _
        rw [← hTP, List.length_append, h2]
        omega
      have HI0 : Hid (BI w w.heap.size (w.heap.size + 1) Wb TP W) := by rw [← hTP]; exact hI
      have HBI0 : Hid (BI w w.heap.size (w.heap.size + 1) W TP W) := Lib.hid (BI.start HI0.out.bld HI0.out.bel)
      have HGX := Lib.hid hgx
      have HFIN : Hid (∀ X, BI w w.heap.size (w.heap.size + 1) W (TP ++ opT x1.val.ok) X → KeepsFrom Wb.heap.size W X ∧ KQ w.heap.size (fun _ => False) W X ∧ BI w w.heap.size (w.heap.size + 1) Wb (T0 ++ ((pre ++ [x1]).map (fun y => y.val.ok)).flatMap opT) X) := fun X hX =>
        ⟨(hX.others HI0.out.bld).from _, BI.kq HI0.out hX (fun k hk => hk.elim), by rw [HTS.out]; exact HI0.out.join hX⟩
      replace HCT : Hid (∀ T X, BI w w.heap.size (w.heap.size + 1) W T X → X.cell? ⟨w.heap.size + 2, 0, none⟩ = some (.pointer (some ⟨w.heap.size + 1, 0, none⟩))) := Lib.hid (fun T X hX => HCT.out T X (HI0.out.join hX))
      have HXB : Hid (∀ T X, BI w w.heap.size (w.heap.size + 1) W T X → ∀ (j : Nat) (u : Value), (encH x1.val)[j]? = some u → X.cell? ⟨bx, j, none⟩ = some u) := Lib.hid (fun T X hX j u hu => Blk.list0 (hX.ok _ _ hBx (by simpa using hbxb) (fun c fz e => by cases e)) hu)
      clear hI hl0 hr0 hTP hBx hgx HI0 HTS hseq hlen hbb hbz HSB HS1 HB1 HB1' HBJ 
      generalize x1.val = xv at *
      obtain ⟨W2, hW2⟩ : ∃ W2, W.alloc (.cells #[.int .i64 xv.n, .int .i64 xv.r, .int .i64 xv.s, .int .i64 xv.k, .int .i64 xv.v] 3) = W2 := ⟨_, rfl⟩
      obtain ⟨g2, hg2⟩ : ∃ g2, W.heap.size = g2 := ⟨_, rfl⟩
      have HRUN := Lib.hid (run_ints5 W xv.n xv.r xv.s xv.k xv.v)
      have HNK : Hid (NumsK w.heap.size W2 (.slice (some ⟨g2, 0, none⟩) 5 5) xv.ok.ints) := Lib.hid (by rw [← hW2]; exact numsK_row g2 xv.ok.ints hg2 (opG_ints HGX.out) (by simp [Ok.ints]))
      have HB2 : Hid (BI w w.heap.size (w.heap.size + 1) W TP W2) := Lib.hid (by rw [← hW2]; exact HBI0.out.below (below1 _ _))
      rw [hW2, hg2] at HRUN
      clear hW2 hg2
      have ct := HCT.out _ _ HBI0.out
      have q0 : W.cell? ⟨bx, 0, none⟩ = some (.int .i64 xv.n) := HXB.out _ _ HBI0.out 0 _ rfl
      have q1 : W.cell? ⟨bx, 1, none⟩ = some (.int .i64 xv.r) := HXB.out _ _ HBI0.out 1 _ rfl
      have q2 : W.cell? ⟨bx, 2, none⟩ = some (.int .i64 xv.s) := HXB.out _ _ HBI0.out 2 _ rfl
      have q3 : W.cell? ⟨bx, 3, none⟩ = some (.int .i64 xv.k) := HXB.out _ _ HBI0.out 3 _ rfl
      have q4 : W.cell? ⟨bx, 4, none⟩ = some (.int .i64 xv.v) := HXB.out _ _ HBI0.out 4 _ rfl
      gi_wp2_with (((with_reducible show wpListIn _ _ _ _ _ (Oper.mk (some 45) _ _ _ _ _ :: _) _ _); refine wpListIn_val rfl (by rfl) (fun c h => by cases h) (exec_ints5 HRUN.out rfl rfl rfl rfl rfl rfl) ?_))
      refine ⟨trivial, ?_⟩
      refine (CallsIn.inRound y (callsIn_wide.2 (numbers_any w.heap.size (w.heap.size + 1) TP wOp _ xv.ok.ints W2 HB2.out.bld HNK.out.1 HNK.out.2 (by simp [Ok.ints]) (by have := HTL1.out; simp [wOp]; omega)))).mono ?_
      rintro e W3 ⟨rfl, hp⟩
      have HB3 := Lib.hid (HB2.out.post hp)
      have HTL3 : Hid ((TP ++ lineT wOp xv.ok.ints).length ≤ 2000000000) := by
        have h1 := numT_len xv.ok.ints (opG_ints HGX.out)
        have h3 : xv.ok.ints.length = 5 := rfl
        have h4 := HTL1.out
        have h5 : wOp.length = 2 := rfl
        show _ ≤ _
        unfold lineT
        simp only [List.length_append]
        omega
      clear hp HRUN HNK HB2 HBI0 ct q0 q1 q2 q3 q4
      have ct := HCT.out _ _ HB3.out
      gi_wp2_with fail
      refine ⟨trivial, ?_⟩
      refine (CallsIn.inRound y (callsIn_wide.2 (wstr_any w.heap.size (w.heap.size + 1) (TP ++ lineT wOp xv.ok.ints) [32, 120] W3 HB3.out.bld (by have := HTL3.out; rw [List.length_append] at this; simp only [List.length_append, List.length_cons, List.length_nil]; omega) HB3.out.le))).mono ?_
      rintro e W4 ⟨rfl, hp⟩
      have HB4 := Lib.hid (HB3.out.post hp)
      clear hp HB3 ct
      have q5 : W4.cell? ⟨bx, 5, none⟩ = some (.slice xv.a xv.d.length xv.c) := HXB.out _ _ HB4.out 5 _ rfl
      have HBY : Hid (∀ T X, BI w w.heap.size (w.heap.size + 1) W T X → Bys X (.slice xv.a xv.d.length xv.c) (bytesOf xv.d)) := Lib.hid (fun T X hX => bys_of (HGX.out.1.d.below hX.bel))
      have HDL : Hid (xv.d.length ≤ 20000) := HGX.out.2
      have HDB : Hid ((bytesOf xv.d).length = xv.d.length) := bytesOf_len _
      have HFIN2 : Hid (TP ++ opT xv.ok = ((TP ++ lineT wOp xv.ok.ints) ++ [32, 120]) ++ hexL (bytesOf xv.d) ++ [10]) := by show _ = _; rw [opT_eq]; simp [Ho.ok]
      have HT4 : Hid (((TP ++ lineT wOp xv.ok.ints) ++ [32, 120]).length ≤ 2000000002) := by show _ ≤ _; rw [List.length_append]; exact Nat.add_le_add HTL3.out (Nat.le_refl 2)
      rw [HFIN2.out] at HFIN
      clear HFIN2 HTL3 HTL1
      generalize ((TP ++ lineT wOp xv.ok.ints) ++ [32, 120]) = T4 at *
      generalize bytesOf xv.d = D at *
      generalize xv.d.length = m at *
      generalize xv.a = da at *
      generalize xv.c = dc at *
      gi_wp2_with fail
      gi_loopw [54] (fun i wr => ∃ k : Nat, k ≤ m ∧ i = .int .i64 k ∧ Hid (BI w w.heap.size (w.heap.size + 1) W (T4 ++ hexL (D.take k)) wr)) (fun i _ => m - (intOf i).toNat)
      case atStart => exact ⟨0, Nat.zero_le _, rfl, Lib.hid (by simpa [hexL] using HB4.out)⟩
      case round =>
        clear HB4 q5
        obtain ⟨k, hk, rfl, HB7⟩ := hrel
        obtain ⟨wo, rfl⟩ : ∃ wo : World, wo = wr := ⟨_, rfl⟩
        by_cases hlt : k < m
        · obtain ⟨c, hc0⟩ : ∃ c, D[k]? = some c := ⟨_, List.getElem?_eq_getElem (by rw [HDB.out]; exact hlt)⟩
          obtain ⟨bb, off, hba, hbl, hc⟩ := (HBY.out _ _ HB7.out).row (by rintro rfl; simp at hc0)
          have cb : wo.cell? ⟨bb, off + k, none⟩ = some (.int .u8 (c.toNat : Int)) := by
            have := hc k c hc0 0 _ rfl
            simpa [u8c] using this
          have hc8 := c.toNat_lt
          have hm20 : m ≤ 20000 := HDL.out
          have HG0 := Lib.hid (digs_at (c.toNat / 16) (by omega))
          have HG1 := Lib.hid (digs_at (c.toNat % 16) (by omega))
          have HSN := Lib.hid (hexL_snoc hc0)
          have HTK : Hid ((T4 ++ hexL (D.take k)).length + 2 ≤ 3000000000) := by show _ ≤ _; rw [List.length_append, hexL_len, List.length_take]; have := HT4.out; have := HDL.out; omega
          subst hba
          clear hc hc0 hbl
          gi_upto_region 10 with fail
          have hS10 : wo.drew.cell? ⟨w.heap.size + 2, 0, none⟩ = some (.pointer (some ⟨w.heap.size + 1, 0, none⟩)) := HCT.out _ _ HB7.out.drew
          refine wpIn_region_held_drew (S := fun X => X.cell? ⟨w.heap.size + 2, 0, none⟩ = some (.pointer (some ⟨w.heap.size + 1, 0, none⟩))) (by kernel_rfl) (by rfl) (fun ⟨_, _, h⟩ => h) hS10 (fun hHeld => ?_)
          (refine takeW (i := 0) rfl (by kernel_rfl) (by kernel_rfl) (by kernel_rfl) (fun _ _ _ h => h) (by rfl) (by assumption) (fun W hW => exec_load1 FL83 rfl rfl hW) ?_; (try simp only [Act.put, List.setIfInBounds_toArray, List.set_cons_zero, List.set_cons_succ]))
          (refine takeW (i := 1) (v := ?_) rfl (by kernel_rfl) (by kernel_rfl) (by kernel_rfl) (fun _ _ _ h => h) (by rfl) (by assumption) ?_ ?_; rotate_left; (intro W hW; (try dsimp only at hW); go_simp; try with_reducible rfl); (try simp only [Act.put, List.setIfInBounds_toArray, List.set_cons_zero, List.set_cons_succ]))
          (refine takeW (i := 2) (v := ?_) rfl (by kernel_rfl) (by kernel_rfl) (by kernel_rfl) (fun _ _ _ h => h) (by rfl) (by assumption) ?_ ?_; rotate_left; (intro W hW; (try dsimp only at hW); go_simp; try with_reducible rfl); (try simp only [Act.put, List.setIfInBounds_toArray, List.set_cons_zero, List.set_cons_succ]))
          (refine takeW (i := 3) (v := ?_) rfl (by kernel_rfl) (by kernel_rfl) (by kernel_rfl) (fun _ _ _ h => h) (by rfl) (by assumption) ?_ ?_; rotate_left; (intro W hW; (try dsimp only at hW); go_simp; try with_reducible rfl); (try simp only [Act.put, List.setIfInBounds_toArray, List.set_cons_zero, List.set_cons_succ]))
          (refine takeW (i := 4) rfl (by kernel_rfl) (by kernel_rfl) (by kernel_rfl) (fun _ _ _ h => h) (by rfl) (by assumption) (fun W hW => exec_shr4 (n := c.toNat) rfl rfl) ?_; (try simp only [Act.put, List.setIfInBounds_toArray, List.set_cons_zero, List.set_cons_succ]))
          (refine takeW (i := 5) rfl (by kernel_rfl) (by kernel_rfl) (by kernel_rfl) (fun _ _ _ h => h) (by rfl) (by assumption) (fun W hW => exec_ixu (l := digsL) (k := c.toNat / 16) rfl rfl rfl HG0.out) ?_; (try simp only [Act.put, List.setIfInBounds_toArray, List.set_cons_zero, List.set_cons_succ]))
          refine takeC (i := 6) rfl (by kernel_rfl) (by rfl) (fun K hK => ?_)
          go_simp
          refine (wbyte_any w.heap.size (w.heap.size + 1) (T4 ++ hexL (D.take k)) (hexC (c.toNat / 16)) _ HB7.out.drew.bld (by have := HTK.out; simp at this ⊢; omega) HB7.out.drew.le).mono ?_
          rintro e W8 ⟨rfl, hp⟩
          have HB8 := Lib.hid (HB7.out.drew.post hp)
          have hct := HCT.out _ _ HB8.out
          clear hp hHeld hS10
          refine hK.out _ _ (hct) (fun hHeld => ?_)
          clear hK K
          (try simp only [Act.put, List.setIfInBounds_toArray, List.set_cons_zero, List.set_cons_succ])
          refine wpAnyH_done (by kernel_rfl) ?_ _
          clear hHeld
          clear hct HB7
          gi_upto_region 11 with fail
          have hS11 : W8.drew.cell? ⟨w.heap.size + 2, 0, none⟩ = some (.pointer (some ⟨w.heap.size + 1, 0, none⟩)) := HCT.out _ _ HB8.out.drew
          refine wpIn_region_held_drew (S := fun X => X.cell? ⟨w.heap.size + 2, 0, none⟩ = some (.pointer (some ⟨w.heap.size + 1, 0, none⟩))) (by kernel_rfl) (by rfl) (fun ⟨_, _, h⟩ => h) hS11 (fun hHeld => ?_)
          (refine takeW (i := 0) rfl (by kernel_rfl) (by kernel_rfl) (by kernel_rfl) (fun _ _ _ h => h) (by rfl) (by assumption) (fun W hW => exec_load1 FL83 rfl rfl hW) ?_; (try simp only [Act.put, List.setIfInBounds_toArray, List.set_cons_zero, List.set_cons_succ]))
          (refine takeW (i := 1) (v := ?_) rfl (by kernel_rfl) (by kernel_rfl) (by kernel_rfl) (fun _ _ _ h => h) (by rfl) (by assumption) ?_ ?_; rotate_left; (intro W hW; (try dsimp only at hW); go_simp; try with_reducible rfl); (try simp only [Act.put, List.setIfInBounds_toArray, List.set_cons_zero, List.set_cons_succ]))
          (refine takeW (i := 2) (v := ?_) rfl (by kernel_rfl) (by kernel_rfl) (by kernel_rfl) (fun _ _ _ h => h) (by rfl) (by assumption) ?_ ?_; rotate_left; (intro W hW; (try dsimp only at hW); go_simp; try with_reducible rfl); (try simp only [Act.put, List.setIfInBounds_toArray, List.set_cons_zero, List.set_cons_succ]))
          (refine takeW (i := 3) (v := ?_) rfl (by kernel_rfl) (by kernel_rfl) (by kernel_rfl) (fun _ _ _ h => h) (by rfl) (by assumption) ?_ ?_; rotate_left; (intro W hW; (try dsimp only at hW); go_simp; try with_reducible rfl); (try simp only [Act.put, List.setIfInBounds_toArray, List.set_cons_zero, List.set_cons_succ]))
          (refine takeW (i := 4) rfl (by kernel_rfl) (by kernel_rfl) (by kernel_rfl) (fun _ _ _ h => h) (by rfl) (by assumption) (fun W hW => exec_and15 (n := c.toNat) rfl rfl hc8) ?_; (try simp only [Act.put, List.setIfInBounds_toArray, List.set_cons_zero, List.set_cons_succ]))
          (refine takeW (i := 5) rfl (by kernel_rfl) (by kernel_rfl) (by kernel_rfl) (fun _ _ _ h => h) (by rfl) (by assumption) (fun W hW => exec_ixu (l := digsL) (k := c.toNat % 16) rfl rfl rfl HG1.out) ?_; (try simp only [Act.put, List.setIfInBounds_toArray, List.set_cons_zero, List.set_cons_succ]))
          refine takeC (i := 6) rfl (by kernel_rfl) (by rfl) (fun K hK => ?_)
          go_simp
          refine (wbyte_any w.heap.size (w.heap.size + 1) ((T4 ++ hexL (D.take k)) ++ [hexC (c.toNat / 16)]) (hexC (c.toNat % 16)) _ HB8.out.drew.bld (by have := HTK.out; simp at this ⊢; omega) HB8.out.drew.le).mono ?_
          rintro e W9 ⟨rfl, hp⟩
          have HB9 := Lib.hid (HB8.out.drew.post hp)
          have hct := HCT.out _ _ HB9.out
          clear hp hHeld hS11
          refine hK.out _ _ (hct) (fun hHeld => ?_)
          clear hK K
          (try simp only [Act.put, List.setIfInBounds_toArray, List.set_cons_zero, List.set_cons_succ])
          refine wpAnyH_done (by kernel_rfl) ?_ _
          clear hHeld
          clear hct HB8
          rw [List.append_assoc, List.append_assoc, ← List.append_assoc (hexL _), HSN.out] at HB9
          gi_wp2
          go_roundw
          case rel => exact ⟨k + 1, by omega, by go_num, HB9⟩
          case measure => simp [intOf]; omega
        · obtain rfl : k = m := by omega
          have HB8 := HB7
          rw [List.take_of_length_le (by rw [HDB.out]; exact Nat.le_refl _)] at HB8
          clear HB7
          have ct := HCT.out _ _ HB8.out
          gi_wp2_with fail
          refine ⟨trivial, ?_⟩
          refine (CallsIn.inRound y (callsIn_wide.2 (wbyte_any w.heap.size (w.heap.size + 1) (T4 ++ hexL D) 10 wo HB8.out.bld (by have := HT4.out; have := HDL.out; have := HDB.out; rw [List.length_append, hexL_len]; omega) HB8.out.le))).mono ?_
          rintro e W9 ⟨rfl, hp⟩
          have HB9 := Lib.hid (HB8.out.post hp)
          clear hp HB8 ct
          gi_wp2
          exact HFIN.out _ HB9.out
    case stop =>
      rintro DD c pre W hDD hp h hK
      exact h.elim
    case done =>
      rintro D1 ys W hD1 hys hI hK1
      obtain rfl : ys = lo := hys
      obtain ⟨T1, hT1⟩ : ∃ T1, T0 ++ (ys.map (fun y => y.val.ok)).flatMap opT = T1 := ⟨_, rfl⟩
      have HT1L : Hid (T1.length ≤ 900000000) := by
        have h1 := flat_max (fun y : {y : Ho // OpG w y} => opT y.val.ok) 41000 ys (fun y _ => opT_len y.2)
        have h2 : (ys.map (fun y => y.val.ok)).flatMap opT = ys.flatMap (fun y : {y : Ho // OpG w y} => opT y.val.ok) := by rw [List.flatMap_map]
        have h3 := HLOL.out
        have h4 := HT0L.out
        show _ ≤ _
        rw [← hT1, List.length_append, h2]
        omega
      rw [hT1] at HTF
      have HI1 : Hid (BI w w.heap.size (w.heap.size + 1) Wb T1 W) := by rw [← hT1]; exact hI
      replace HS1 : Hid (SC x w W) := Lib.hid (SC.of (HI1.out.ok _ _ HS1.out.s (by simp) (fun c fz e => by cases e)) (HI1.out.ok _ _ HS1.out.t (by simp) (fun c fz e => by cases e)))
      have HM1 : Hid (Marks w.heap.size W [{ target := .collected D1, args := #[] }]) := Lib.hid ((Marks.nil w.heap.size Wb).add (fun D hD => by
        refine HI1.out.ok D _ hD (fun e => ?_) (fun c fz e => by cases e)
        cases e
        obtain ⟨cs, fz, hb⟩ := HB1.out.bld.blk
        rw [hb] at hD; cases hD) hD1 (by omega) hK1)
      obtain ⟨Wd, rfl⟩ : ∃ Wd : World, Wd = W := ⟨_, rfl⟩
      clear hseq hI hK1 HB1 HB1' HSB HBJ HCT hT1 hbb HLO HLOL
      have HBJ : Hid (BI w w.heap.size (w.heap.size + 1) Wd T1 Wd) := Lib.hid (BI.start HI1.out.bld HI1.out.bel)
      have HSB := HS1
      clear HI1 HS1 hbz HT0L
      have c7 : Wd.cell? ⟨w.heap.size, 7, none⟩ = some (.slice x.fa x.faults.length x.fc) := HSB.out.c7
      go_wp2_with fail
      refine (makeF_any x.fa x.faults.length x.fc Wd).mono ?_
      rintro e We ⟨rfl, hwb⟩
      have HB1 : Hid (BI w w.heap.size (w.heap.size + 1) Wd T1 We) := Lib.hid (by rw [← hwb]; exact HBJ.out.below (below1 _ _))
      have hg1 : We.cell? ⟨Wd.heap.size, 0, none⟩ = some (.slice x.fa x.faults.length x.fc) := by rw [← hwb, World.cell?_alloc_at _ _ _ _ rfl]; rfl
      clear hwb c7
      have HB1' : Hid (BI w w.heap.size (w.heap.size + 1) We T1 We) := Lib.hid (BI.start HB1.out.bld HB1.out.bel)
      have hbz : w.heap.size ≤ We.heap.size := HB1.out.le
      have hseq := eachF_stops (enc := fun y : {y : Fa // FtG y} => encF y.val) (fun _ => rfl) (fun y => encF_one y.val) 2 (by omega) Wd.heap.size w.heap.size (fun _ => False) (.slice x.fa x.faults.length x.fc) lf We HB1.out.le hg1 (fun W' hW' => HLF.out W' (HB1.out.bel.trans hW'.1))
      have HS1 : Hid (SC x w We) := Lib.hid (SC.of (HB1.out.ok _ _ HSB.out.s (by simp) (fun c fz e => by cases e)) (HB1.out.ok _ _ HSB.out.t (by simp) (fun c fz e => by cases e)))
      have HCT : Hid (∀ T X, BI w w.heap.size (w.heap.size + 1) We T X → X.cell? ⟨w.heap.size + 2, 0, none⟩ = some (.pointer (some ⟨w.heap.size + 1, 0, none⟩))) := Lib.hid (fun T X hX => Blk.cell (hX.ok _ _ HS1.out.t (by simp) (fun c fz e => by cases e)) 0)
      have hbb : w.heap.size + 1 < We.heap.size := HB1.out.bld.lt.2
      clear hg1
      have HMC : Hid (Marks w.heap.size We [{ target := .collected D1, args := #[] }]) := Lib.hid (HM1.out.keep (fun D hD => by
        refine HB1.out.ok D _ hD (fun e => ?_) (fun c fz e => by cases e)
        cases e
        obtain ⟨cs, fz, hb⟩ := HBJ.out.bld.blk
        rw [hb] at hD; cases hD))
      go_wp2_with fail
      refine (wpIn_wide (n := 3)).1 ?_
      refine wpIn_rangeFunc_ownH rfl (by omega) (gf := 55) (lb := #[.pointer (some ⟨Wd.heap.size, 0, none⟩)]) rfl trivial (enters_of Tryz.func55 (by kernel_rfl) rfl) hseq (fun h k => KQ.trans h k) (KQ.put hbz (fun k hk => hk.elim)) (Below.refl _ _) (fun _ => rfl)
        (fun pre W => BI w w.heap.size (w.heap.size + 1) We (T1 ++ (pre.map (fun y => y.val.fk)).flatMap ftT) W) (fun _ _ _ => False) (BI.own (f := fun pre : List {y : Fa // FtG y} => T1 ++ (pre.map (fun y => y.val.fk)).flatMap ftT) (Nat.le_refl _) hbz) (fun _ _ _ _ _ h _ _ => h) (by simpa using HB1'.out)
        (fun x => TF w We.heap.size x.val)
        (fun x a' s A B row hs hg hr => by obtain ⟨U, bx, h1, h2, h3⟩ := hs; exact ⟨U, bx, h1, Blk.own _ _ _ s A B row h2 hg (fun r e => (hr r e).2), h3⟩)
        ?assign ?body ?done ?stop
      case assign =>
        rintro y pre x W K hI hK
        unfold encV
        gi_wp2_with (refine wpListIn_storeW W39 rfl rfl rfl (encF x.val) rfl rfl (encF_one x.val) rfl ?_)
        exact hK _ _ ((KeepsOthers.alloc _ _).from _) (KQ.of_below (below1 _ _) hI.le) (hI.below (below1 _ _)) (TF.mk' W.heap.size rfl (Blk.new' rfl) hI.sz)
      case body =>
        as_aux_lemma =>
        rintro y pre x1 a' W hl0 hr0 hI ⟨U2, bx, rfl, hBx, hHx⟩ hlen
        have hbxb : bx ≠ w.heap.size + 1 := by omega
        obtain ⟨TP, hTP⟩ : ∃ TP, T1 ++ (pre.map (fun y => y.val.fk)).flatMap ftT = TP := ⟨_, rfl⟩
        have hgx := x1.2
        have HTS : Hid (T1 ++ ((pre ++ [x1]).map (fun y => y.val.fk)).flatMap ftT = TP ++ ftT x1.val.fk) := by
          show _ = _
          rw [List.map_append, List.flatMap_append, ← List.append_assoc, hTP]
          simp
        have HTL1 : Hid (TP.length ≤ 1800000000) := by
          have h1 := flat_max (fun y : {y : Fa // FtG y} => ftT y.val.fk) 41000 pre (fun y _ => ftT_len y.2)
          have h2 : (pre.map (fun y => y.val.fk)).flatMap ftT = pre.flatMap (fun y : {y : Fa // FtG y} => ftT y.val.fk) := by rw [List.flatMap_map]
          have h3 := HLFL.out
          have h4 := HT1L.out
          show _ ≤ _
          rw [← hTP, List.length_append, h2]
          omega
        have HI0 : Hid (BI w w.heap.size (w.heap.size + 1) We TP W) := by rw [← hTP]; exact hI
        have HBI0 : Hid (BI w w.heap.size (w.heap.size + 1) W TP W) := Lib.hid (BI.start HI0.out.bld HI0.out.bel)
        have HGX := Lib.hid hgx
        have HFIN : Hid (∀ X, BI w w.heap.size (w.heap.size + 1) W (TP ++ ftT x1.val.fk) X → KeepsFrom We.heap.size W X ∧ KQ w.heap.size (fun _ => False) W X ∧ BI w w.heap.size (w.heap.size + 1) We (T1 ++ ((pre ++ [x1]).map (fun y => y.val.fk)).flatMap ftT) X) := fun X hX =>
          ⟨(hX.others HI0.out.bld).from _, BI.kq HI0.out hX (fun k hk => hk.elim), by rw [HTS.out]; exact HI0.out.join hX⟩
        replace HCT : Hid (∀ T X, BI w w.heap.size (w.heap.size + 1) W T X → X.cell? ⟨w.heap.size + 2, 0, none⟩ = some (.pointer (some ⟨w.heap.size + 1, 0, none⟩))) := Lib.hid (fun T X hX => HCT.out T X (HI0.out.join hX))
        have HXB : Hid (∀ T X, BI w w.heap.size (w.heap.size + 1) W T X → ∀ (j : Nat) (u : Value), (encF x1.val)[j]? = some u → X.cell? ⟨bx, j, none⟩ = some u) := Lib.hid (fun T X hX j u hu => Blk.list0 (hX.ok _ _ hBx (by simpa using hbxb) (fun c fz e => by cases e)) hu)
        clear hI hl0 hr0 hTP hBx hgx HI0 HTS hseq hlen hbb hbz HSB HS1 HB1 HB1' HBJ HM1 HMC
        generalize x1.val = xv at *
        obtain ⟨W2, hW2⟩ : ∃ W2, W.alloc (.cells #[.int .i64 xv.k, .int .i64 xv.n, .int .i64 xv.c, .int .i64 xv.r, .int .i64 xv.s, .int .i64 xv.a, .int .i64 xv.b] 3) = W2 := ⟨_, rfl⟩
        obtain ⟨g2, hg2⟩ : ∃ g2, W.heap.size = g2 := ⟨_, rfl⟩
        have HRUN := Lib.hid (run_ints7 W xv.k xv.n xv.c xv.r xv.s xv.a xv.b)
        have HNK : Hid (NumsK w.heap.size W2 (.slice (some ⟨g2, 0, none⟩) 7 7) xv.fk.ints) := Lib.hid (by rw [← hW2]; exact numsK_row g2 xv.fk.ints hg2 (HGX.out) (by simp [Fk.ints]))
        have HB2 : Hid (BI w w.heap.size (w.heap.size + 1) W TP W2) := Lib.hid (by rw [← hW2]; exact HBI0.out.below (below1 _ _))
        rw [hW2, hg2] at HRUN
        clear hW2 hg2
        have ct := HCT.out _ _ HBI0.out
        have q0 : W.cell? ⟨bx, 0, none⟩ = some (.int .i64 xv.k) := HXB.out _ _ HBI0.out 0 _ rfl
        have q1 : W.cell? ⟨bx, 1, none⟩ = some (.int .i64 xv.n) := HXB.out _ _ HBI0.out 1 _ rfl
        have q2 : W.cell? ⟨bx, 2, none⟩ = some (.int .i64 xv.c) := HXB.out _ _ HBI0.out 2 _ rfl
        have q3 : W.cell? ⟨bx, 3, none⟩ = some (.int .i64 xv.r) := HXB.out _ _ HBI0.out 3 _ rfl
        have q4 : W.cell? ⟨bx, 4, none⟩ = some (.int .i64 xv.s) := HXB.out _ _ HBI0.out 4 _ rfl
        have q5 : W.cell? ⟨bx, 5, none⟩ = some (.int .i64 xv.a) := HXB.out _ _ HBI0.out 5 _ rfl
        have q6 : W.cell? ⟨bx, 6, none⟩ = some (.int .i64 xv.b) := HXB.out _ _ HBI0.out 6 _ rfl
        gi_wp2_with (((with_reducible show wpListIn _ _ _ _ _ (Oper.mk (some 96) _ _ _ _ _ :: _) _ _); refine wpListIn_val rfl (by rfl) (fun c h => by cases h) (exec_ints7 HRUN.out rfl rfl rfl rfl rfl rfl rfl rfl) ?_))
        refine ⟨trivial, ?_⟩
        refine (CallsIn.inRound y (callsIn_wide.2 (numbers_any w.heap.size (w.heap.size + 1) TP wFault _ xv.fk.ints W2 HB2.out.bld HNK.out.1 HNK.out.2 (by simp [Fk.ints]) (by have := HTL1.out; simp [wFault]; omega)))).mono ?_
        rintro e W3 ⟨rfl, hp⟩
        have HB3 := Lib.hid (HB2.out.post hp)
        have HTL3 : Hid ((TP ++ lineT wFault xv.fk.ints).length ≤ 2000000000) := by
          have h1 := numT_len xv.fk.ints (HGX.out)
          have h3 : xv.fk.ints.length = 7 := rfl
          have h4 := HTL1.out
          have h5 : wFault.length = 5 := rfl
          show _ ≤ _
          unfold lineT
          simp only [List.length_append]
          omega
        clear hp HRUN HNK HB2 HBI0 ct q0 q1 q2 q3 q4 q5 q6
        have ct := HCT.out _ _ HB3.out
        gi_wp2_with fail
        refine ⟨trivial, ?_⟩
        refine (CallsIn.inRound y (callsIn_wide.2 (wbyte_any w.heap.size (w.heap.size + 1) (TP ++ lineT wFault xv.fk.ints) 10 W3 HB3.out.bld (by have := HTL3.out; omega) HB3.out.le))).mono ?_
        rintro e W4 ⟨rfl, hp⟩
        have HB4 := Lib.hid (HB3.out.post hp)
        clear hp HB3 ct
        rw [List.append_assoc, ← ftT_eq] at HB4
        gi_wp2
        exact HFIN.out _ HB4.out
      case stop =>
        rintro DD c pre W hDD hp h hK
        exact h.elim
      case done =>
        rintro D2 ys W hD1 hys hI hK1
        obtain rfl : ys = lf := hys
        obtain ⟨T2, hT2⟩ : ∃ T2, T1 ++ (ys.map (fun y => y.val.fk)).flatMap ftT = T2 := ⟨_, rfl⟩
        rw [hT2] at HTF
        have HI2 : Hid (BI w w.heap.size (w.heap.size + 1) We T2 W) := by rw [← hT2]; exact hI
        have HM2 : Hid (Marks w.heap.size W [{ target := .collected D2, args := #[] }, { target := .collected D1, args := #[] }]) := Lib.hid (HMC.out.add (fun D hD => by
          refine HI2.out.ok D _ hD (fun e => ?_) (fun c fz e => by cases e)
          cases e
          obtain ⟨cs, fz, hb⟩ := HB1.out.bld.blk
          rw [hb] at hD; cases hD) hD1 (by omega) hK1)
        have ct := HCT.out _ _ HI2.out
        clear hseq hI hK1 HB1 HB1' HSB HS1 HMC HM1 HBJ HCT hT2 hbb HLF HLFL
        have HNE : Hid (T2 ≠ []) := by show _ ≠ _; rw [← HTF.out]; exact printS_ne _
        have HST := Lib.hid (string_any w.heap.size (w.heap.size + 1) T2 W HI2.out.bld HNE.out)
        have HBD := Lib.hid HI2.out.bld
        have HBE := Lib.hid HI2.out.bel
        clear HI2
        go_wp2_with fail
        refine HST.out.mono ?_
        rintro e W5 ⟨rfl, hb5, hk5⟩
        have HB5 := Lib.hid (HBE.out.trans hb5)
        have HMK5 := Lib.hid (HM2.out.keep (fun E hE => by
          refine hk5 E _ hE (fun e => ?_) (fun c fz e => by cases e)
          cases e
          obtain ⟨cs, fz, hb⟩ := HBD.out.blk
          rw [hb] at hE; cases hE))
        clear hb5 hk5 HST ct
        go_wp2
        obtain ⟨Ds, hd1, hd2, hd3⟩ := HMK5.out
        show LeavesInM _ _ _ _ _ _ [{ target := .collected D2, args := #[] }, { target := .collected D1, args := #[] }] _ _
        rw [hd2]
        exact leave_marks Ds _ hd1 hd3 (fun X hX => ⟨by simp [results, Tryz.f9, go_sem], HPO.out X _ (HB5.out.trans hX) HTF.out.symm⟩)
end Go.Proofs.YtkinhhkodaacjaaGreatDoor
