/- Clean of any script. -/
import Derived.Test.YtkinhhkodaacjaaU3
namespace Go.Proofs.Ytkinhhkodaacjaa
open Go.RowKit Go.Shelf
open Md

theorem exec_negI {w : World} {o : Oper} {ac : Act} {x : Operand} {ty : TypeId} {z : Int} (ho : o.op = .unOp .neg ty x) (hx : ac.eval x = .int .i64 z) (hz : IntKind.i64.wrap (-z) = -z) : (execOp ac.eval o).run Try.prog w = .ok (.value (.int .i64 (-z))) w := by
  simp only [execOp, ho, hx]
  go_simp
  try rw [hz]
theorem exec_slice28 {w : World} {o : Oper} {ac : Act} {x y : Operand} {a : Option Addr} {q m c : Nat} (ho : o.op = .slice 28 x none (some y) none) (hx : ac.eval x = .slice a q c) (hy : ac.eval y = .int .i64 (m : Int)) (h1 : m ≤ c) (h2 : a = none → c = 0) : (execOp ac.eval o).run Try.prog w = .ok (.value (.slice a m c)) w := by
  generalize ac.eval = ev at *
  cases a with
  | none =>
    obtain rfl := h2 rfl
    obtain rfl : m = 0 := by omega
    unfold execOp
    simp only [ho, hx]
    go_simp
    try rfl
  | some p =>
    unfold execOp
    simp only [ho, hx]
    go_simp
    try rfl
theorem exec_build30 {w : World} {o : Oper} {ac : Act} {x0 x1 x2 x3 x4 x5 x7 : Operand} {r0 : Int} {a1 a2 a3 a4 a5 a7 : Option Addr} {n1 n2 n3 n4 n5 n7 c1 c2 c3 c4 c5 c7 : Nat} (ho : o.op = .build 30 #[(0, x0), (1, x1), (2, x2), (3, x3), (4, x4), (5, x5), (7, x7)])
    (h0 : ac.eval x0 = .int .i64 r0) (h1 : ac.eval x1 = .slice a1 n1 c1) (h2 : ac.eval x2 = .slice a2 n2 c2) (h3 : ac.eval x3 = .slice a3 n3 c3) (h4 : ac.eval x4 = .slice a4 n4 c4) (h5 : ac.eval x5 = .slice a5 n5 c5) (h7 : ac.eval x7 = .slice a7 n7 c7) :
    (execOp ac.eval o).run Try.prog w = .ok (.value (.agg ([.int .i64 r0, .slice a1 n1 c1, .slice a2 n2 c2, .slice a3 n3 c3, .slice a4 n4 c4, .slice a5 n5 c5, .slice none 0 0, .slice a7 n7 c7] : List Value).toArray)) w := by
  generalize ac.eval = ev at *
  unfold execOp
  simp only [ho, List.map_toArray, List.map_cons, List.map_nil, h0, h1, h2, h3, h4, h5, h7]
  clear h0 h1 h2 h3 h4 h5 h7 ho
  go_simp
  try rfl
theorem rows_of {B : Nat} {X Y : World} {g9 n k0 q : Nat} {a31 a37 a42 a50 a62 a66 : Option Addr} {c31 c37 c42 c50 c62 c66 : Nat} {lo lg lq ld : List Int} {lf : List Fa} {cs : Array Value}
    (h1 : X.ownsRow B 4 1 (.slice a31 n c31) n (List.replicate n (.bool true))) (h2 : X.ownsRow B 3 1 (.slice a37 n c37) n (lo.map (Value.int .i64))) (h3 : X.ownsRow B 3 1 (.slice a42 n c42) n (lg.map (Value.int .i64))) (h4 : X.ownsRow B 3 1 (.slice a50 n c50) n (lq.map (Value.int .i64)))
    (h5 : X.ownsRow B 3 1 (.slice a62 k0 c62) k0 (ld.map (Value.int .i64))) (h6 : X.ownsRow B 39 7 (.slice a66 q c66) q (lf.flatMap encF)) (hg : X.grownBy Y (some g9)) (hb : Blk X g9 30 cs) :
    RWs B (rows6 n k0 q a31 c31 a37 c37 a42 c42 a50 c50 a62 c62 a66 c66 (List.replicate n true) lo lg lq ld lf) Y := by
  intro r hr
  simp only [rows6, List.mem_cons, List.not_mem_nil, or_false] at hr
  rcases hr with rfl | rfl | rfl | rfl | rfl | rfl
  · simp only [List.map_replicate]
    exact h1.kept hg (.inr (own_blk_ne h1 hb (by decide)))
  · exact h2.kept hg (.inr (own_blk_ne h2 hb (by decide)))
  · exact h3.kept hg (.inr (own_blk_ne h3 hb (by decide)))
  · exact h4.kept hg (.inr (own_blk_ne h4 hb (by decide)))
  · exact h5.kept hg (.inr (own_blk_ne h5 hb (by decide)))
  · exact h6.kept hg (.inr (own_blk_ne h6 hb (by decide)))
/-- The truths are copied into the row. -/
theorem rows_ups {B : Nat} {X Y : World} {n k0 q g : Nat} {a37 a42 a50 a62 a66 : Option Addr} {c31 c37 c42 c50 c62 c66 : Nat} {lu lu' : List Bool} {lo lg lq ld : List Int} {lf : List Fa}
    (h : RWs B (rows6 n k0 q (some ⟨g, 0, none⟩) c31 a37 c37 a42 c42 a50 c50 a62 c62 a66 c66 lu lo lg lq ld lf) X) (hg : X.grownBy Y (some g)) (hu : Y.ownsRow B 4 1 (.slice (some ⟨g, 0, none⟩) n c31) n (lu'.map Value.bool)) :
    RWs B (rows6 n k0 q (some ⟨g, 0, none⟩) c31 a37 c37 a42 c42 a50 c50 a62 c62 a66 c66 lu' lo lg lq ld lf) Y := by
  have h0 := h (4, 1, .slice (some ⟨g, 0, none⟩) n c31, n, lu.map Value.bool) (by simp [rows6])
  intro r hr
  have hr0 := hr
  simp only [rows6, List.mem_cons, List.not_mem_nil, or_false] at hr
  rcases hr with rfl | rfl | rfl | rfl | rfl | rfl
  · exact hu
  · have h1 := h (3, 1, .slice a37 n c37, n, lo.map (Value.int .i64)) (by simp [rows6])
    exact h1.kept hg (by simpa [Value.ownBlock] using own_own_ne h1 h0 (by simp))
  · have h1 := h (3, 1, .slice a42 n c42, n, lg.map (Value.int .i64)) (by simp [rows6])
    exact h1.kept hg (by simpa [Value.ownBlock] using own_own_ne h1 h0 (by simp))
  · have h1 := h (3, 1, .slice a50 n c50, n, lq.map (Value.int .i64)) (by simp [rows6])
    exact h1.kept hg (by simpa [Value.ownBlock] using own_own_ne h1 h0 (by simp))
  · have h1 := h (3, 1, .slice a62 k0 c62, k0, ld.map (Value.int .i64)) (by simp [rows6])
    exact h1.kept hg (by simpa [Value.ownBlock] using own_own_ne h1 h0 (by simp))
  · have h1 := h (39, 7, .slice a66 q c66, q, lf.flatMap encF) (by simp [rows6])
    exact h1.kept hg (by simpa [Value.ownBlock] using own_own_ne h1 h0 (by simp))
/-- The faults are cut. -/
theorem rows_cut {B : Nat} {X : World} {n k0 q mm : Nat} {a31 a37 a42 a50 a62 a66 : Option Addr} {c31 c37 c42 c50 c62 c66 : Nat} {lu : List Bool} {lo lg lq ld : List Int} {lf : List Fa}
    (h : RWs B (rows6 n k0 q a31 c31 a37 c37 a42 c42 a50 c50 a62 c62 a66 c66 lu lo lg lq ld lf) X) (hm : mm ≤ q) : RWs B (rows6 n k0 mm a31 c31 a37 c37 a42 c42 a50 c50 a62 c62 a66 c66 lu lo lg lq ld (lf.take mm)) X := by
  intro r hr
  simp only [rows6, List.mem_cons, List.not_mem_nil, or_false] at hr
  rcases hr with rfl | rfl | rfl | rfl | rfl | rfl
  · exact h (4, 1, .slice a31 n c31, n, lu.map Value.bool) (by simp [rows6])
  · exact h (3, 1, .slice a37 n c37, n, lo.map (Value.int .i64)) (by simp [rows6])
  · exact h (3, 1, .slice a42 n c42, n, lg.map (Value.int .i64)) (by simp [rows6])
  · exact h (3, 1, .slice a50 n c50, n, lq.map (Value.int .i64)) (by simp [rows6])
  · exact h (3, 1, .slice a62 k0 c62, k0, ld.map (Value.int .i64)) (by simp [rows6])
  · have := own_take (h (39, 7, .slice a66 q c66, q, lf.flatMap encF) (by simp [rows6])) hm
    simp only [flat_take encF_len] at this
    exact this
/-- What the struct under way holds. -/
def MidQ (m : Me) (x : Sc) (n k0 q : Nat) (lo lg lq ld : List Int) (lf : List Fa) (w : World) (s : Value) (wx : World) : Prop :=
  ∃ g9, s = .pointer (some ⟨g9, 0, none⟩) ∧ ∃ a31 c31 a37 c37 a42 c42 a50 c50 a62 c62 a66 c66, Hid (CQ m x n w wx) ∧ Hid (RWs w.heap.size (rows6 n k0 q a31 c31 a37 c37 a42 c42 a50 c50 a62 c62 a66 c66 (List.replicate n true) lo lg lq ld lf) wx) ∧
    Hid (Blk wx g9 30 (cells8 (imin (imax x.rounds 1) 16) (.slice a31 n c31) (.slice a37 n c37) (.slice a42 n c42) (.slice a50 n c50) (.slice a62 k0 c62) (.slice none 0 0) (.slice a66 q c66)).toArray) ∧ Hid (w.heap.size + 3 ≤ g9)
/-- .. with the truths of the script, and the faults cut. -/
def MidR (m : Me) (x : Sc) (n k0 mm g9 : Nat) (a31 : Option Addr) (c31 : Nat) (a37 : Option Addr) (c37 : Nat) (a42 : Option Addr) (c42 : Nat) (a50 : Option Addr) (c50 : Nat) (a62 : Option Addr) (c62 : Nat) (a66 : Option Addr) (c66 : Nat) (lo lg lq ld : List Int) (lf : List Fa) (w : World) (v6 : Value) (L : List Ho) (wx : World) : Prop :=
  CK m x n w g9 (cells8 (imin (imax x.rounds 1) 16) (.slice a31 n c31) (.slice a37 n c37) (.slice a42 n c42) (.slice a50 n c50) (.slice a62 k0 c62) v6 (.slice a66 mm c66)) (rows6 n k0 mm a31 c31 a37 c37 a42 c42 a50 c50 a62 c62 a66 c66 (upsL x.ups.l n) lo lg lq ld lf) v6 L wx
theorem rows6_typ {n k0 mm : Nat} {a31 a37 a42 a50 a62 a66 : Option Addr} {c31 c37 c42 c50 c62 c66 : Nat} {lu : List Bool} {lo lg lq ld : List Int} {lf : List Fa} : ∀ r ∈ rows6 n k0 mm a31 c31 a37 c37 a42 c42 a50 c50 a62 c62 a66 c66 lu lo lg lq ld lf, r.1 ≠ 30 ∧ r.1 ≠ 43 := by
  intro r hr
  simp only [rows6, List.mem_cons, List.not_mem_nil, or_false] at hr
  rcases hr with rfl | rfl | rfl | rfl | rfl | rfl <;> exact ⟨by simp, by simp⟩
/-- What Clean answers. -/
def CleanedPost (m : Me) (x : Sc) (w : World) (e : Ending) (w' : World) : Prop :=
  (if okM m = true then ∃ y : Sc, e = .returned (.tuple #[.agg (encSc y).toArray, .int .i64 0]) ∧ GoodSc w' y ∧ CleanL m x y else e = .returned (.tuple #[.agg zScr.toArray, .int .i64 70])) ∧ Below w.heap.size w w'
theorem neg_half {x : Int} (h : I64 x) : IntKind.i64.wrap (-(x.tdiv 2)) = -(x.tdiv 2) := by
  have h1 := h.lo
  have h2 := h.hi
  apply IntWalk.i64_in
  rcases Int.le_total 0 x with h0 | h0
  · rw [Int.tdiv_eq_ediv_of_nonneg h0]; omega
  · obtain ⟨y, rfl⟩ : ∃ y, x = -y := ⟨-x, by omega⟩
    rw [Int.neg_tdiv, Int.tdiv_eq_ediv_of_nonneg (by omega)]; omega
theorem mid_cut {m : Me} {x : Sc} {n k0 q mm g9 : Nat} {a31 a37 a42 a50 a62 a66 : Option Addr} {c31 c37 c42 c50 c62 c66 : Nat} {lo lg lq ld : List Int} {lf : List Fa} {w X : World} (h : CQ m x n w X) (hg : w.heap.size + 3 ≤ g9)
    (ht : Blk X g9 30 (cells8 (imin (imax x.rounds 1) 16) (.slice a31 n c31) (.slice a37 n c37) (.slice a42 n c42) (.slice a50 n c50) (.slice a62 k0 c62) (.slice none 0 0) (.slice a66 q c66)).toArray)
    (hr : RWs w.heap.size (rows6 n k0 mm a31 c31 a37 c37 a42 c42 a50 c50 a62 c62 a66 c66 (upsL x.ups.l n) lo lg lq ld lf) X) :
    MidR m x n k0 mm g9 a31 c31 a37 c37 a42 c42 a50 c50 a62 c62 a66 c66 lo lg lq ld lf w (.slice none 0 0) [] (X.setCell ⟨g9, 7, none⟩ (.slice a66 mm c66)) := by
  have hg' := grownBy_setCell X (⟨g9, 7, none⟩ : Addr) (.slice a66 mm c66)
  refine ⟨h.grown hg' (fun k e => by cases e; exact hg), hg, by have := ht.set 7 (.slice a66 mm c66); simpa [cells8] using this, ?_, World.ownsRow_nil _ _ _ _, rows6_typ⟩
  rw [List.map_nil, List.append_nil]
  exact hr.kept hg' ht (fun r hr => (rows6_typ r hr).1)
section
variable {m : Me} {x : Sc} {n k0 mm g9 : Nat} {a31 a37 a42 a50 a62 a66 : Option Addr} {c31 c37 c42 c50 c62 c66 : Nat} {lo lg lq ld : List Int} {lf : List Fa} {w : World} {v6 : Value} {L : List Ho} {X Y : World}
theorem MidR.keep (h : MidR m x n k0 mm g9 a31 c31 a37 c37 a42 c42 a50 c50 a62 c62 a66 c66 lo lg lq ld lf w v6 L X) (hb : Below X.heap.size X Y) : MidR m x n k0 mm g9 a31 c31 a37 c37 a42 c42 a50 c50 a62 c62 a66 c66 lo lg lq ld lf w v6 L Y := CK.keep h hb
theorem MidR.far (h : MidR m x n k0 mm g9 a31 c31 a37 c37 a42 c42 a50 c50 a62 c62 a66 c66 lo lg lq ld lf w v6 L X) {b : Nat} {cs : Array Value} (hb : Blk X b 43 cs) (hlt : w.heap.size + 3 ≤ b) (hne : v6.ownBlock ≠ some b) (hg : X.grownBy Y (some b)) : MidR m x n k0 mm g9 a31 c31 a37 c37 a42 c42 a50 c50 a62 c62 a66 c66 lo lg lq ld lf w v6 L Y := CK.far h hb hlt hne hg
theorem MidR.fz6 (h : MidR m x n k0 mm g9 a31 c31 a37 c37 a42 c42 a50 c50 a62 c62 a66 c66 lo lg lq ld lf w v6 L X) {v' : Value} {y : Ho} (ho : Y.ownsRow (w.heap.size + 3) 43 6 v' (L.length + 1) (L.flatMap encH ++ encH y)) (hg : X.grownBy Y v6.ownBlock) (hd : X.ownsRow w.heap.size 5 1 (.slice y.a y.d.length y.c) y.d.length (y.d.map (.int .u8))) : Y.frozen? ⟨g9, 6, none⟩ = false := (CK.app h ho hg hd).t9.frozen 6
theorem MidR.cl6 (h : MidR m x n k0 mm g9 a31 c31 a37 c37 a42 c42 a50 c50 a62 c62 a66 c66 lo lg lq ld lf w v6 L X) {v' : Value} {y : Ho} (ho : Y.ownsRow (w.heap.size + 3) 43 6 v' (L.length + 1) (L.flatMap encH ++ encH y)) (hg : X.grownBy Y v6.ownBlock) (hd : X.ownsRow w.heap.size 5 1 (.slice y.a y.d.length y.c) y.d.length (y.d.map (.int .u8))) : Y.cell? ⟨g9, 6, none⟩ = some v6 := (CK.app h ho hg hd).t9.list0 rfl
theorem MidR.app6 (h : MidR m x n k0 mm g9 a31 c31 a37 c37 a42 c42 a50 c50 a62 c62 a66 c66 lo lg lq ld lf w v6 L X) {v' : Value} {y : Ho} (ho : Y.ownsRow (w.heap.size + 3) 43 6 v' (L.length + 1) (L.flatMap encH ++ encH y)) (hg : X.grownBy Y v6.ownBlock) (hd : X.ownsRow w.heap.size 5 1 (.slice y.a y.d.length y.c) y.d.length (y.d.map (.int .u8))) : MidR m x n k0 mm g9 a31 c31 a37 c37 a42 c42 a50 c50 a62 c62 a66 c66 lo lg lq ld lf w v' (L ++ [y]) (Y.setCell ⟨g9, 6, none⟩ v') := (CK.app h ho hg hd).set9 6 v'
end
set_option maxRecDepth 100000 in
set_option maxHeartbeats 8000000 in
theorem clean1_any (m : Me) (x : Sc) (w : World) (hg : GoodMe w m) (hx : GoodSc w x) (hs : Small x) (ho : okM m = true) : Calls Try.prog 7 #[.agg (encMe m).toArray, .agg (encSc x).toArray] w (CleanedPost m x w) := by
  have hd := okM_bd ho
  obtain ⟨n, hn⟩ : ∃ n : Nat, m.nodes = (n : Int) := ⟨m.nodes.toNat, by have := hd.n0; omega⟩
  have hn8 : n ≤ 8 := by have := hd.n1; omega
  have hn0 : 4 ≤ n := by have := hd.n0; omega
  have HNG : Hid (IntKind.i64.wrap (-(m.win.tdiv 2)) = -(m.win.tdiv 2)) := neg_half hg.2.2.2.2.1
  have HND : Hid (IntKind.i64.wrap (-m.drift) = -m.drift) := by
    have := (okM_drift ho)
    exact IntWalk.i64_in _ (by omega)
  obtain ⟨k0, hk0⟩ : ∃ k0, k0 = min x.drifts.l.length 1024 := ⟨_, rfl⟩
  have HK0 := Lib.hid hk0
  have hk0b : k0 ≤ 1024 := by omega
  have HMK := Lib.hid (fun (o : Oper) (a : Act) (w : World) (x1 y1 : Operand) (ts : Array TypeId) (h0 : o.op = .call { callee := .builtin .min, args := #[x1, y1], argTypes := ts }) (h1 : a.eval x1 = .int .i64 (x.drifts.l.length : Int)) (h2 : a.eval y1 = .int .i64 1024) => exec_min (P := Try.prog) (w := w) h0 h1 h2)
  rw [show imin (x.drifts.l.length : Int) 1024 = (k0 : Int) by unfold imin; split <;> omega] at HMK
  clear hk0
  obtain ⟨lo, hlo⟩ : ∃ lo, lo = rowL x.offs.l n 0 (precM m) 0 := ⟨_, rfl⟩
  obtain ⟨lg, hlg⟩ : ∃ lg, lg = rowL x.gates.l n 40 60 50 := ⟨_, rfl⟩
  obtain ⟨lq, hlq⟩ : ∃ lq, lq = rowL x.guards.l n (-(m.win.tdiv 2)) (m.win.tdiv 2) 0 := ⟨_, rfl⟩
  obtain ⟨ld, hld⟩ : ∃ ld, ld = rowL x.drifts.l k0 (-m.drift) m.drift 0 := ⟨_, rfl⟩
  obtain ⟨lf, hlf⟩ : ∃ lf, lf = cleanF m x.faults := ⟨_, rfl⟩
  obtain ⟨q, hq⟩ : ∃ q, q = lf.length := ⟨_, rfl⟩
  have HRO : Hid (∀ X, Hid (CQ m x n w X) → Calls Try.prog 25 #[.slice x.offs.a x.offs.l.length x.offs.c, .int .i64 (n : Int), .int .i64 0, .int .i64 (precM m), .int .i64 0] X fun e w' => (∃ v', e = .returned v' ∧ w'.ownsRow X.heap.size 3 1 v' n (lo.map (Value.int .i64))) ∧ Below X.heap.size X w') := fun X h => by rw [hlo]; exact row_any _ x.offs.l n _ _ _ X h.out.gs.offs.1 (by omega)
  have HRG : Hid (∀ X, Hid (CQ m x n w X) → Calls Try.prog 25 #[.slice x.gates.a x.gates.l.length x.gates.c, .int .i64 (n : Int), .int .i64 40, .int .i64 60, .int .i64 50] X fun e w' => (∃ v', e = .returned v' ∧ w'.ownsRow X.heap.size 3 1 v' n (lg.map (Value.int .i64))) ∧ Below X.heap.size X w') := fun X h => by rw [hlg]; exact row_any _ x.gates.l n _ _ _ X h.out.gs.gates.1 (by omega)
  have HRQ : Hid (∀ X, Hid (CQ m x n w X) → Calls Try.prog 25 #[.slice x.guards.a x.guards.l.length x.guards.c, .int .i64 (n : Int), .int .i64 (-(m.win.tdiv 2)), .int .i64 (m.win.tdiv 2), .int .i64 0] X fun e w' => (∃ v', e = .returned v' ∧ w'.ownsRow X.heap.size 3 1 v' n (lq.map (Value.int .i64))) ∧ Below X.heap.size X w') := fun X h => by rw [hlq]; exact row_any _ x.guards.l n _ _ _ X h.out.gs.guards.1 (by omega)
  have HRD : Hid (∀ X, Hid (CQ m x n w X) → Calls Try.prog 25 #[.slice x.drifts.a x.drifts.l.length x.drifts.c, .int .i64 (k0 : Int), .int .i64 (-m.drift), .int .i64 m.drift, .int .i64 0] X fun e w' => (∃ v', e = .returned v' ∧ w'.ownsRow X.heap.size 3 1 v' k0 (ld.map (Value.int .i64))) ∧ Below X.heap.size X w') := fun X h => by rw [hld]; exact row_any _ x.drifts.l k0 _ _ _ X h.out.gs.drifts.1 (by omega)
  have HRF : Hid (∀ X, Hid (CQ m x n w X) → Calls Try.prog 26 #[.agg (encMe m).toArray, .slice x.fa x.faults.length x.fc] X fun e w' => (∃ v', e = .returned v' ∧ w'.ownsRow X.heap.size 39 7 v' q (lf.flatMap encF)) ∧ Below X.heap.size X w') := fun X h => by rw [hq, hlf]; exact clean_any m _ x.faults X h.out.good h.out.gs.faults (by have := hs.l7; omega)
  have HPR : Hid (∀ X, Hid (CQ m x n w X) → Calls Try.prog 23 #[.agg (encMe m).toArray] X fun e w' => e = .returned (.tuple #[.int .i64 (precM m), .int .i64 0]) ∧ Below X.heap.size X w') := fun X h => by
    have := prec_any m X h.out.good
    rw [if_pos ho] at this
    exact this
  have HPS : Hid (CQ m x n w (((w.alloc (.cells (encMe m).toArray 25)).alloc (.cells (encSc x).toArray 30)).alloc (.cells zScr.toArray 30))) := Lib.hid
    ⟨hn, below3 w _ _ _, hg, hx, ((Blk.new' rfl : Blk _ _ _ _).alloc _).alloc _, (Blk.new' (by simp) : Blk _ _ _ _).alloc _, Blk.new' (by simp)⟩
  obtain ⟨mm, hmm⟩ : ∃ mm, mm = min q 256 := ⟨_, rfl⟩
  have HPO : Hid (∀ (a31 : Option Addr) (c31 : Nat) (a37 : Option Addr) (c37 : Nat) (a42 : Option Addr) (c42 : Nat) (a50 : Option Addr) (c50 : Nat) (a62 : Option Addr) (c62 : Nat) (a66 : Option Addr) (c66 : Nat) (a6 : Option Addr) (c6 : Nat) (L M : List Ho) (X : World), RWs w.heap.size (rows6 n k0 mm a31 c31 a37 c37 a42 c42 a50 c50 a62 c62 a66 c66 (upsL x.ups.l n) lo lg lq ld (lf.take mm) ++ M.map drow) X → X.ownsRow (w.heap.size + 3) 43 6 (.slice a6 L.length c6) M.length (M.flatMap encH) → L.map Ho.key = (opsT m x.ops).map Ho.key → M.Perm L → UpH M → (UpH L → M = L) → Below w.heap.size w X →
      CleanedPost m x w (.returned (.tuple #[.agg (cells8 (imin (imax x.rounds 1) 16) (.slice a31 n c31) (.slice a37 n c37) (.slice a42 n c42) (.slice a50 n c50) (.slice a62 k0 c62) (.slice a6 L.length c6) (.slice a66 mm c66)).toArray, .int .i64 0])) X) := fun a31 c31 a37 c37 a42 c42 a50 c50 a62 c62 a66 c66 a6 c6 L M X q1 q2 q3 q4 q5 q6 q7 => by
    obtain ⟨y, e, gy, hy⟩ := good_of q1 q2 ho hn hx (rfl : imin (imax x.rounds 1) 16 = inTo 1 16 x.rounds) rfl hlo hlg hlq HK0.out hld (by rw [hlf]) (by rw [hmm, hq, hlf]) q3 q4 q5 q6
    refine ⟨?_, q7⟩
    rw [if_pos ho]
    exact ⟨y, by rw [← e], gy, hy⟩
  generalize CleanedPost m x w = POST at *
  have hmq : mm ≤ q := by omega
  have HMM : Hid (imin (q : Int) 256 = (mm : Int)) := by show _ = _; unfold imin; split <;> omega
  have hh : IntKind.i64.wrap (m.win.tdiv 2) = m.win.tdiv 2 := tdiv2 hg.2.2.2.2.1
  obtain ⟨ol, hol⟩ : ∃ ol, ol = x.ops.length := ⟨_, rfl⟩
  have HOL := Lib.hid hol
  have hol3 : ol ≤ 300 := by have := hs.l6; omega
  have HMY : Hid (∀ (z : Ho) (W : World), z ∈ x.ops → Calls Try.prog 27 #[.agg (encMe m).toArray, .agg (encH z).toArray] W fun e w' => e = .returned (.bool (mayH m z)) ∧ Below W.heap.size W w') := fun z W hz => hmay_any m z W (by have := (hx.opg z hz).d.1.len; omega) (by have := hg.1.2.1.len; omega)
  have HGO : Hid (∀ z ∈ x.ops, GoodH w z) := hx.opg
  clear hg ho hd hx hs hq hmm hol hlo hlg hlq hld hlf
  go_enter Try.func7, Try.ntmps7
  go_upto_region 1 with fail
  change Code.wp _ _ _ _ (((w.alloc (.cells (encMe m).toArray 25)).alloc (.cells (encSc x).toArray 30)).alloc (.cells zScr.toArray 30))
  generalize (((w.alloc (.cells (encMe m).toArray 25)).alloc (.cells (encSc x).toArray 30)).alloc (.cells zScr.toArray 30)) = W0 at *
  go_wp2_with ((with_reducible show wpList _ _ _ (Oper.mk (some 13) _ _ _ _ _ :: _) _ _); refine wpList_loadW W25 rfl rfl rfl (encMe m) rfl HPS.out.mm.list ?_)
  refine (HPR.out _ HPS).mono ?_
  rintro e W1 ⟨rfl, hb1⟩
  replace HPS := Lib.hid (HPS.out.keep hb1)
  clear hb1 HPR
  have c3 : W1.cell? ⟨w.heap.size, 3, none⟩ = some (.int .i64 m.win) := HPS.out.mm.list0 rfl
  go_upto_region 5 with fail
  clear c3
  go_cut [9] from 24 to 67 (fun s wx => Hid (MidQ m x n k0 q lo lg lq ld lf w s wx))
  case first => as_aux_lemma =>
    replace HPS := Lib.hid (HPS.out.keep (Below.refl _ _).drew)
    have HW : w.heap.size ≤ W1.drew.heap.size := HPS.out.bel.size
    have hS := HPS.out.cb
    refine wp_region_held_drew (S := fun X => Hid (CB2 m x n w X)) (by kernel_rfl) hS (fun hHeld => ?_)
    (refine takeW (i := 0) (v := ?_) rfl (by kernel_rfl) (by kernel_rfl) (by kernel_rfl) (fun _ _ _ h => h) (by rfl) (by assumption) ?_ ?_; rotate_left; (intro W hW; (try dsimp only at hW); go_simp; try with_reducible rfl); (try simp only [Act.put, List.setIfInBounds_toArray, List.set_cons_zero, List.set_cons_succ]))
    (refine takeW (i := 1) rfl (by kernel_rfl) (by kernel_rfl) (by kernel_rfl) (fun _ _ _ h => h) (by rfl) (by assumption) (fun W hW => exec_load1 FL3 rfl rfl hW.out.s0) ?_; (try simp only [Act.put, List.setIfInBounds_toArray, List.set_cons_zero, List.set_cons_succ]))
    (refine takeW (i := 2) rfl (by kernel_rfl) (by kernel_rfl) (by kernel_rfl) (fun _ _ _ h => h) (by rfl) (by assumption) (fun W hW => exec_max rfl rfl rfl) ?_; (try simp only [Act.put, List.setIfInBounds_toArray, List.set_cons_zero, List.set_cons_succ]))
    (refine takeW (i := 3) rfl (by kernel_rfl) (by kernel_rfl) (by kernel_rfl) (fun _ _ _ h => h) (by rfl) (by assumption) (fun W hW => exec_min rfl rfl rfl) ?_; (try simp only [Act.put, List.setIfInBounds_toArray, List.set_cons_zero, List.set_cons_succ]))
    (refine takeW (i := 5) (v := ?_) rfl (by kernel_rfl) (by kernel_rfl) (by kernel_rfl) (fun _ _ _ h => h) (by rfl) (by assumption) ?_ ?_; rotate_left; (intro W hW; (try dsimp only at hW); go_simp; try with_reducible rfl); (try simp only [Act.put, List.setIfInBounds_toArray, List.set_cons_zero, List.set_cons_succ]))
    (refine takeW (i := 6) rfl (by kernel_rfl) (by kernel_rfl) (by kernel_rfl) (fun _ _ _ h => h) (by rfl) (by assumption) (fun W hW => exec_load1 FL3 rfl rfl hW.out.c0) ?_; (try simp only [Act.put, List.setIfInBounds_toArray, List.set_cons_zero, List.set_cons_succ]))
    (refine takeW (i := 8) (v := ?_) rfl (by kernel_rfl) (by kernel_rfl) (by kernel_rfl) (fun _ _ _ h => h) (by rfl) (by assumption) ?_ ?_; rotate_left; (intro W hW; (try dsimp only at hW); go_simp; try with_reducible rfl); (try simp only [Act.put, List.setIfInBounds_toArray, List.set_cons_zero, List.set_cons_succ]))
    (refine takeW (i := 9) rfl (by kernel_rfl) (by kernel_rfl) (by kernel_rfl) (fun _ _ _ h => h) (by rfl) (by assumption) (fun W hW => exec_load1 FL26 rfl rfl hW.out.s2) ?_; (try simp only [Act.put, List.setIfInBounds_toArray, List.set_cons_zero, List.set_cons_succ]))
    (refine takeW (i := 10) (v := ?_) rfl (by kernel_rfl) (by kernel_rfl) (by kernel_rfl) (fun _ _ _ h => h) (by rfl) (by assumption) ?_ ?_; rotate_left; (intro W hW; (try dsimp only at hW); go_simp; try with_reducible rfl); (try simp only [Act.put, List.setIfInBounds_toArray, List.set_cons_zero, List.set_cons_succ]))
    (refine takeW (i := 11) rfl (by kernel_rfl) (by kernel_rfl) (by kernel_rfl) (fun _ _ _ h => h) (by rfl) (by assumption) (fun W hW => exec_load1 FL3 rfl rfl hW.out.c0) ?_; (try simp only [Act.put, List.setIfInBounds_toArray, List.set_cons_zero, List.set_cons_succ]))
    (refine takeW (i := 12) (v := ?_) rfl (by kernel_rfl) (by kernel_rfl) (by kernel_rfl) (fun _ _ _ h => h) (by rfl) (by assumption) ?_ ?_; rotate_left; (intro W hW; (try dsimp only at hW); go_simp; try with_reducible rfl); (try simp only [Act.put, List.setIfInBounds_toArray, List.set_cons_zero, List.set_cons_succ]))
    (refine takeW (i := 14) (v := ?_) rfl (by kernel_rfl) (by kernel_rfl) (by kernel_rfl) (fun _ _ _ h => h) (by rfl) (by assumption) ?_ ?_; rotate_left; (intro W hW; (try dsimp only at hW); go_simp; try with_reducible rfl); (try simp only [Act.put, List.setIfInBounds_toArray, List.set_cons_zero, List.set_cons_succ]))
    (refine takeW (i := 15) rfl (by kernel_rfl) (by kernel_rfl) (by kernel_rfl) (fun _ _ _ h => h) (by rfl) (by assumption) (fun W hW => exec_load1 FL26 rfl rfl hW.out.s3) ?_; (try simp only [Act.put, List.setIfInBounds_toArray, List.set_cons_zero, List.set_cons_succ]))
    (refine takeW (i := 16) (v := ?_) rfl (by kernel_rfl) (by kernel_rfl) (by kernel_rfl) (fun _ _ _ h => h) (by rfl) (by assumption) ?_ ?_; rotate_left; (intro W hW; (try dsimp only at hW); go_simp; try with_reducible rfl); (try simp only [Act.put, List.setIfInBounds_toArray, List.set_cons_zero, List.set_cons_succ]))
    (refine takeW (i := 17) rfl (by kernel_rfl) (by kernel_rfl) (by kernel_rfl) (fun _ _ _ h => h) (by rfl) (by assumption) (fun W hW => exec_load1 FL3 rfl rfl hW.out.c0) ?_; (try simp only [Act.put, List.setIfInBounds_toArray, List.set_cons_zero, List.set_cons_succ]))
    (refine takeW (i := 19) (v := ?_) rfl (by kernel_rfl) (by kernel_rfl) (by kernel_rfl) (fun _ _ _ h => h) (by rfl) (by assumption) ?_ ?_; rotate_left; (intro W hW; (try dsimp only at hW); go_simp; try with_reducible rfl); (try simp only [Act.put, List.setIfInBounds_toArray, List.set_cons_zero, List.set_cons_succ]))
    (refine takeW (i := 20) rfl (by kernel_rfl) (by kernel_rfl) (by kernel_rfl) (fun _ _ _ h => h) (by rfl) (by assumption) (fun W hW => exec_load1 FL26 rfl rfl hW.out.s4) ?_; (try simp only [Act.put, List.setIfInBounds_toArray, List.set_cons_zero, List.set_cons_succ]))
    (refine takeW (i := 21) (v := ?_) rfl (by kernel_rfl) (by kernel_rfl) (by kernel_rfl) (fun _ _ _ h => h) (by rfl) (by assumption) ?_ ?_; rotate_left; (intro W hW; (try dsimp only at hW); go_simp; try with_reducible rfl); (try simp only [Act.put, List.setIfInBounds_toArray, List.set_cons_zero, List.set_cons_succ]))
    (refine takeW (i := 22) rfl (by kernel_rfl) (by kernel_rfl) (by kernel_rfl) (fun _ _ _ h => h) (by rfl) (by assumption) (fun W hW => exec_load1 FL3 rfl rfl hW.out.c0) ?_; (try simp only [Act.put, List.setIfInBounds_toArray, List.set_cons_zero, List.set_cons_succ]))
    (refine takeW (i := 23) (v := ?_) rfl (by kernel_rfl) (by kernel_rfl) (by kernel_rfl) (fun _ _ _ h => h) (by rfl) (by assumption) ?_ ?_; rotate_left; (intro W hW; (try dsimp only at hW); go_simp; try with_reducible rfl); (try simp only [Act.put, List.setIfInBounds_toArray, List.set_cons_zero, List.set_cons_succ]))
    (refine takeW (i := 24) rfl (by kernel_rfl) (by kernel_rfl) (by kernel_rfl) (fun _ _ _ h => h) (by rfl) (by assumption) (fun W hW => exec_negI rfl rfl HNG.out) ?_; (try simp only [Act.put, List.setIfInBounds_toArray, List.set_cons_zero, List.set_cons_succ]))
    (refine takeW (i := 25) (v := ?_) rfl (by kernel_rfl) (by kernel_rfl) (by kernel_rfl) (fun _ _ _ h => h) (by rfl) (by assumption) ?_ ?_; rotate_left; (intro W hW; (try dsimp only at hW); go_simp; try with_reducible rfl); (try simp only [Act.put, List.setIfInBounds_toArray, List.set_cons_zero, List.set_cons_succ]))
    (refine takeW (i := 27) (v := ?_) rfl (by kernel_rfl) (by kernel_rfl) (by kernel_rfl) (fun _ _ _ h => h) (by rfl) (by assumption) ?_ ?_; rotate_left; (intro W hW; (try dsimp only at hW); go_simp; try with_reducible rfl); (try simp only [Act.put, List.setIfInBounds_toArray, List.set_cons_zero, List.set_cons_succ]))
    (refine takeW (i := 28) rfl (by kernel_rfl) (by kernel_rfl) (by kernel_rfl) (fun _ _ _ h => h) (by rfl) (by assumption) (fun W hW => exec_load1 FL26 rfl rfl hW.out.s5) ?_; (try simp only [Act.put, List.setIfInBounds_toArray, List.set_cons_zero, List.set_cons_succ]))
    (refine takeW (i := 29) (v := ?_) rfl (by kernel_rfl) (by kernel_rfl) (by kernel_rfl) (fun _ _ _ h => h) (by rfl) (by assumption) ?_ ?_; rotate_left; (intro W hW; (try dsimp only at hW); go_simp; try with_reducible rfl); (try simp only [Act.put, List.setIfInBounds_toArray, List.set_cons_zero, List.set_cons_succ]))
    (refine takeW (i := 30) rfl (by kernel_rfl) (by kernel_rfl) (by kernel_rfl) (fun _ _ _ h => h) (by rfl) (by assumption) (fun W hW => exec_load1 FL26 rfl rfl hW.out.s5) ?_; (try simp only [Act.put, List.setIfInBounds_toArray, List.set_cons_zero, List.set_cons_succ]))
    (refine takeW (i := 31) (v := ?_) rfl (by kernel_rfl) (by kernel_rfl) (by kernel_rfl) (fun _ _ _ h => h) (by rfl) (by assumption) ?_ ?_; rotate_left; (intro W hW; (try dsimp only at hW); go_simp; try with_reducible rfl); (try simp only [Act.put, List.setIfInBounds_toArray, List.set_cons_zero, List.set_cons_succ]))
    (refine takeW (i := 32) rfl (by kernel_rfl) (by kernel_rfl) (by kernel_rfl) (fun _ _ _ h => h) (by rfl) (by assumption) (fun W hW => HMK.out _ _ _ _ _ _ rfl rfl rfl) ?_; (try simp only [Act.put, List.setIfInBounds_toArray, List.set_cons_zero, List.set_cons_succ]))
    (refine takeW (i := 33) (v := ?_) rfl (by kernel_rfl) (by kernel_rfl) (by kernel_rfl) (fun _ _ _ h => h) (by rfl) (by assumption) ?_ ?_; rotate_left; (intro W hW; (try dsimp only at hW); go_simp; try with_reducible rfl); (try simp only [Act.put, List.setIfInBounds_toArray, List.set_cons_zero, List.set_cons_succ]))
    (refine takeW (i := 34) rfl (by kernel_rfl) (by kernel_rfl) (by kernel_rfl) (fun _ _ _ h => h) (by rfl) (by assumption) (fun W hW => exec_load1 FL3 rfl rfl hW.out.c4) ?_; (try simp only [Act.put, List.setIfInBounds_toArray, List.set_cons_zero, List.set_cons_succ]))
    (refine takeW (i := 35) rfl (by kernel_rfl) (by kernel_rfl) (by kernel_rfl) (fun _ _ _ h => h) (by rfl) (by assumption) (fun W hW => exec_negI rfl rfl HND.out) ?_; (try simp only [Act.put, List.setIfInBounds_toArray, List.set_cons_zero, List.set_cons_succ]))
    (refine takeW (i := 36) (v := ?_) rfl (by kernel_rfl) (by kernel_rfl) (by kernel_rfl) (fun _ _ _ h => h) (by rfl) (by assumption) ?_ ?_; rotate_left; (intro W hW; (try dsimp only at hW); go_simp; try with_reducible rfl); (try simp only [Act.put, List.setIfInBounds_toArray, List.set_cons_zero, List.set_cons_succ]))
    (refine takeW (i := 37) rfl (by kernel_rfl) (by kernel_rfl) (by kernel_rfl) (fun _ _ _ h => h) (by rfl) (by assumption) (fun W hW => exec_load1 FL3 rfl rfl hW.out.c4) ?_; (try simp only [Act.put, List.setIfInBounds_toArray, List.set_cons_zero, List.set_cons_succ]))
    (refine takeW (i := 39) rfl (by kernel_rfl) (by kernel_rfl) (by kernel_rfl) (fun _ _ _ h => h) (by rfl) (by assumption) (fun W hW => exec_loadW W25 rfl rfl (cs := encMe m) rfl hW.out.mm.list) ?_; (try simp only [Act.put, List.setIfInBounds_toArray, List.set_cons_zero, List.set_cons_succ]))
    (refine takeW (i := 40) (v := ?_) rfl (by kernel_rfl) (by kernel_rfl) (by kernel_rfl) (fun _ _ _ h => h) (by rfl) (by assumption) ?_ ?_; rotate_left; (intro W hW; (try dsimp only at hW); go_simp; try with_reducible rfl); (try simp only [Act.put, List.setIfInBounds_toArray, List.set_cons_zero, List.set_cons_succ]))
    (refine takeW (i := 41) rfl (by kernel_rfl) (by kernel_rfl) (by kernel_rfl) (fun _ _ _ h => h) (by rfl) (by assumption) (fun W hW => exec_load1 FL28 rfl rfl hW.out.s7) ?_; (try simp only [Act.put, List.setIfInBounds_toArray, List.set_cons_zero, List.set_cons_succ]))
    obtain ⟨W4, hW4⟩ : ∃ W4, W1.drew.alloc (.cells #[.bool true] 4) = W4 := ⟨_, rfl⟩
    obtain ⟨g4, hg4⟩ : ∃ g4, W1.drew.heap.size = g4 := ⟨_, rfl⟩
    have HA4 : Hid (Blk W4 g4 4 #[.bool true]) := Lib.hid (by rw [← hW4]; exact Blk.new' hg4)
    have HB4 : Hid (Below W1.drew.heap.size W1.drew W4) := Lib.hid (by rw [← hW4]; exact below1 _ _)
    have HX4 := Lib.hid (run_oneB W1.drew true)
    rw [hW4, hg4] at HX4
    clear hW4 hg4
    obtain ⟨W44, hW44⟩ : ∃ W44, W1.drew.alloc (.cells zScr.toArray 30) = W44 := ⟨_, rfl⟩
    obtain ⟨g9, hg9⟩ : ∃ g9, W1.drew.heap.size = g9 := ⟨_, rfl⟩
    have HA9 : Hid (Blk W44 g9 30 zScr.toArray) := Lib.hid (by rw [← hW44]; exact Blk.new' hg9)
    have HB44 : Hid (Below W1.drew.heap.size W1.drew W44) := Lib.hid (by rw [← hW44]; exact below1 _ _)
    have HX44 := Lib.hid (fun (o : Oper) (ac : Act) (h : o.op = .alloc 30) => exec_alloc30 (w := W1.drew) (o := o) (a := ac) h)
    rw [hW44, hg9] at HX44
    have HG9 : Hid (w.heap.size + 3 ≤ g9) := Lib.hid (by rw [← hg9]; exact HPS.out.lt)
    clear hW44 hg9
    refine takeV2 (i := 4) (j := 44) rfl rfl (by kernel_rfl) (by rfl) (by rfl) (exec_run1 HX4.out rfl rfl) ((HPS.out.keep HB4.out).cb) (HX44.out _ _ rfl) ((HPS.out.keep HB44.out).cb) ?_ ?_
    · (try simp only [Act.put, List.setIfInBounds_toArray, List.set_cons_zero, List.set_cons_succ])
      have hHeld : Hid (CB2 m x n w W4) := (HPS.out.keep HB4.out).cb
      have HPS := Lib.hid (HPS.out.keep HB4.out)
      have HW : w.heap.size ≤ W4.heap.size := HPS.out.bel.size
      (try have HA9 := Lib.hid (HA9.out.keep HB4.out))
      (try have HV31 := Lib.hid (ow_below HV31.out HB4.out))
      (try have HV37 := Lib.hid (ow_below HV37.out HB4.out))
      (try have HV42 := Lib.hid (ow_below HV42.out HB4.out))
      (try have HV50 := Lib.hid (ow_below HV50.out HB4.out))
      (try have HV62 := Lib.hid (ow_below HV62.out HB4.out))
      (try have HV66 := Lib.hid (ow_below HV66.out HB4.out))
      clear HB4 HX4
      refine takeC2 (i := 7) (j := 44) rfl rfl (by kernel_rfl) (by rfl) (by rfl) (fun K hK => ?_) (fun K hK => ?_)
      · go_simp
        refine (repB_any (.bool true) g4 1 n W4 (HA4.out.cell 0) rfl (by omega)).mono ?_
        rintro e W7 ⟨⟨v31, rfl, ho⟩, hb⟩
        have HPS := Lib.hid (HPS.out.keep hb)
        (try have HA4 := Lib.hid (HA4.out.keep hb))
        (try have HA9 := Lib.hid (HA9.out.keep hb))
        (try have HV37 := Lib.hid (ow_below HV37.out hb))
        (try have HV42 := Lib.hid (ow_below HV42.out hb))
        (try have HV50 := Lib.hid (ow_below HV50.out hb))
        (try have HV62 := Lib.hid (ow_below HV62.out hb))
        (try have HV66 := Lib.hid (ow_below HV66.out hb))
        have HV31 := Lib.hid (ow_mono ho HW)
        obtain ⟨a31, c31, he31, -⟩ := owns_shape ho
        subst he31
        clear ho
        have HW : w.heap.size ≤ W7.heap.size := HPS.out.bel.size
        clear hb hHeld
        refine hK.out _ _ HPS.out.cb (fun hHeld => ?_)
        clear hK K
        try simp only [Act.put, List.setIfInBounds_toArray, List.set_cons_zero, List.set_cons_succ]
        refine takeC2 (i := 13) (j := 44) rfl rfl (by kernel_rfl) (by rfl) (by rfl) (fun K hK => ?_) (fun K hK => ?_)
        · go_simp
          refine (HRO.out W7 HPS).mono ?_
          rintro e W13 ⟨⟨v37, rfl, ho⟩, hb⟩
          have HPS := Lib.hid (HPS.out.keep hb)
          (try have HA4 := Lib.hid (HA4.out.keep hb))
          (try have HA9 := Lib.hid (HA9.out.keep hb))
          (try have HV31 := Lib.hid (ow_below HV31.out hb))
          (try have HV42 := Lib.hid (ow_below HV42.out hb))
          (try have HV50 := Lib.hid (ow_below HV50.out hb))
          (try have HV62 := Lib.hid (ow_below HV62.out hb))
          (try have HV66 := Lib.hid (ow_below HV66.out hb))
          have HV37 := Lib.hid (ow_mono ho HW)
          obtain ⟨a37, c37, he37, -⟩ := owns_shape ho
          subst he37
          clear ho
          have HW : w.heap.size ≤ W13.heap.size := HPS.out.bel.size
          clear hb hHeld
          refine hK.out _ _ HPS.out.cb (fun hHeld => ?_)
          clear hK K
          try simp only [Act.put, List.setIfInBounds_toArray, List.set_cons_zero, List.set_cons_succ]
          refine takeC2 (i := 18) (j := 44) rfl rfl (by kernel_rfl) (by rfl) (by rfl) (fun K hK => ?_) (fun K hK => ?_)
          · go_simp
            refine (HRG.out W13 HPS).mono ?_
            rintro e W18 ⟨⟨v42, rfl, ho⟩, hb⟩
            have HPS := Lib.hid (HPS.out.keep hb)
            (try have HA4 := Lib.hid (HA4.out.keep hb))
            (try have HA9 := Lib.hid (HA9.out.keep hb))
            (try have HV31 := Lib.hid (ow_below HV31.out hb))
            (try have HV37 := Lib.hid (ow_below HV37.out hb))
            (try have HV50 := Lib.hid (ow_below HV50.out hb))
            (try have HV62 := Lib.hid (ow_below HV62.out hb))
            (try have HV66 := Lib.hid (ow_below HV66.out hb))
            have HV42 := Lib.hid (ow_mono ho HW)
            obtain ⟨a42, c42, he42, -⟩ := owns_shape ho
            subst he42
            clear ho
            have HW : w.heap.size ≤ W18.heap.size := HPS.out.bel.size
            clear hb hHeld
            refine hK.out _ _ HPS.out.cb (fun hHeld => ?_)
            clear hK K
            try simp only [Act.put, List.setIfInBounds_toArray, List.set_cons_zero, List.set_cons_succ]
            refine takeC2 (i := 26) (j := 44) rfl rfl (by kernel_rfl) (by rfl) (by rfl) (fun K hK => ?_) (fun K hK => ?_)
            · go_simp
              refine (HRQ.out W18 HPS).mono ?_
              rintro e W26 ⟨⟨v50, rfl, ho⟩, hb⟩
              have HPS := Lib.hid (HPS.out.keep hb)
              (try have HA4 := Lib.hid (HA4.out.keep hb))
              (try have HA9 := Lib.hid (HA9.out.keep hb))
              (try have HV31 := Lib.hid (ow_below HV31.out hb))
              (try have HV37 := Lib.hid (ow_below HV37.out hb))
              (try have HV42 := Lib.hid (ow_below HV42.out hb))
              (try have HV62 := Lib.hid (ow_below HV62.out hb))
              (try have HV66 := Lib.hid (ow_below HV66.out hb))
              have HV50 := Lib.hid (ow_mono ho HW)
              obtain ⟨a50, c50, he50, -⟩ := owns_shape ho
              subst he50
              clear ho
              have HW : w.heap.size ≤ W26.heap.size := HPS.out.bel.size
              clear hb hHeld
              refine hK.out _ _ HPS.out.cb (fun hHeld => ?_)
              clear hK K
              try simp only [Act.put, List.setIfInBounds_toArray, List.set_cons_zero, List.set_cons_succ]
              refine takeC2 (i := 38) (j := 44) rfl rfl (by kernel_rfl) (by rfl) (by rfl) (fun K hK => ?_) (fun K hK => ?_)
              · go_simp
                refine (HRD.out W26 HPS).mono ?_
                rintro e W38 ⟨⟨v62, rfl, ho⟩, hb⟩
                have HPS := Lib.hid (HPS.out.keep hb)
                (try have HA4 := Lib.hid (HA4.out.keep hb))
                (try have HA9 := Lib.hid (HA9.out.keep hb))
                (try have HV31 := Lib.hid (ow_below HV31.out hb))
                (try have HV37 := Lib.hid (ow_below HV37.out hb))
                (try have HV42 := Lib.hid (ow_below HV42.out hb))
                (try have HV50 := Lib.hid (ow_below HV50.out hb))
                (try have HV66 := Lib.hid (ow_below HV66.out hb))
                have HV62 := Lib.hid (ow_mono ho HW)
                obtain ⟨a62, c62, he62, -⟩ := owns_shape ho
                subst he62
                clear ho
                have HW : w.heap.size ≤ W38.heap.size := HPS.out.bel.size
                clear hb hHeld
                refine hK.out _ _ HPS.out.cb (fun hHeld => ?_)
                clear hK K
                try simp only [Act.put, List.setIfInBounds_toArray, List.set_cons_zero, List.set_cons_succ]
                refine takeC2 (i := 42) (j := 44) rfl rfl (by kernel_rfl) (by rfl) (by rfl) (fun K hK => ?_) (fun K hK => ?_)
                · go_simp
                  refine (HRF.out W38 HPS).mono ?_
                  rintro e W42 ⟨⟨v66, rfl, ho⟩, hb⟩
                  have HPS := Lib.hid (HPS.out.keep hb)
                  (try have HA4 := Lib.hid (HA4.out.keep hb))
                  (try have HA9 := Lib.hid (HA9.out.keep hb))
                  (try have HV31 := Lib.hid (ow_below HV31.out hb))
                  (try have HV37 := Lib.hid (ow_below HV37.out hb))
                  (try have HV42 := Lib.hid (ow_below HV42.out hb))
                  (try have HV50 := Lib.hid (ow_below HV50.out hb))
                  (try have HV62 := Lib.hid (ow_below HV62.out hb))
                  have HV66 := Lib.hid (ow_mono ho HW)
                  obtain ⟨a66, c66, he66, -⟩ := owns_shape ho
                  subst he66
                  clear ho
                  have HW : w.heap.size ≤ W42.heap.size := HPS.out.bel.size
                  clear hb hHeld
                  refine hK.out _ _ HPS.out.cb (fun hHeld => ?_)
                  clear hK K
                  try simp only [Act.put, List.setIfInBounds_toArray, List.set_cons_zero, List.set_cons_succ]
                  (refine takeW (i := 43) rfl (by kernel_rfl) (by kernel_rfl) (by kernel_rfl) (fun _ _ _ h => h) (by rfl) (by assumption) (fun W hW => exec_build30 rfl rfl rfl rfl rfl rfl rfl rfl) ?_; (try simp only [Act.put, List.setIfInBounds_toArray, List.set_cons_zero, List.set_cons_succ]))
                  obtain ⟨W44, hW44⟩ : ∃ W44, W42.alloc (.cells zScr.toArray 30) = W44 := ⟨_, rfl⟩
                  obtain ⟨g9, hg9⟩ : ∃ g9, W42.heap.size = g9 := ⟨_, rfl⟩
                  have HA9 : Hid (Blk W44 g9 30 zScr.toArray) := Lib.hid (by rw [← hW44]; exact Blk.new' hg9)
                  have HB44 : Hid (Below W42.heap.size W42 W44) := Lib.hid (by rw [← hW44]; exact below1 _ _)
                  have HX44 := Lib.hid (fun (o : Oper) (ac : Act) (h : o.op = .alloc 30) => exec_alloc30 (w := W42) (o := o) (a := ac) h)
                  rw [hW44, hg9] at HX44
                  have HG9 : Hid (w.heap.size + 3 ≤ g9) := Lib.hid (by rw [← hg9]; exact HPS.out.lt)
                  clear hW44 hg9
                  refine takeV (i := 44) rfl (by kernel_rfl) (by rfl) (HX44.out _ _ rfl) ((HPS.out.keep HB44.out).cb) ?_
                  (try simp only [Act.put, List.setIfInBounds_toArray, List.set_cons_zero, List.set_cons_succ])
                  have hHeld : Hid (CB2 m x n w W44) := (HPS.out.keep HB44.out).cb
                  have HPS := Lib.hid (HPS.out.keep HB44.out)
                  have HW : w.heap.size ≤ W44.heap.size := HPS.out.bel.size
                  (try have HA4 := Lib.hid (HA4.out.keep HB44.out))
                  (try have HV31 := Lib.hid (ow_below HV31.out HB44.out))
                  (try have HV37 := Lib.hid (ow_below HV37.out HB44.out))
                  (try have HV42 := Lib.hid (ow_below HV42.out HB44.out))
                  (try have HV50 := Lib.hid (ow_below HV50.out HB44.out))
                  (try have HV62 := Lib.hid (ow_below HV62.out HB44.out))
                  (try have HV66 := Lib.hid (ow_below HV66.out HB44.out))
                  clear HB44 HX44
                  obtain ⟨W45, hW45⟩ : ∃ W45, W44.setRow g9 (putAt zScr 0 [.int .i64 (imin (imax x.rounds 1) 16), .slice a31 n c31, .slice a37 n c37, .slice a42 n c42, .slice a50 n c50, .slice a62 k0 c62, .slice none 0 0, .slice a66 q c66]).toArray = W45 := ⟨_, rfl⟩
                  have HT9 : Hid (Blk W45 g9 30 (cells8 (imin (imax x.rounds 1) 16) (.slice a31 n c31) (.slice a37 n c37) (.slice a42 n c42) (.slice a50 n c50) (.slice a62 k0 c62) (.slice none 0 0) (.slice a66 q c66)).toArray) := Lib.hid (by rw [← hW45]; exact HA9.out.part)
                  have HG45 : Hid (W44.grownBy W45 (some g9)) := Lib.hid (by rw [← hW45]; exact grownRow _ _ _)
                  have HX45 := Lib.hid (fun (o : Oper) (ac : Act) (x0 y0 : Operand) (ho : o.op = .store 30 x0 y0) (hx : ac.eval x0 = .pointer (some ⟨g9, 0, none⟩)) (hy : ac.eval y0 = .agg ([.int .i64 (imin (imax x.rounds 1) 16), .slice a31 n c31, .slice a37 n c37, .slice a42 n c42, .slice a50 n c50, .slice a62 k0 c62, .slice none 0 0, .slice a66 q c66] : List Value).toArray) => exec_storePart (P := Try.prog) W30 ho hx hy rfl (by simp [Value.oneCell']) HA9.out (by decide))
                  rw [hW45] at HX45
                  clear hW45
                  refine takeVs (i := 45) rfl (by kernel_rfl) (by rfl) (HX45.out _ _ _ _ rfl rfl rfl) ((HPS.out.grown HG45.out (fun k e => by cases e; exact HG9.out)).cb) ?_
                  have hHeld : Hid (CB2 m x n w W45) := (HPS.out.grown HG45.out (fun k e => by cases e; exact HG9.out)).cb
                  have HPS := Lib.hid (HPS.out.grown HG45.out (fun k e => by cases e; exact HG9.out))
                  have HRW : Hid (RWs w.heap.size (rows6 n k0 q a31 c31 a37 c37 a42 c42 a50 c50 a62 c62 a66 c66 (List.replicate n true) lo lg lq ld lf) W45) := Lib.hid (rows_of HV31.out HV37.out HV42.out HV50.out HV62.out HV66.out HG45.out HA9.out)
                  clear HV31 HV37 HV42 HV50 HV62 HV66 HA4 HA9 HG45 HX45
                  refine wpAnyH_done (by kernel_rfl) ?_ _
                  clear hHeld
                  go_wp2_with fail
                  go_meet
                  exact ⟨_, rfl, a31, c31, a37, c37, a42, c42, a50, c50, a62, c62, a66, c66, HPS, HRW, HT9, HG9⟩
                · obtain ⟨W44, hW44⟩ : ∃ W44, W38.alloc (.cells zScr.toArray 30) = W44 := ⟨_, rfl⟩
                  obtain ⟨g9, hg9⟩ : ∃ g9, W38.heap.size = g9 := ⟨_, rfl⟩
                  have HA9 : Hid (Blk W44 g9 30 zScr.toArray) := Lib.hid (by rw [← hW44]; exact Blk.new' hg9)
                  have HB44 : Hid (Below W38.heap.size W38 W44) := Lib.hid (by rw [← hW44]; exact below1 _ _)
                  have HX44 := Lib.hid (fun (o : Oper) (ac : Act) (h : o.op = .alloc 30) => exec_alloc30 (w := W38) (o := o) (a := ac) h)
                  rw [hW44, hg9] at HX44
                  have HG9 : Hid (w.heap.size + 3 ≤ g9) := Lib.hid (by rw [← hg9]; exact HPS.out.lt)
                  clear hW44 hg9
                  unfold Oper.wp
                  rw [HX44.out _ _ rfl]
                  refine hK.out _ _ ((HPS.out.keep HB44.out).cb) (fun hHeld => ?_)
                  clear hK K
                  (try simp only [Act.put, List.setIfInBounds_toArray, List.set_cons_zero, List.set_cons_succ])
                  have HPS := Lib.hid (HPS.out.keep HB44.out)
                  have HW : w.heap.size ≤ W44.heap.size := HPS.out.bel.size
                  (try have HA4 := Lib.hid (HA4.out.keep HB44.out))
                  (try have HV31 := Lib.hid (ow_below HV31.out HB44.out))
                  (try have HV37 := Lib.hid (ow_below HV37.out HB44.out))
                  (try have HV42 := Lib.hid (ow_below HV42.out HB44.out))
                  (try have HV50 := Lib.hid (ow_below HV50.out HB44.out))
                  (try have HV62 := Lib.hid (ow_below HV62.out HB44.out))
                  (try have HV66 := Lib.hid (ow_below HV66.out HB44.out))
                  clear HB44 HX44
                  refine takeC (i := 42) rfl (by kernel_rfl) (by rfl) (fun K hK => ?_)
                  go_simp
                  refine (HRF.out W44 HPS).mono ?_
                  rintro e W42 ⟨⟨v66, rfl, ho⟩, hb⟩
                  have HPS := Lib.hid (HPS.out.keep hb)
                  (try have HA4 := Lib.hid (HA4.out.keep hb))
                  (try have HA9 := Lib.hid (HA9.out.keep hb))
                  (try have HV31 := Lib.hid (ow_below HV31.out hb))
                  (try have HV37 := Lib.hid (ow_below HV37.out hb))
                  (try have HV42 := Lib.hid (ow_below HV42.out hb))
                  (try have HV50 := Lib.hid (ow_below HV50.out hb))
                  (try have HV62 := Lib.hid (ow_below HV62.out hb))
                  have HV66 := Lib.hid (ow_mono ho HW)
                  obtain ⟨a66, c66, he66, -⟩ := owns_shape ho
                  subst he66
                  clear ho
                  have HW : w.heap.size ≤ W42.heap.size := HPS.out.bel.size
                  clear hb hHeld
                  refine hK.out _ _ HPS.out.cb (fun hHeld => ?_)
                  clear hK K
                  try simp only [Act.put, List.setIfInBounds_toArray, List.set_cons_zero, List.set_cons_succ]
                  (refine takeW (i := 43) rfl (by kernel_rfl) (by kernel_rfl) (by kernel_rfl) (fun _ _ _ h => h) (by rfl) (by assumption) (fun W hW => exec_build30 rfl rfl rfl rfl rfl rfl rfl rfl) ?_; (try simp only [Act.put, List.setIfInBounds_toArray, List.set_cons_zero, List.set_cons_succ]))
                  obtain ⟨W45, hW45⟩ : ∃ W45, W42.setRow g9 (putAt zScr 0 [.int .i64 (imin (imax x.rounds 1) 16), .slice a31 n c31, .slice a37 n c37, .slice a42 n c42, .slice a50 n c50, .slice a62 k0 c62, .slice none 0 0, .slice a66 q c66]).toArray = W45 := ⟨_, rfl⟩
                  have HT9 : Hid (Blk W45 g9 30 (cells8 (imin (imax x.rounds 1) 16) (.slice a31 n c31) (.slice a37 n c37) (.slice a42 n c42) (.slice a50 n c50) (.slice a62 k0 c62) (.slice none 0 0) (.slice a66 q c66)).toArray) := Lib.hid (by rw [← hW45]; exact HA9.out.part)
                  have HG45 : Hid (W42.grownBy W45 (some g9)) := Lib.hid (by rw [← hW45]; exact grownRow _ _ _)
                  have HX45 := Lib.hid (fun (o : Oper) (ac : Act) (x0 y0 : Operand) (ho : o.op = .store 30 x0 y0) (hx : ac.eval x0 = .pointer (some ⟨g9, 0, none⟩)) (hy : ac.eval y0 = .agg ([.int .i64 (imin (imax x.rounds 1) 16), .slice a31 n c31, .slice a37 n c37, .slice a42 n c42, .slice a50 n c50, .slice a62 k0 c62, .slice none 0 0, .slice a66 q c66] : List Value).toArray) => exec_storePart (P := Try.prog) W30 ho hx hy rfl (by simp [Value.oneCell']) HA9.out (by decide))
                  rw [hW45] at HX45
                  clear hW45
                  refine takeVs (i := 45) rfl (by kernel_rfl) (by rfl) (HX45.out _ _ _ _ rfl rfl rfl) ((HPS.out.grown HG45.out (fun k e => by cases e; exact HG9.out)).cb) ?_
                  have hHeld : Hid (CB2 m x n w W45) := (HPS.out.grown HG45.out (fun k e => by cases e; exact HG9.out)).cb
                  have HPS := Lib.hid (HPS.out.grown HG45.out (fun k e => by cases e; exact HG9.out))
                  have HRW : Hid (RWs w.heap.size (rows6 n k0 q a31 c31 a37 c37 a42 c42 a50 c50 a62 c62 a66 c66 (List.replicate n true) lo lg lq ld lf) W45) := Lib.hid (rows_of HV31.out HV37.out HV42.out HV50.out HV62.out HV66.out HG45.out HA9.out)
                  clear HV31 HV37 HV42 HV50 HV62 HV66 HA4 HA9 HG45 HX45
                  refine wpAnyH_done (by kernel_rfl) ?_ _
                  clear hHeld
                  go_wp2_with fail
                  go_meet
                  exact ⟨_, rfl, a31, c31, a37, c37, a42, c42, a50, c50, a62, c62, a66, c66, HPS, HRW, HT9, HG9⟩
              · obtain ⟨W44, hW44⟩ : ∃ W44, W26.alloc (.cells zScr.toArray 30) = W44 := ⟨_, rfl⟩
                obtain ⟨g9, hg9⟩ : ∃ g9, W26.heap.size = g9 := ⟨_, rfl⟩
                have HA9 : Hid (Blk W44 g9 30 zScr.toArray) := Lib.hid (by rw [← hW44]; exact Blk.new' hg9)
                have HB44 : Hid (Below W26.heap.size W26 W44) := Lib.hid (by rw [← hW44]; exact below1 _ _)
                have HX44 := Lib.hid (fun (o : Oper) (ac : Act) (h : o.op = .alloc 30) => exec_alloc30 (w := W26) (o := o) (a := ac) h)
                rw [hW44, hg9] at HX44
                have HG9 : Hid (w.heap.size + 3 ≤ g9) := Lib.hid (by rw [← hg9]; exact HPS.out.lt)
                clear hW44 hg9
                unfold Oper.wp
                rw [HX44.out _ _ rfl]
                refine hK.out _ _ ((HPS.out.keep HB44.out).cb) (fun hHeld => ?_)
                clear hK K
                (try simp only [Act.put, List.setIfInBounds_toArray, List.set_cons_zero, List.set_cons_succ])
                have HPS := Lib.hid (HPS.out.keep HB44.out)
                have HW : w.heap.size ≤ W44.heap.size := HPS.out.bel.size
                (try have HA4 := Lib.hid (HA4.out.keep HB44.out))
                (try have HV31 := Lib.hid (ow_below HV31.out HB44.out))
                (try have HV37 := Lib.hid (ow_below HV37.out HB44.out))
                (try have HV42 := Lib.hid (ow_below HV42.out HB44.out))
                (try have HV50 := Lib.hid (ow_below HV50.out HB44.out))
                (try have HV62 := Lib.hid (ow_below HV62.out HB44.out))
                (try have HV66 := Lib.hid (ow_below HV66.out HB44.out))
                clear HB44 HX44
                refine takeC (i := 38) rfl (by kernel_rfl) (by rfl) (fun K hK => ?_)
                go_simp
                refine (HRD.out W44 HPS).mono ?_
                rintro e W38 ⟨⟨v62, rfl, ho⟩, hb⟩
                have HPS := Lib.hid (HPS.out.keep hb)
                (try have HA4 := Lib.hid (HA4.out.keep hb))
                (try have HA9 := Lib.hid (HA9.out.keep hb))
                (try have HV31 := Lib.hid (ow_below HV31.out hb))
                (try have HV37 := Lib.hid (ow_below HV37.out hb))
                (try have HV42 := Lib.hid (ow_below HV42.out hb))
                (try have HV50 := Lib.hid (ow_below HV50.out hb))
                (try have HV66 := Lib.hid (ow_below HV66.out hb))
                have HV62 := Lib.hid (ow_mono ho HW)
                obtain ⟨a62, c62, he62, -⟩ := owns_shape ho
                subst he62
                clear ho
                have HW : w.heap.size ≤ W38.heap.size := HPS.out.bel.size
                clear hb hHeld
                refine hK.out _ _ HPS.out.cb (fun hHeld => ?_)
                clear hK K
                try simp only [Act.put, List.setIfInBounds_toArray, List.set_cons_zero, List.set_cons_succ]
                refine takeC (i := 42) rfl (by kernel_rfl) (by rfl) (fun K hK => ?_)
                go_simp
                refine (HRF.out W38 HPS).mono ?_
                rintro e W42 ⟨⟨v66, rfl, ho⟩, hb⟩
                have HPS := Lib.hid (HPS.out.keep hb)
                (try have HA4 := Lib.hid (HA4.out.keep hb))
                (try have HA9 := Lib.hid (HA9.out.keep hb))
                (try have HV31 := Lib.hid (ow_below HV31.out hb))
                (try have HV37 := Lib.hid (ow_below HV37.out hb))
                (try have HV42 := Lib.hid (ow_below HV42.out hb))
                (try have HV50 := Lib.hid (ow_below HV50.out hb))
                (try have HV62 := Lib.hid (ow_below HV62.out hb))
                have HV66 := Lib.hid (ow_mono ho HW)
                obtain ⟨a66, c66, he66, -⟩ := owns_shape ho
                subst he66
                clear ho
                have HW : w.heap.size ≤ W42.heap.size := HPS.out.bel.size
                clear hb hHeld
                refine hK.out _ _ HPS.out.cb (fun hHeld => ?_)
                clear hK K
                try simp only [Act.put, List.setIfInBounds_toArray, List.set_cons_zero, List.set_cons_succ]
                (refine takeW (i := 43) rfl (by kernel_rfl) (by kernel_rfl) (by kernel_rfl) (fun _ _ _ h => h) (by rfl) (by assumption) (fun W hW => exec_build30 rfl rfl rfl rfl rfl rfl rfl rfl) ?_; (try simp only [Act.put, List.setIfInBounds_toArray, List.set_cons_zero, List.set_cons_succ]))
                obtain ⟨W45, hW45⟩ : ∃ W45, W42.setRow g9 (putAt zScr 0 [.int .i64 (imin (imax x.rounds 1) 16), .slice a31 n c31, .slice a37 n c37, .slice a42 n c42, .slice a50 n c50, .slice a62 k0 c62, .slice none 0 0, .slice a66 q c66]).toArray = W45 := ⟨_, rfl⟩
                have HT9 : Hid (Blk W45 g9 30 (cells8 (imin (imax x.rounds 1) 16) (.slice a31 n c31) (.slice a37 n c37) (.slice a42 n c42) (.slice a50 n c50) (.slice a62 k0 c62) (.slice none 0 0) (.slice a66 q c66)).toArray) := Lib.hid (by rw [← hW45]; exact HA9.out.part)
                have HG45 : Hid (W42.grownBy W45 (some g9)) := Lib.hid (by rw [← hW45]; exact grownRow _ _ _)
                have HX45 := Lib.hid (fun (o : Oper) (ac : Act) (x0 y0 : Operand) (ho : o.op = .store 30 x0 y0) (hx : ac.eval x0 = .pointer (some ⟨g9, 0, none⟩)) (hy : ac.eval y0 = .agg ([.int .i64 (imin (imax x.rounds 1) 16), .slice a31 n c31, .slice a37 n c37, .slice a42 n c42, .slice a50 n c50, .slice a62 k0 c62, .slice none 0 0, .slice a66 q c66] : List Value).toArray) => exec_storePart (P := Try.prog) W30 ho hx hy rfl (by simp [Value.oneCell']) HA9.out (by decide))
                rw [hW45] at HX45
                clear hW45
                refine takeVs (i := 45) rfl (by kernel_rfl) (by rfl) (HX45.out _ _ _ _ rfl rfl rfl) ((HPS.out.grown HG45.out (fun k e => by cases e; exact HG9.out)).cb) ?_
                have hHeld : Hid (CB2 m x n w W45) := (HPS.out.grown HG45.out (fun k e => by cases e; exact HG9.out)).cb
                have HPS := Lib.hid (HPS.out.grown HG45.out (fun k e => by cases e; exact HG9.out))
                have HRW : Hid (RWs w.heap.size (rows6 n k0 q a31 c31 a37 c37 a42 c42 a50 c50 a62 c62 a66 c66 (List.replicate n true) lo lg lq ld lf) W45) := Lib.hid (rows_of HV31.out HV37.out HV42.out HV50.out HV62.out HV66.out HG45.out HA9.out)
                clear HV31 HV37 HV42 HV50 HV62 HV66 HA4 HA9 HG45 HX45
                refine wpAnyH_done (by kernel_rfl) ?_ _
                clear hHeld
                go_wp2_with fail
                go_meet
                exact ⟨_, rfl, a31, c31, a37, c37, a42, c42, a50, c50, a62, c62, a66, c66, HPS, HRW, HT9, HG9⟩
            · obtain ⟨W44, hW44⟩ : ∃ W44, W18.alloc (.cells zScr.toArray 30) = W44 := ⟨_, rfl⟩
              obtain ⟨g9, hg9⟩ : ∃ g9, W18.heap.size = g9 := ⟨_, rfl⟩
              have HA9 : Hid (Blk W44 g9 30 zScr.toArray) := Lib.hid (by rw [← hW44]; exact Blk.new' hg9)
              have HB44 : Hid (Below W18.heap.size W18 W44) := Lib.hid (by rw [← hW44]; exact below1 _ _)
              have HX44 := Lib.hid (fun (o : Oper) (ac : Act) (h : o.op = .alloc 30) => exec_alloc30 (w := W18) (o := o) (a := ac) h)
              rw [hW44, hg9] at HX44
              have HG9 : Hid (w.heap.size + 3 ≤ g9) := Lib.hid (by rw [← hg9]; exact HPS.out.lt)
              clear hW44 hg9
              unfold Oper.wp
              rw [HX44.out _ _ rfl]
              refine hK.out _ _ ((HPS.out.keep HB44.out).cb) (fun hHeld => ?_)
              clear hK K
              (try simp only [Act.put, List.setIfInBounds_toArray, List.set_cons_zero, List.set_cons_succ])
              have HPS := Lib.hid (HPS.out.keep HB44.out)
              have HW : w.heap.size ≤ W44.heap.size := HPS.out.bel.size
              (try have HA4 := Lib.hid (HA4.out.keep HB44.out))
              (try have HV31 := Lib.hid (ow_below HV31.out HB44.out))
              (try have HV37 := Lib.hid (ow_below HV37.out HB44.out))
              (try have HV42 := Lib.hid (ow_below HV42.out HB44.out))
              (try have HV50 := Lib.hid (ow_below HV50.out HB44.out))
              (try have HV62 := Lib.hid (ow_below HV62.out HB44.out))
              (try have HV66 := Lib.hid (ow_below HV66.out HB44.out))
              clear HB44 HX44
              refine takeC (i := 26) rfl (by kernel_rfl) (by rfl) (fun K hK => ?_)
              go_simp
              refine (HRQ.out W44 HPS).mono ?_
              rintro e W26 ⟨⟨v50, rfl, ho⟩, hb⟩
              have HPS := Lib.hid (HPS.out.keep hb)
              (try have HA4 := Lib.hid (HA4.out.keep hb))
              (try have HA9 := Lib.hid (HA9.out.keep hb))
              (try have HV31 := Lib.hid (ow_below HV31.out hb))
              (try have HV37 := Lib.hid (ow_below HV37.out hb))
              (try have HV42 := Lib.hid (ow_below HV42.out hb))
              (try have HV62 := Lib.hid (ow_below HV62.out hb))
              (try have HV66 := Lib.hid (ow_below HV66.out hb))
              have HV50 := Lib.hid (ow_mono ho HW)
              obtain ⟨a50, c50, he50, -⟩ := owns_shape ho
              subst he50
              clear ho
              have HW : w.heap.size ≤ W26.heap.size := HPS.out.bel.size
              clear hb hHeld
              refine hK.out _ _ HPS.out.cb (fun hHeld => ?_)
              clear hK K
              try simp only [Act.put, List.setIfInBounds_toArray, List.set_cons_zero, List.set_cons_succ]
              refine takeC (i := 38) rfl (by kernel_rfl) (by rfl) (fun K hK => ?_)
              go_simp
              refine (HRD.out W26 HPS).mono ?_
              rintro e W38 ⟨⟨v62, rfl, ho⟩, hb⟩
              have HPS := Lib.hid (HPS.out.keep hb)
              (try have HA4 := Lib.hid (HA4.out.keep hb))
              (try have HA9 := Lib.hid (HA9.out.keep hb))
              (try have HV31 := Lib.hid (ow_below HV31.out hb))
              (try have HV37 := Lib.hid (ow_below HV37.out hb))
              (try have HV42 := Lib.hid (ow_below HV42.out hb))
              (try have HV50 := Lib.hid (ow_below HV50.out hb))
              (try have HV66 := Lib.hid (ow_below HV66.out hb))
              have HV62 := Lib.hid (ow_mono ho HW)
              obtain ⟨a62, c62, he62, -⟩ := owns_shape ho
              subst he62
              clear ho
              have HW : w.heap.size ≤ W38.heap.size := HPS.out.bel.size
              clear hb hHeld
              refine hK.out _ _ HPS.out.cb (fun hHeld => ?_)
              clear hK K
              try simp only [Act.put, List.setIfInBounds_toArray, List.set_cons_zero, List.set_cons_succ]
              refine takeC (i := 42) rfl (by kernel_rfl) (by rfl) (fun K hK => ?_)
              go_simp
              refine (HRF.out W38 HPS).mono ?_
              rintro e W42 ⟨⟨v66, rfl, ho⟩, hb⟩
              have HPS := Lib.hid (HPS.out.keep hb)
              (try have HA4 := Lib.hid (HA4.out.keep hb))
              (try have HA9 := Lib.hid (HA9.out.keep hb))
              (try have HV31 := Lib.hid (ow_below HV31.out hb))
              (try have HV37 := Lib.hid (ow_below HV37.out hb))
              (try have HV42 := Lib.hid (ow_below HV42.out hb))
              (try have HV50 := Lib.hid (ow_below HV50.out hb))
              (try have HV62 := Lib.hid (ow_below HV62.out hb))
              have HV66 := Lib.hid (ow_mono ho HW)
              obtain ⟨a66, c66, he66, -⟩ := owns_shape ho
              subst he66
              clear ho
              have HW : w.heap.size ≤ W42.heap.size := HPS.out.bel.size
              clear hb hHeld
              refine hK.out _ _ HPS.out.cb (fun hHeld => ?_)
              clear hK K
              try simp only [Act.put, List.setIfInBounds_toArray, List.set_cons_zero, List.set_cons_succ]
              (refine takeW (i := 43) rfl (by kernel_rfl) (by kernel_rfl) (by kernel_rfl) (fun _ _ _ h => h) (by rfl) (by assumption) (fun W hW => exec_build30 rfl rfl rfl rfl rfl rfl rfl rfl) ?_; (try simp only [Act.put, List.setIfInBounds_toArray, List.set_cons_zero, List.set_cons_succ]))
              obtain ⟨W45, hW45⟩ : ∃ W45, W42.setRow g9 (putAt zScr 0 [.int .i64 (imin (imax x.rounds 1) 16), .slice a31 n c31, .slice a37 n c37, .slice a42 n c42, .slice a50 n c50, .slice a62 k0 c62, .slice none 0 0, .slice a66 q c66]).toArray = W45 := ⟨_, rfl⟩
              have HT9 : Hid (Blk W45 g9 30 (cells8 (imin (imax x.rounds 1) 16) (.slice a31 n c31) (.slice a37 n c37) (.slice a42 n c42) (.slice a50 n c50) (.slice a62 k0 c62) (.slice none 0 0) (.slice a66 q c66)).toArray) := Lib.hid (by rw [← hW45]; exact HA9.out.part)
              have HG45 : Hid (W42.grownBy W45 (some g9)) := Lib.hid (by rw [← hW45]; exact grownRow _ _ _)
              have HX45 := Lib.hid (fun (o : Oper) (ac : Act) (x0 y0 : Operand) (ho : o.op = .store 30 x0 y0) (hx : ac.eval x0 = .pointer (some ⟨g9, 0, none⟩)) (hy : ac.eval y0 = .agg ([.int .i64 (imin (imax x.rounds 1) 16), .slice a31 n c31, .slice a37 n c37, .slice a42 n c42, .slice a50 n c50, .slice a62 k0 c62, .slice none 0 0, .slice a66 q c66] : List Value).toArray) => exec_storePart (P := Try.prog) W30 ho hx hy rfl (by simp [Value.oneCell']) HA9.out (by decide))
              rw [hW45] at HX45
              clear hW45
              refine takeVs (i := 45) rfl (by kernel_rfl) (by rfl) (HX45.out _ _ _ _ rfl rfl rfl) ((HPS.out.grown HG45.out (fun k e => by cases e; exact HG9.out)).cb) ?_
              have hHeld : Hid (CB2 m x n w W45) := (HPS.out.grown HG45.out (fun k e => by cases e; exact HG9.out)).cb
              have HPS := Lib.hid (HPS.out.grown HG45.out (fun k e => by cases e; exact HG9.out))
              have HRW : Hid (RWs w.heap.size (rows6 n k0 q a31 c31 a37 c37 a42 c42 a50 c50 a62 c62 a66 c66 (List.replicate n true) lo lg lq ld lf) W45) := Lib.hid (rows_of HV31.out HV37.out HV42.out HV50.out HV62.out HV66.out HG45.out HA9.out)
              clear HV31 HV37 HV42 HV50 HV62 HV66 HA4 HA9 HG45 HX45
              refine wpAnyH_done (by kernel_rfl) ?_ _
              clear hHeld
              go_wp2_with fail
              go_meet
              exact ⟨_, rfl, a31, c31, a37, c37, a42, c42, a50, c50, a62, c62, a66, c66, HPS, HRW, HT9, HG9⟩
          · obtain ⟨W44, hW44⟩ : ∃ W44, W13.alloc (.cells zScr.toArray 30) = W44 := ⟨_, rfl⟩
            obtain ⟨g9, hg9⟩ : ∃ g9, W13.heap.size = g9 := ⟨_, rfl⟩
            have HA9 : Hid (Blk W44 g9 30 zScr.toArray) := Lib.hid (by rw [← hW44]; exact Blk.new' hg9)
            have HB44 : Hid (Below W13.heap.size W13 W44) := Lib.hid (by rw [← hW44]; exact below1 _ _)
            have HX44 := Lib.hid (fun (o : Oper) (ac : Act) (h : o.op = .alloc 30) => exec_alloc30 (w := W13) (o := o) (a := ac) h)
            rw [hW44, hg9] at HX44
            have HG9 : Hid (w.heap.size + 3 ≤ g9) := Lib.hid (by rw [← hg9]; exact HPS.out.lt)
            clear hW44 hg9
            unfold Oper.wp
            rw [HX44.out _ _ rfl]
            refine hK.out _ _ ((HPS.out.keep HB44.out).cb) (fun hHeld => ?_)
            clear hK K
            (try simp only [Act.put, List.setIfInBounds_toArray, List.set_cons_zero, List.set_cons_succ])
            have HPS := Lib.hid (HPS.out.keep HB44.out)
            have HW : w.heap.size ≤ W44.heap.size := HPS.out.bel.size
            (try have HA4 := Lib.hid (HA4.out.keep HB44.out))
            (try have HV31 := Lib.hid (ow_below HV31.out HB44.out))
            (try have HV37 := Lib.hid (ow_below HV37.out HB44.out))
            (try have HV42 := Lib.hid (ow_below HV42.out HB44.out))
            (try have HV50 := Lib.hid (ow_below HV50.out HB44.out))
            (try have HV62 := Lib.hid (ow_below HV62.out HB44.out))
            (try have HV66 := Lib.hid (ow_below HV66.out HB44.out))
            clear HB44 HX44
            refine takeC (i := 18) rfl (by kernel_rfl) (by rfl) (fun K hK => ?_)
            go_simp
            refine (HRG.out W44 HPS).mono ?_
            rintro e W18 ⟨⟨v42, rfl, ho⟩, hb⟩
            have HPS := Lib.hid (HPS.out.keep hb)
            (try have HA4 := Lib.hid (HA4.out.keep hb))
            (try have HA9 := Lib.hid (HA9.out.keep hb))
            (try have HV31 := Lib.hid (ow_below HV31.out hb))
            (try have HV37 := Lib.hid (ow_below HV37.out hb))
            (try have HV50 := Lib.hid (ow_below HV50.out hb))
            (try have HV62 := Lib.hid (ow_below HV62.out hb))
            (try have HV66 := Lib.hid (ow_below HV66.out hb))
            have HV42 := Lib.hid (ow_mono ho HW)
            obtain ⟨a42, c42, he42, -⟩ := owns_shape ho
            subst he42
            clear ho
            have HW : w.heap.size ≤ W18.heap.size := HPS.out.bel.size
            clear hb hHeld
            refine hK.out _ _ HPS.out.cb (fun hHeld => ?_)
            clear hK K
            try simp only [Act.put, List.setIfInBounds_toArray, List.set_cons_zero, List.set_cons_succ]
            refine takeC (i := 26) rfl (by kernel_rfl) (by rfl) (fun K hK => ?_)
            go_simp
            refine (HRQ.out W18 HPS).mono ?_
            rintro e W26 ⟨⟨v50, rfl, ho⟩, hb⟩
            have HPS := Lib.hid (HPS.out.keep hb)
            (try have HA4 := Lib.hid (HA4.out.keep hb))
            (try have HA9 := Lib.hid (HA9.out.keep hb))
            (try have HV31 := Lib.hid (ow_below HV31.out hb))
            (try have HV37 := Lib.hid (ow_below HV37.out hb))
            (try have HV42 := Lib.hid (ow_below HV42.out hb))
            (try have HV62 := Lib.hid (ow_below HV62.out hb))
            (try have HV66 := Lib.hid (ow_below HV66.out hb))
            have HV50 := Lib.hid (ow_mono ho HW)
            obtain ⟨a50, c50, he50, -⟩ := owns_shape ho
            subst he50
            clear ho
            have HW : w.heap.size ≤ W26.heap.size := HPS.out.bel.size
            clear hb hHeld
            refine hK.out _ _ HPS.out.cb (fun hHeld => ?_)
            clear hK K
            try simp only [Act.put, List.setIfInBounds_toArray, List.set_cons_zero, List.set_cons_succ]
            refine takeC (i := 38) rfl (by kernel_rfl) (by rfl) (fun K hK => ?_)
            go_simp
            refine (HRD.out W26 HPS).mono ?_
            rintro e W38 ⟨⟨v62, rfl, ho⟩, hb⟩
            have HPS := Lib.hid (HPS.out.keep hb)
            (try have HA4 := Lib.hid (HA4.out.keep hb))
            (try have HA9 := Lib.hid (HA9.out.keep hb))
            (try have HV31 := Lib.hid (ow_below HV31.out hb))
            (try have HV37 := Lib.hid (ow_below HV37.out hb))
            (try have HV42 := Lib.hid (ow_below HV42.out hb))
            (try have HV50 := Lib.hid (ow_below HV50.out hb))
            (try have HV66 := Lib.hid (ow_below HV66.out hb))
            have HV62 := Lib.hid (ow_mono ho HW)
            obtain ⟨a62, c62, he62, -⟩ := owns_shape ho
            subst he62
            clear ho
            have HW : w.heap.size ≤ W38.heap.size := HPS.out.bel.size
            clear hb hHeld
            refine hK.out _ _ HPS.out.cb (fun hHeld => ?_)
            clear hK K
            try simp only [Act.put, List.setIfInBounds_toArray, List.set_cons_zero, List.set_cons_succ]
            refine takeC (i := 42) rfl (by kernel_rfl) (by rfl) (fun K hK => ?_)
            go_simp
            refine (HRF.out W38 HPS).mono ?_
            rintro e W42 ⟨⟨v66, rfl, ho⟩, hb⟩
            have HPS := Lib.hid (HPS.out.keep hb)
            (try have HA4 := Lib.hid (HA4.out.keep hb))
            (try have HA9 := Lib.hid (HA9.out.keep hb))
            (try have HV31 := Lib.hid (ow_below HV31.out hb))
            (try have HV37 := Lib.hid (ow_below HV37.out hb))
            (try have HV42 := Lib.hid (ow_below HV42.out hb))
            (try have HV50 := Lib.hid (ow_below HV50.out hb))
            (try have HV62 := Lib.hid (ow_below HV62.out hb))
            have HV66 := Lib.hid (ow_mono ho HW)
            obtain ⟨a66, c66, he66, -⟩ := owns_shape ho
            subst he66
            clear ho
            have HW : w.heap.size ≤ W42.heap.size := HPS.out.bel.size
            clear hb hHeld
            refine hK.out _ _ HPS.out.cb (fun hHeld => ?_)
            clear hK K
            try simp only [Act.put, List.setIfInBounds_toArray, List.set_cons_zero, List.set_cons_succ]
            (refine takeW (i := 43) rfl (by kernel_rfl) (by kernel_rfl) (by kernel_rfl) (fun _ _ _ h => h) (by rfl) (by assumption) (fun W hW => exec_build30 rfl rfl rfl rfl rfl rfl rfl rfl) ?_; (try simp only [Act.put, List.setIfInBounds_toArray, List.set_cons_zero, List.set_cons_succ]))
            obtain ⟨W45, hW45⟩ : ∃ W45, W42.setRow g9 (putAt zScr 0 [.int .i64 (imin (imax x.rounds 1) 16), .slice a31 n c31, .slice a37 n c37, .slice a42 n c42, .slice a50 n c50, .slice a62 k0 c62, .slice none 0 0, .slice a66 q c66]).toArray = W45 := ⟨_, rfl⟩
            have HT9 : Hid (Blk W45 g9 30 (cells8 (imin (imax x.rounds 1) 16) (.slice a31 n c31) (.slice a37 n c37) (.slice a42 n c42) (.slice a50 n c50) (.slice a62 k0 c62) (.slice none 0 0) (.slice a66 q c66)).toArray) := Lib.hid (by rw [← hW45]; exact HA9.out.part)
            have HG45 : Hid (W42.grownBy W45 (some g9)) := Lib.hid (by rw [← hW45]; exact grownRow _ _ _)
            have HX45 := Lib.hid (fun (o : Oper) (ac : Act) (x0 y0 : Operand) (ho : o.op = .store 30 x0 y0) (hx : ac.eval x0 = .pointer (some ⟨g9, 0, none⟩)) (hy : ac.eval y0 = .agg ([.int .i64 (imin (imax x.rounds 1) 16), .slice a31 n c31, .slice a37 n c37, .slice a42 n c42, .slice a50 n c50, .slice a62 k0 c62, .slice none 0 0, .slice a66 q c66] : List Value).toArray) => exec_storePart (P := Try.prog) W30 ho hx hy rfl (by simp [Value.oneCell']) HA9.out (by decide))
            rw [hW45] at HX45
            clear hW45
            refine takeVs (i := 45) rfl (by kernel_rfl) (by rfl) (HX45.out _ _ _ _ rfl rfl rfl) ((HPS.out.grown HG45.out (fun k e => by cases e; exact HG9.out)).cb) ?_
            have hHeld : Hid (CB2 m x n w W45) := (HPS.out.grown HG45.out (fun k e => by cases e; exact HG9.out)).cb
            have HPS := Lib.hid (HPS.out.grown HG45.out (fun k e => by cases e; exact HG9.out))
            have HRW : Hid (RWs w.heap.size (rows6 n k0 q a31 c31 a37 c37 a42 c42 a50 c50 a62 c62 a66 c66 (List.replicate n true) lo lg lq ld lf) W45) := Lib.hid (rows_of HV31.out HV37.out HV42.out HV50.out HV62.out HV66.out HG45.out HA9.out)
            clear HV31 HV37 HV42 HV50 HV62 HV66 HA4 HA9 HG45 HX45
            refine wpAnyH_done (by kernel_rfl) ?_ _
            clear hHeld
            go_wp2_with fail
            go_meet
            exact ⟨_, rfl, a31, c31, a37, c37, a42, c42, a50, c50, a62, c62, a66, c66, HPS, HRW, HT9, HG9⟩
        · obtain ⟨W44, hW44⟩ : ∃ W44, W7.alloc (.cells zScr.toArray 30) = W44 := ⟨_, rfl⟩
          obtain ⟨g9, hg9⟩ : ∃ g9, W7.heap.size = g9 := ⟨_, rfl⟩
          have HA9 : Hid (Blk W44 g9 30 zScr.toArray) := Lib.hid (by rw [← hW44]; exact Blk.new' hg9)
          have HB44 : Hid (Below W7.heap.size W7 W44) := Lib.hid (by rw [← hW44]; exact below1 _ _)
          have HX44 := Lib.hid (fun (o : Oper) (ac : Act) (h : o.op = .alloc 30) => exec_alloc30 (w := W7) (o := o) (a := ac) h)
          rw [hW44, hg9] at HX44
          have HG9 : Hid (w.heap.size + 3 ≤ g9) := Lib.hid (by rw [← hg9]; exact HPS.out.lt)
          clear hW44 hg9
          unfold Oper.wp
          rw [HX44.out _ _ rfl]
          refine hK.out _ _ ((HPS.out.keep HB44.out).cb) (fun hHeld => ?_)
          clear hK K
          (try simp only [Act.put, List.setIfInBounds_toArray, List.set_cons_zero, List.set_cons_succ])
          have HPS := Lib.hid (HPS.out.keep HB44.out)
          have HW : w.heap.size ≤ W44.heap.size := HPS.out.bel.size
          (try have HA4 := Lib.hid (HA4.out.keep HB44.out))
          (try have HV31 := Lib.hid (ow_below HV31.out HB44.out))
          (try have HV37 := Lib.hid (ow_below HV37.out HB44.out))
          (try have HV42 := Lib.hid (ow_below HV42.out HB44.out))
          (try have HV50 := Lib.hid (ow_below HV50.out HB44.out))
          (try have HV62 := Lib.hid (ow_below HV62.out HB44.out))
          (try have HV66 := Lib.hid (ow_below HV66.out HB44.out))
          clear HB44 HX44
          refine takeC (i := 13) rfl (by kernel_rfl) (by rfl) (fun K hK => ?_)
          go_simp
          refine (HRO.out W44 HPS).mono ?_
          rintro e W13 ⟨⟨v37, rfl, ho⟩, hb⟩
          have HPS := Lib.hid (HPS.out.keep hb)
          (try have HA4 := Lib.hid (HA4.out.keep hb))
          (try have HA9 := Lib.hid (HA9.out.keep hb))
          (try have HV31 := Lib.hid (ow_below HV31.out hb))
          (try have HV42 := Lib.hid (ow_below HV42.out hb))
          (try have HV50 := Lib.hid (ow_below HV50.out hb))
          (try have HV62 := Lib.hid (ow_below HV62.out hb))
          (try have HV66 := Lib.hid (ow_below HV66.out hb))
          have HV37 := Lib.hid (ow_mono ho HW)
          obtain ⟨a37, c37, he37, -⟩ := owns_shape ho
          subst he37
          clear ho
          have HW : w.heap.size ≤ W13.heap.size := HPS.out.bel.size
          clear hb hHeld
          refine hK.out _ _ HPS.out.cb (fun hHeld => ?_)
          clear hK K
          try simp only [Act.put, List.setIfInBounds_toArray, List.set_cons_zero, List.set_cons_succ]
          refine takeC (i := 18) rfl (by kernel_rfl) (by rfl) (fun K hK => ?_)
          go_simp
          refine (HRG.out W13 HPS).mono ?_
          rintro e W18 ⟨⟨v42, rfl, ho⟩, hb⟩
          have HPS := Lib.hid (HPS.out.keep hb)
          (try have HA4 := Lib.hid (HA4.out.keep hb))
          (try have HA9 := Lib.hid (HA9.out.keep hb))
          (try have HV31 := Lib.hid (ow_below HV31.out hb))
          (try have HV37 := Lib.hid (ow_below HV37.out hb))
          (try have HV50 := Lib.hid (ow_below HV50.out hb))
          (try have HV62 := Lib.hid (ow_below HV62.out hb))
          (try have HV66 := Lib.hid (ow_below HV66.out hb))
          have HV42 := Lib.hid (ow_mono ho HW)
          obtain ⟨a42, c42, he42, -⟩ := owns_shape ho
          subst he42
          clear ho
          have HW : w.heap.size ≤ W18.heap.size := HPS.out.bel.size
          clear hb hHeld
          refine hK.out _ _ HPS.out.cb (fun hHeld => ?_)
          clear hK K
          try simp only [Act.put, List.setIfInBounds_toArray, List.set_cons_zero, List.set_cons_succ]
          refine takeC (i := 26) rfl (by kernel_rfl) (by rfl) (fun K hK => ?_)
          go_simp
          refine (HRQ.out W18 HPS).mono ?_
          rintro e W26 ⟨⟨v50, rfl, ho⟩, hb⟩
          have HPS := Lib.hid (HPS.out.keep hb)
          (try have HA4 := Lib.hid (HA4.out.keep hb))
          (try have HA9 := Lib.hid (HA9.out.keep hb))
          (try have HV31 := Lib.hid (ow_below HV31.out hb))
          (try have HV37 := Lib.hid (ow_below HV37.out hb))
          (try have HV42 := Lib.hid (ow_below HV42.out hb))
          (try have HV62 := Lib.hid (ow_below HV62.out hb))
          (try have HV66 := Lib.hid (ow_below HV66.out hb))
          have HV50 := Lib.hid (ow_mono ho HW)
          obtain ⟨a50, c50, he50, -⟩ := owns_shape ho
          subst he50
          clear ho
          have HW : w.heap.size ≤ W26.heap.size := HPS.out.bel.size
          clear hb hHeld
          refine hK.out _ _ HPS.out.cb (fun hHeld => ?_)
          clear hK K
          try simp only [Act.put, List.setIfInBounds_toArray, List.set_cons_zero, List.set_cons_succ]
          refine takeC (i := 38) rfl (by kernel_rfl) (by rfl) (fun K hK => ?_)
          go_simp
          refine (HRD.out W26 HPS).mono ?_
          rintro e W38 ⟨⟨v62, rfl, ho⟩, hb⟩
          have HPS := Lib.hid (HPS.out.keep hb)
          (try have HA4 := Lib.hid (HA4.out.keep hb))
          (try have HA9 := Lib.hid (HA9.out.keep hb))
          (try have HV31 := Lib.hid (ow_below HV31.out hb))
          (try have HV37 := Lib.hid (ow_below HV37.out hb))
          (try have HV42 := Lib.hid (ow_below HV42.out hb))
          (try have HV50 := Lib.hid (ow_below HV50.out hb))
          (try have HV66 := Lib.hid (ow_below HV66.out hb))
          have HV62 := Lib.hid (ow_mono ho HW)
          obtain ⟨a62, c62, he62, -⟩ := owns_shape ho
          subst he62
          clear ho
          have HW : w.heap.size ≤ W38.heap.size := HPS.out.bel.size
          clear hb hHeld
          refine hK.out _ _ HPS.out.cb (fun hHeld => ?_)
          clear hK K
          try simp only [Act.put, List.setIfInBounds_toArray, List.set_cons_zero, List.set_cons_succ]
          refine takeC (i := 42) rfl (by kernel_rfl) (by rfl) (fun K hK => ?_)
          go_simp
          refine (HRF.out W38 HPS).mono ?_
          rintro e W42 ⟨⟨v66, rfl, ho⟩, hb⟩
          have HPS := Lib.hid (HPS.out.keep hb)
          (try have HA4 := Lib.hid (HA4.out.keep hb))
          (try have HA9 := Lib.hid (HA9.out.keep hb))
          (try have HV31 := Lib.hid (ow_below HV31.out hb))
          (try have HV37 := Lib.hid (ow_below HV37.out hb))
          (try have HV42 := Lib.hid (ow_below HV42.out hb))
          (try have HV50 := Lib.hid (ow_below HV50.out hb))
          (try have HV62 := Lib.hid (ow_below HV62.out hb))
          have HV66 := Lib.hid (ow_mono ho HW)
          obtain ⟨a66, c66, he66, -⟩ := owns_shape ho
          subst he66
          clear ho
          have HW : w.heap.size ≤ W42.heap.size := HPS.out.bel.size
          clear hb hHeld
          refine hK.out _ _ HPS.out.cb (fun hHeld => ?_)
          clear hK K
          try simp only [Act.put, List.setIfInBounds_toArray, List.set_cons_zero, List.set_cons_succ]
          (refine takeW (i := 43) rfl (by kernel_rfl) (by kernel_rfl) (by kernel_rfl) (fun _ _ _ h => h) (by rfl) (by assumption) (fun W hW => exec_build30 rfl rfl rfl rfl rfl rfl rfl rfl) ?_; (try simp only [Act.put, List.setIfInBounds_toArray, List.set_cons_zero, List.set_cons_succ]))
          obtain ⟨W45, hW45⟩ : ∃ W45, W42.setRow g9 (putAt zScr 0 [.int .i64 (imin (imax x.rounds 1) 16), .slice a31 n c31, .slice a37 n c37, .slice a42 n c42, .slice a50 n c50, .slice a62 k0 c62, .slice none 0 0, .slice a66 q c66]).toArray = W45 := ⟨_, rfl⟩
          have HT9 : Hid (Blk W45 g9 30 (cells8 (imin (imax x.rounds 1) 16) (.slice a31 n c31) (.slice a37 n c37) (.slice a42 n c42) (.slice a50 n c50) (.slice a62 k0 c62) (.slice none 0 0) (.slice a66 q c66)).toArray) := Lib.hid (by rw [← hW45]; exact HA9.out.part)
          have HG45 : Hid (W42.grownBy W45 (some g9)) := Lib.hid (by rw [← hW45]; exact grownRow _ _ _)
          have HX45 := Lib.hid (fun (o : Oper) (ac : Act) (x0 y0 : Operand) (ho : o.op = .store 30 x0 y0) (hx : ac.eval x0 = .pointer (some ⟨g9, 0, none⟩)) (hy : ac.eval y0 = .agg ([.int .i64 (imin (imax x.rounds 1) 16), .slice a31 n c31, .slice a37 n c37, .slice a42 n c42, .slice a50 n c50, .slice a62 k0 c62, .slice none 0 0, .slice a66 q c66] : List Value).toArray) => exec_storePart (P := Try.prog) W30 ho hx hy rfl (by simp [Value.oneCell']) HA9.out (by decide))
          rw [hW45] at HX45
          clear hW45
          refine takeVs (i := 45) rfl (by kernel_rfl) (by rfl) (HX45.out _ _ _ _ rfl rfl rfl) ((HPS.out.grown HG45.out (fun k e => by cases e; exact HG9.out)).cb) ?_
          have hHeld : Hid (CB2 m x n w W45) := (HPS.out.grown HG45.out (fun k e => by cases e; exact HG9.out)).cb
          have HPS := Lib.hid (HPS.out.grown HG45.out (fun k e => by cases e; exact HG9.out))
          have HRW : Hid (RWs w.heap.size (rows6 n k0 q a31 c31 a37 c37 a42 c42 a50 c50 a62 c62 a66 c66 (List.replicate n true) lo lg lq ld lf) W45) := Lib.hid (rows_of HV31.out HV37.out HV42.out HV50.out HV62.out HV66.out HG45.out HA9.out)
          clear HV31 HV37 HV42 HV50 HV62 HV66 HA4 HA9 HG45 HX45
          refine wpAnyH_done (by kernel_rfl) ?_ _
          clear hHeld
          go_wp2_with fail
          go_meet
          exact ⟨_, rfl, a31, c31, a37, c37, a42, c42, a50, c50, a62, c62, a66, c66, HPS, HRW, HT9, HG9⟩
      · obtain ⟨W44, hW44⟩ : ∃ W44, W4.alloc (.cells zScr.toArray 30) = W44 := ⟨_, rfl⟩
        obtain ⟨g9, hg9⟩ : ∃ g9, W4.heap.size = g9 := ⟨_, rfl⟩
        have HA9 : Hid (Blk W44 g9 30 zScr.toArray) := Lib.hid (by rw [← hW44]; exact Blk.new' hg9)
        have HB44 : Hid (Below W4.heap.size W4 W44) := Lib.hid (by rw [← hW44]; exact below1 _ _)
        have HX44 := Lib.hid (fun (o : Oper) (ac : Act) (h : o.op = .alloc 30) => exec_alloc30 (w := W4) (o := o) (a := ac) h)
        rw [hW44, hg9] at HX44
        have HG9 : Hid (w.heap.size + 3 ≤ g9) := Lib.hid (by rw [← hg9]; exact HPS.out.lt)
        clear hW44 hg9
        unfold Oper.wp
        rw [HX44.out _ _ rfl]
        refine hK.out _ _ ((HPS.out.keep HB44.out).cb) (fun hHeld => ?_)
        clear hK K
        (try simp only [Act.put, List.setIfInBounds_toArray, List.set_cons_zero, List.set_cons_succ])
        have HPS := Lib.hid (HPS.out.keep HB44.out)
        have HW : w.heap.size ≤ W44.heap.size := HPS.out.bel.size
        (try have HA4 := Lib.hid (HA4.out.keep HB44.out))
        (try have HV31 := Lib.hid (ow_below HV31.out HB44.out))
        (try have HV37 := Lib.hid (ow_below HV37.out HB44.out))
        (try have HV42 := Lib.hid (ow_below HV42.out HB44.out))
        (try have HV50 := Lib.hid (ow_below HV50.out HB44.out))
        (try have HV62 := Lib.hid (ow_below HV62.out HB44.out))
        (try have HV66 := Lib.hid (ow_below HV66.out HB44.out))
        clear HB44 HX44
        refine takeC (i := 7) rfl (by kernel_rfl) (by rfl) (fun K hK => ?_)
        go_simp
        refine (repB_any (.bool true) g4 1 n W44 (HA4.out.cell 0) rfl (by omega)).mono ?_
        rintro e W7 ⟨⟨v31, rfl, ho⟩, hb⟩
        have HPS := Lib.hid (HPS.out.keep hb)
        (try have HA4 := Lib.hid (HA4.out.keep hb))
        (try have HA9 := Lib.hid (HA9.out.keep hb))
        (try have HV37 := Lib.hid (ow_below HV37.out hb))
        (try have HV42 := Lib.hid (ow_below HV42.out hb))
        (try have HV50 := Lib.hid (ow_below HV50.out hb))
        (try have HV62 := Lib.hid (ow_below HV62.out hb))
        (try have HV66 := Lib.hid (ow_below HV66.out hb))
        have HV31 := Lib.hid (ow_mono ho HW)
        obtain ⟨a31, c31, he31, -⟩ := owns_shape ho
        subst he31
        clear ho
        have HW : w.heap.size ≤ W7.heap.size := HPS.out.bel.size
        clear hb hHeld
        refine hK.out _ _ HPS.out.cb (fun hHeld => ?_)
        clear hK K
        try simp only [Act.put, List.setIfInBounds_toArray, List.set_cons_zero, List.set_cons_succ]
        refine takeC (i := 13) rfl (by kernel_rfl) (by rfl) (fun K hK => ?_)
        go_simp
        refine (HRO.out W7 HPS).mono ?_
        rintro e W13 ⟨⟨v37, rfl, ho⟩, hb⟩
        have HPS := Lib.hid (HPS.out.keep hb)
        (try have HA4 := Lib.hid (HA4.out.keep hb))
        (try have HA9 := Lib.hid (HA9.out.keep hb))
        (try have HV31 := Lib.hid (ow_below HV31.out hb))
        (try have HV42 := Lib.hid (ow_below HV42.out hb))
        (try have HV50 := Lib.hid (ow_below HV50.out hb))
        (try have HV62 := Lib.hid (ow_below HV62.out hb))
        (try have HV66 := Lib.hid (ow_below HV66.out hb))
        have HV37 := Lib.hid (ow_mono ho HW)
        obtain ⟨a37, c37, he37, -⟩ := owns_shape ho
        subst he37
        clear ho
        have HW : w.heap.size ≤ W13.heap.size := HPS.out.bel.size
        clear hb hHeld
        refine hK.out _ _ HPS.out.cb (fun hHeld => ?_)
        clear hK K
        try simp only [Act.put, List.setIfInBounds_toArray, List.set_cons_zero, List.set_cons_succ]
        refine takeC (i := 18) rfl (by kernel_rfl) (by rfl) (fun K hK => ?_)
        go_simp
        refine (HRG.out W13 HPS).mono ?_
        rintro e W18 ⟨⟨v42, rfl, ho⟩, hb⟩
        have HPS := Lib.hid (HPS.out.keep hb)
        (try have HA4 := Lib.hid (HA4.out.keep hb))
        (try have HA9 := Lib.hid (HA9.out.keep hb))
        (try have HV31 := Lib.hid (ow_below HV31.out hb))
        (try have HV37 := Lib.hid (ow_below HV37.out hb))
        (try have HV50 := Lib.hid (ow_below HV50.out hb))
        (try have HV62 := Lib.hid (ow_below HV62.out hb))
        (try have HV66 := Lib.hid (ow_below HV66.out hb))
        have HV42 := Lib.hid (ow_mono ho HW)
        obtain ⟨a42, c42, he42, -⟩ := owns_shape ho
        subst he42
        clear ho
        have HW : w.heap.size ≤ W18.heap.size := HPS.out.bel.size
        clear hb hHeld
        refine hK.out _ _ HPS.out.cb (fun hHeld => ?_)
        clear hK K
        try simp only [Act.put, List.setIfInBounds_toArray, List.set_cons_zero, List.set_cons_succ]
        refine takeC (i := 26) rfl (by kernel_rfl) (by rfl) (fun K hK => ?_)
        go_simp
        refine (HRQ.out W18 HPS).mono ?_
        rintro e W26 ⟨⟨v50, rfl, ho⟩, hb⟩
        have HPS := Lib.hid (HPS.out.keep hb)
        (try have HA4 := Lib.hid (HA4.out.keep hb))
        (try have HA9 := Lib.hid (HA9.out.keep hb))
        (try have HV31 := Lib.hid (ow_below HV31.out hb))
        (try have HV37 := Lib.hid (ow_below HV37.out hb))
        (try have HV42 := Lib.hid (ow_below HV42.out hb))
        (try have HV62 := Lib.hid (ow_below HV62.out hb))
        (try have HV66 := Lib.hid (ow_below HV66.out hb))
        have HV50 := Lib.hid (ow_mono ho HW)
        obtain ⟨a50, c50, he50, -⟩ := owns_shape ho
        subst he50
        clear ho
        have HW : w.heap.size ≤ W26.heap.size := HPS.out.bel.size
        clear hb hHeld
        refine hK.out _ _ HPS.out.cb (fun hHeld => ?_)
        clear hK K
        try simp only [Act.put, List.setIfInBounds_toArray, List.set_cons_zero, List.set_cons_succ]
        refine takeC (i := 38) rfl (by kernel_rfl) (by rfl) (fun K hK => ?_)
        go_simp
        refine (HRD.out W26 HPS).mono ?_
        rintro e W38 ⟨⟨v62, rfl, ho⟩, hb⟩
        have HPS := Lib.hid (HPS.out.keep hb)
        (try have HA4 := Lib.hid (HA4.out.keep hb))
        (try have HA9 := Lib.hid (HA9.out.keep hb))
        (try have HV31 := Lib.hid (ow_below HV31.out hb))
        (try have HV37 := Lib.hid (ow_below HV37.out hb))
        (try have HV42 := Lib.hid (ow_below HV42.out hb))
        (try have HV50 := Lib.hid (ow_below HV50.out hb))
        (try have HV66 := Lib.hid (ow_below HV66.out hb))
        have HV62 := Lib.hid (ow_mono ho HW)
        obtain ⟨a62, c62, he62, -⟩ := owns_shape ho
        subst he62
        clear ho
        have HW : w.heap.size ≤ W38.heap.size := HPS.out.bel.size
        clear hb hHeld
        refine hK.out _ _ HPS.out.cb (fun hHeld => ?_)
        clear hK K
        try simp only [Act.put, List.setIfInBounds_toArray, List.set_cons_zero, List.set_cons_succ]
        refine takeC (i := 42) rfl (by kernel_rfl) (by rfl) (fun K hK => ?_)
        go_simp
        refine (HRF.out W38 HPS).mono ?_
        rintro e W42 ⟨⟨v66, rfl, ho⟩, hb⟩
        have HPS := Lib.hid (HPS.out.keep hb)
        (try have HA4 := Lib.hid (HA4.out.keep hb))
        (try have HA9 := Lib.hid (HA9.out.keep hb))
        (try have HV31 := Lib.hid (ow_below HV31.out hb))
        (try have HV37 := Lib.hid (ow_below HV37.out hb))
        (try have HV42 := Lib.hid (ow_below HV42.out hb))
        (try have HV50 := Lib.hid (ow_below HV50.out hb))
        (try have HV62 := Lib.hid (ow_below HV62.out hb))
        have HV66 := Lib.hid (ow_mono ho HW)
        obtain ⟨a66, c66, he66, -⟩ := owns_shape ho
        subst he66
        clear ho
        have HW : w.heap.size ≤ W42.heap.size := HPS.out.bel.size
        clear hb hHeld
        refine hK.out _ _ HPS.out.cb (fun hHeld => ?_)
        clear hK K
        try simp only [Act.put, List.setIfInBounds_toArray, List.set_cons_zero, List.set_cons_succ]
        (refine takeW (i := 43) rfl (by kernel_rfl) (by kernel_rfl) (by kernel_rfl) (fun _ _ _ h => h) (by rfl) (by assumption) (fun W hW => exec_build30 rfl rfl rfl rfl rfl rfl rfl rfl) ?_; (try simp only [Act.put, List.setIfInBounds_toArray, List.set_cons_zero, List.set_cons_succ]))
        obtain ⟨W45, hW45⟩ : ∃ W45, W42.setRow g9 (putAt zScr 0 [.int .i64 (imin (imax x.rounds 1) 16), .slice a31 n c31, .slice a37 n c37, .slice a42 n c42, .slice a50 n c50, .slice a62 k0 c62, .slice none 0 0, .slice a66 q c66]).toArray = W45 := ⟨_, rfl⟩
        have HT9 : Hid (Blk W45 g9 30 (cells8 (imin (imax x.rounds 1) 16) (.slice a31 n c31) (.slice a37 n c37) (.slice a42 n c42) (.slice a50 n c50) (.slice a62 k0 c62) (.slice none 0 0) (.slice a66 q c66)).toArray) := Lib.hid (by rw [← hW45]; exact HA9.out.part)
        have HG45 : Hid (W42.grownBy W45 (some g9)) := Lib.hid (by rw [← hW45]; exact grownRow _ _ _)
        have HX45 := Lib.hid (fun (o : Oper) (ac : Act) (x0 y0 : Operand) (ho : o.op = .store 30 x0 y0) (hx : ac.eval x0 = .pointer (some ⟨g9, 0, none⟩)) (hy : ac.eval y0 = .agg ([.int .i64 (imin (imax x.rounds 1) 16), .slice a31 n c31, .slice a37 n c37, .slice a42 n c42, .slice a50 n c50, .slice a62 k0 c62, .slice none 0 0, .slice a66 q c66] : List Value).toArray) => exec_storePart (P := Try.prog) W30 ho hx hy rfl (by simp [Value.oneCell']) HA9.out (by decide))
        rw [hW45] at HX45
        clear hW45
        refine takeVs (i := 45) rfl (by kernel_rfl) (by rfl) (HX45.out _ _ _ _ rfl rfl rfl) ((HPS.out.grown HG45.out (fun k e => by cases e; exact HG9.out)).cb) ?_
        have hHeld : Hid (CB2 m x n w W45) := (HPS.out.grown HG45.out (fun k e => by cases e; exact HG9.out)).cb
        have HPS := Lib.hid (HPS.out.grown HG45.out (fun k e => by cases e; exact HG9.out))
        have HRW : Hid (RWs w.heap.size (rows6 n k0 q a31 c31 a37 c37 a42 c42 a50 c50 a62 c62 a66 c66 (List.replicate n true) lo lg lq ld lf) W45) := Lib.hid (rows_of HV31.out HV37.out HV42.out HV50.out HV62.out HV66.out HG45.out HA9.out)
        clear HV31 HV37 HV42 HV50 HV62 HV66 HA4 HA9 HG45 HX45
        refine wpAnyH_done (by kernel_rfl) ?_ _
        clear hHeld
        go_wp2_with fail
        go_meet
        exact ⟨_, rfl, a31, c31, a37, c37, a42, c42, a50, c50, a62, c62, a66, c66, HPS, HRW, HT9, HG9⟩
    · (try simp only [Act.put, List.setIfInBounds_toArray, List.set_cons_zero, List.set_cons_succ])
      have hHeld : Hid (CB2 m x n w W44) := (HPS.out.keep HB44.out).cb
      have HPS := Lib.hid (HPS.out.keep HB44.out)
      have HW : w.heap.size ≤ W44.heap.size := HPS.out.bel.size
      (try have HA4 := Lib.hid (HA4.out.keep HB44.out))
      (try have HV31 := Lib.hid (ow_below HV31.out HB44.out))
      (try have HV37 := Lib.hid (ow_below HV37.out HB44.out))
      (try have HV42 := Lib.hid (ow_below HV42.out HB44.out))
      (try have HV50 := Lib.hid (ow_below HV50.out HB44.out))
      (try have HV62 := Lib.hid (ow_below HV62.out HB44.out))
      (try have HV66 := Lib.hid (ow_below HV66.out HB44.out))
      clear HB44 HX44
      obtain ⟨W4, hW4⟩ : ∃ W4, W44.alloc (.cells #[.bool true] 4) = W4 := ⟨_, rfl⟩
      obtain ⟨g4, hg4⟩ : ∃ g4, W44.heap.size = g4 := ⟨_, rfl⟩
      have HA4 : Hid (Blk W4 g4 4 #[.bool true]) := Lib.hid (by rw [← hW4]; exact Blk.new' hg4)
      have HB4 : Hid (Below W44.heap.size W44 W4) := Lib.hid (by rw [← hW4]; exact below1 _ _)
      have HX4 := Lib.hid (run_oneB W44 true)
      rw [hW4, hg4] at HX4
      clear hW4 hg4
      refine takeV (i := 4) rfl (by kernel_rfl) (by rfl) (exec_run1 HX4.out rfl rfl) ((HPS.out.keep HB4.out).cb) ?_
      (try simp only [Act.put, List.setIfInBounds_toArray, List.set_cons_zero, List.set_cons_succ])
      have hHeld : Hid (CB2 m x n w W4) := (HPS.out.keep HB4.out).cb
      have HPS := Lib.hid (HPS.out.keep HB4.out)
      have HW : w.heap.size ≤ W4.heap.size := HPS.out.bel.size
      (try have HA9 := Lib.hid (HA9.out.keep HB4.out))
      (try have HV31 := Lib.hid (ow_below HV31.out HB4.out))
      (try have HV37 := Lib.hid (ow_below HV37.out HB4.out))
      (try have HV42 := Lib.hid (ow_below HV42.out HB4.out))
      (try have HV50 := Lib.hid (ow_below HV50.out HB4.out))
      (try have HV62 := Lib.hid (ow_below HV62.out HB4.out))
      (try have HV66 := Lib.hid (ow_below HV66.out HB4.out))
      clear HB4 HX4
      refine takeC (i := 7) rfl (by kernel_rfl) (by rfl) (fun K hK => ?_)
      go_simp
      refine (repB_any (.bool true) g4 1 n W4 (HA4.out.cell 0) rfl (by omega)).mono ?_
      rintro e W7 ⟨⟨v31, rfl, ho⟩, hb⟩
      have HPS := Lib.hid (HPS.out.keep hb)
      (try have HA4 := Lib.hid (HA4.out.keep hb))
      (try have HA9 := Lib.hid (HA9.out.keep hb))
      (try have HV37 := Lib.hid (ow_below HV37.out hb))
      (try have HV42 := Lib.hid (ow_below HV42.out hb))
      (try have HV50 := Lib.hid (ow_below HV50.out hb))
      (try have HV62 := Lib.hid (ow_below HV62.out hb))
      (try have HV66 := Lib.hid (ow_below HV66.out hb))
      have HV31 := Lib.hid (ow_mono ho HW)
      obtain ⟨a31, c31, he31, -⟩ := owns_shape ho
      subst he31
      clear ho
      have HW : w.heap.size ≤ W7.heap.size := HPS.out.bel.size
      clear hb hHeld
      refine hK.out _ _ HPS.out.cb (fun hHeld => ?_)
      clear hK K
      try simp only [Act.put, List.setIfInBounds_toArray, List.set_cons_zero, List.set_cons_succ]
      refine takeC (i := 13) rfl (by kernel_rfl) (by rfl) (fun K hK => ?_)
      go_simp
      refine (HRO.out W7 HPS).mono ?_
      rintro e W13 ⟨⟨v37, rfl, ho⟩, hb⟩
      have HPS := Lib.hid (HPS.out.keep hb)
      (try have HA4 := Lib.hid (HA4.out.keep hb))
      (try have HA9 := Lib.hid (HA9.out.keep hb))
      (try have HV31 := Lib.hid (ow_below HV31.out hb))
      (try have HV42 := Lib.hid (ow_below HV42.out hb))
      (try have HV50 := Lib.hid (ow_below HV50.out hb))
      (try have HV62 := Lib.hid (ow_below HV62.out hb))
      (try have HV66 := Lib.hid (ow_below HV66.out hb))
      have HV37 := Lib.hid (ow_mono ho HW)
      obtain ⟨a37, c37, he37, -⟩ := owns_shape ho
      subst he37
      clear ho
      have HW : w.heap.size ≤ W13.heap.size := HPS.out.bel.size
      clear hb hHeld
      refine hK.out _ _ HPS.out.cb (fun hHeld => ?_)
      clear hK K
      try simp only [Act.put, List.setIfInBounds_toArray, List.set_cons_zero, List.set_cons_succ]
      refine takeC (i := 18) rfl (by kernel_rfl) (by rfl) (fun K hK => ?_)
      go_simp
      refine (HRG.out W13 HPS).mono ?_
      rintro e W18 ⟨⟨v42, rfl, ho⟩, hb⟩
      have HPS := Lib.hid (HPS.out.keep hb)
      (try have HA4 := Lib.hid (HA4.out.keep hb))
      (try have HA9 := Lib.hid (HA9.out.keep hb))
      (try have HV31 := Lib.hid (ow_below HV31.out hb))
      (try have HV37 := Lib.hid (ow_below HV37.out hb))
      (try have HV50 := Lib.hid (ow_below HV50.out hb))
      (try have HV62 := Lib.hid (ow_below HV62.out hb))
      (try have HV66 := Lib.hid (ow_below HV66.out hb))
      have HV42 := Lib.hid (ow_mono ho HW)
      obtain ⟨a42, c42, he42, -⟩ := owns_shape ho
      subst he42
      clear ho
      have HW : w.heap.size ≤ W18.heap.size := HPS.out.bel.size
      clear hb hHeld
      refine hK.out _ _ HPS.out.cb (fun hHeld => ?_)
      clear hK K
      try simp only [Act.put, List.setIfInBounds_toArray, List.set_cons_zero, List.set_cons_succ]
      refine takeC (i := 26) rfl (by kernel_rfl) (by rfl) (fun K hK => ?_)
      go_simp
      refine (HRQ.out W18 HPS).mono ?_
      rintro e W26 ⟨⟨v50, rfl, ho⟩, hb⟩
      have HPS := Lib.hid (HPS.out.keep hb)
      (try have HA4 := Lib.hid (HA4.out.keep hb))
      (try have HA9 := Lib.hid (HA9.out.keep hb))
      (try have HV31 := Lib.hid (ow_below HV31.out hb))
      (try have HV37 := Lib.hid (ow_below HV37.out hb))
      (try have HV42 := Lib.hid (ow_below HV42.out hb))
      (try have HV62 := Lib.hid (ow_below HV62.out hb))
      (try have HV66 := Lib.hid (ow_below HV66.out hb))
      have HV50 := Lib.hid (ow_mono ho HW)
      obtain ⟨a50, c50, he50, -⟩ := owns_shape ho
      subst he50
      clear ho
      have HW : w.heap.size ≤ W26.heap.size := HPS.out.bel.size
      clear hb hHeld
      refine hK.out _ _ HPS.out.cb (fun hHeld => ?_)
      clear hK K
      try simp only [Act.put, List.setIfInBounds_toArray, List.set_cons_zero, List.set_cons_succ]
      refine takeC (i := 38) rfl (by kernel_rfl) (by rfl) (fun K hK => ?_)
      go_simp
      refine (HRD.out W26 HPS).mono ?_
      rintro e W38 ⟨⟨v62, rfl, ho⟩, hb⟩
      have HPS := Lib.hid (HPS.out.keep hb)
      (try have HA4 := Lib.hid (HA4.out.keep hb))
      (try have HA9 := Lib.hid (HA9.out.keep hb))
      (try have HV31 := Lib.hid (ow_below HV31.out hb))
      (try have HV37 := Lib.hid (ow_below HV37.out hb))
      (try have HV42 := Lib.hid (ow_below HV42.out hb))
      (try have HV50 := Lib.hid (ow_below HV50.out hb))
      (try have HV66 := Lib.hid (ow_below HV66.out hb))
      have HV62 := Lib.hid (ow_mono ho HW)
      obtain ⟨a62, c62, he62, -⟩ := owns_shape ho
      subst he62
      clear ho
      have HW : w.heap.size ≤ W38.heap.size := HPS.out.bel.size
      clear hb hHeld
      refine hK.out _ _ HPS.out.cb (fun hHeld => ?_)
      clear hK K
      try simp only [Act.put, List.setIfInBounds_toArray, List.set_cons_zero, List.set_cons_succ]
      refine takeC (i := 42) rfl (by kernel_rfl) (by rfl) (fun K hK => ?_)
      go_simp
      refine (HRF.out W38 HPS).mono ?_
      rintro e W42 ⟨⟨v66, rfl, ho⟩, hb⟩
      have HPS := Lib.hid (HPS.out.keep hb)
      (try have HA4 := Lib.hid (HA4.out.keep hb))
      (try have HA9 := Lib.hid (HA9.out.keep hb))
      (try have HV31 := Lib.hid (ow_below HV31.out hb))
      (try have HV37 := Lib.hid (ow_below HV37.out hb))
      (try have HV42 := Lib.hid (ow_below HV42.out hb))
      (try have HV50 := Lib.hid (ow_below HV50.out hb))
      (try have HV62 := Lib.hid (ow_below HV62.out hb))
      have HV66 := Lib.hid (ow_mono ho HW)
      obtain ⟨a66, c66, he66, -⟩ := owns_shape ho
      subst he66
      clear ho
      have HW : w.heap.size ≤ W42.heap.size := HPS.out.bel.size
      clear hb hHeld
      refine hK.out _ _ HPS.out.cb (fun hHeld => ?_)
      clear hK K
      try simp only [Act.put, List.setIfInBounds_toArray, List.set_cons_zero, List.set_cons_succ]
      (refine takeW (i := 43) rfl (by kernel_rfl) (by kernel_rfl) (by kernel_rfl) (fun _ _ _ h => h) (by rfl) (by assumption) (fun W hW => exec_build30 rfl rfl rfl rfl rfl rfl rfl rfl) ?_; (try simp only [Act.put, List.setIfInBounds_toArray, List.set_cons_zero, List.set_cons_succ]))
      obtain ⟨W45, hW45⟩ : ∃ W45, W42.setRow g9 (putAt zScr 0 [.int .i64 (imin (imax x.rounds 1) 16), .slice a31 n c31, .slice a37 n c37, .slice a42 n c42, .slice a50 n c50, .slice a62 k0 c62, .slice none 0 0, .slice a66 q c66]).toArray = W45 := ⟨_, rfl⟩
      have HT9 : Hid (Blk W45 g9 30 (cells8 (imin (imax x.rounds 1) 16) (.slice a31 n c31) (.slice a37 n c37) (.slice a42 n c42) (.slice a50 n c50) (.slice a62 k0 c62) (.slice none 0 0) (.slice a66 q c66)).toArray) := Lib.hid (by rw [← hW45]; exact HA9.out.part)
      have HG45 : Hid (W42.grownBy W45 (some g9)) := Lib.hid (by rw [← hW45]; exact grownRow _ _ _)
      have HX45 := Lib.hid (fun (o : Oper) (ac : Act) (x0 y0 : Operand) (ho : o.op = .store 30 x0 y0) (hx : ac.eval x0 = .pointer (some ⟨g9, 0, none⟩)) (hy : ac.eval y0 = .agg ([.int .i64 (imin (imax x.rounds 1) 16), .slice a31 n c31, .slice a37 n c37, .slice a42 n c42, .slice a50 n c50, .slice a62 k0 c62, .slice none 0 0, .slice a66 q c66] : List Value).toArray) => exec_storePart (P := Try.prog) W30 ho hx hy rfl (by simp [Value.oneCell']) HA9.out (by decide))
      rw [hW45] at HX45
      clear hW45
      refine takeVs (i := 45) rfl (by kernel_rfl) (by rfl) (HX45.out _ _ _ _ rfl rfl rfl) ((HPS.out.grown HG45.out (fun k e => by cases e; exact HG9.out)).cb) ?_
      have hHeld : Hid (CB2 m x n w W45) := (HPS.out.grown HG45.out (fun k e => by cases e; exact HG9.out)).cb
      have HPS := Lib.hid (HPS.out.grown HG45.out (fun k e => by cases e; exact HG9.out))
      have HRW : Hid (RWs w.heap.size (rows6 n k0 q a31 c31 a37 c37 a42 c42 a50 c50 a62 c62 a66 c66 (List.replicate n true) lo lg lq ld lf) W45) := Lib.hid (rows_of HV31.out HV37.out HV42.out HV50.out HV62.out HV66.out HG45.out HA9.out)
      clear HV31 HV37 HV42 HV50 HV62 HV66 HA4 HA9 HG45 HX45
      refine wpAnyH_done (by kernel_rfl) ?_ _
      clear hHeld
      go_wp2_with fail
      go_meet
      exact ⟨_, rfl, a31, c31, a37, c37, a42, c42, a50, c50, a62, c62, a66, c66, HPS, HRW, HT9, HG9⟩
  case rest =>
    clear HPS HRO HRG HRQ HRD HRF HMK HNG HND hh
    obtain ⟨g9, rfl, a31, c31, a37, c37, a42, c42, a50, c50, a62, c62, a66, c66, HPS, HRW, HT9, HG9⟩ := hcut.out
    clear hcut
    go_upto_region 6 with fail
    go_cut [] from 68 to 73 (fun wx => Hid (CQ m x n w wx) ∧ Hid (RWs w.heap.size (rows6 n k0 q a31 c31 a37 c37 a42 c42 a50 c50 a62 c62 a66 c66 (upsL x.ups.l n) lo lg lq ld lf) wx) ∧ Hid (Blk wx g9 30 (cells8 (imin (imax x.rounds 1) 16) (.slice a31 n c31) (.slice a37 n c37) (.slice a42 n c42) (.slice a50 n c50) (.slice a62 k0 c62) (.slice none 0 0) (.slice a66 q c66)).toArray))
    case first => as_aux_lemma =>
      have t1 : wc.cell? ⟨g9, 1, none⟩ = some (.slice a31 n c31) := HT9.out.list0 rfl
      have s1 : wc.cell? ⟨w.heap.size + 1, 1, none⟩ = some (.slice x.ups.a x.ups.l.length x.ups.c) := HPS.out.ss.list0 rfl
      have HU := HRW.out (4, 1, .slice a31 n c31, n, (List.replicate n true).map Value.bool) (by simp [rows6])
      simp only at HU
      replace HU := Lib.hid HU
      by_cases hu0 : x.ups.l = []
      · have HUP : Hid (List.replicate n true = upsL x.ups.l n) := by show _ = _; rw [hu0]; simp [upsL]
        have HL0 : Hid (Nat.min x.ups.l.length n = 0) := by show _ = _; rw [hu0]; simp
        rw [HUP.out] at HRW
        clear hu0
        go_wp2_with (((with_reducible show wpList _ _ _ (Oper.mk (some 72) _ _ _ _ _ :: _) _ _); refine wpList_copy_nothing rfl (.tmp 69) (.tmp 71) 22 22 rfl 4 (by exact Try.underlying22) (by kernel_rfl) a31 x.ups.a n c31 x.ups.l.length x.ups.c rfl rfl HL0.out ?_))
        go_meet
        exact ⟨HPS, HRW, HT9⟩
      · have hul : 0 < x.ups.l.length := List.length_pos_iff.2 hu0
        obtain ⟨g, hg31, -⟩ : ∃ g, a31 = some ⟨g, 0, none⟩ ∧ True := by
          obtain ⟨a, c, e, -, -, h4⟩ := owns_shape HU.out
          obtain ⟨g, hg, -⟩ := h4 (by omega)
          simp only [Value.slice.injEq] at e
          exact ⟨g, by rw [e.1, hg], trivial⟩
        subst hg31
        obtain ⟨cur, hcur⟩ : ∃ cur, wc.heap[g]? = some (.cells cur 4 (0, 0)) := by
          rcases HU.out.2 with ⟨e0, _⟩ | ⟨g', cap, cur, e0, hb, hh, _⟩
          · cases e0
          · simp only [Value.slice.injEq, Option.some.injEq, Addr.mk.injEq] at e0
            obtain ⟨⟨rfl, _⟩, _⟩ := e0
            exact ⟨cur, hh⟩
        obtain ⟨bb, off, hba, hbl, hc⟩ := (show Rd encB 1 wc (.slice x.ups.a x.ups.l.length x.ups.c) x.ups.l from HPS.out.gs.ups).row hu0
        obtain ⟨cs, hcs⟩ : ∃ cs, cs = (x.ups.l.take n).map Value.bool := ⟨_, rfl⟩
        have HLC : Hid (cs.length = Nat.min x.ups.l.length n) := by show _ = _; rw [hcs, List.length_map, List.length_take, Nat.min_comm]
        have hcn : cs.length ≤ n := by rw [hcs, List.length_map, List.length_take]; omega
        have HSRC : Hid (∀ j v, cs[j]? = some v → wc.cell? ((⟨bb, off, none⟩ : Addr).add j) = some v) := fun j v hj => by
          rw [hcs, List.getElem?_map] at hj
          obtain ⟨b, hb, rfl⟩ := Option.map_eq_some_iff.1 hj
          rw [List.getElem?_take] at hb
          split at hb
          · rw [Addr.add_lit]
            exact hc.one (f := fun z => .bool z) hb
          · cases hb
        have HONE : Hid (∀ v ∈ cs, v.oneCell' = true) := fun v hv => by
          rw [hcs] at hv
          obtain ⟨b, _, rfl⟩ := List.mem_map.1 hv
          rfl
        have HFIT : Hid (0 + cs.length ≤ cur.size) := by
          show _ ≤ _
          rcases HU.out.2 with ⟨e0, _⟩ | ⟨g', cap, cur', e0, hb, hh, h1, h2, h3, _⟩
          · cases e0
          · simp only [Value.slice.injEq, Option.some.injEq, Addr.mk.injEq] at e0
            obtain ⟨⟨rfl, _⟩, _, rfl⟩ := e0
            rw [hcur] at hh
            cases hh
            omega
        have HUN : Hid ((wc.setRow g (cur.toList.take 0 ++ (cs ++ cur.toList.drop (0 + cs.length))).toArray).ownsRow w.heap.size 4 1 (.slice (some ⟨g, 0, none⟩) n c31) n ((upsL x.ups.l n).map Value.bool)) := by
          have h := own_splice HU.out hcur hcn
          have e : cs ++ ((List.replicate n true).map Value.bool).drop cs.length = (upsL x.ups.l n).map Value.bool := by
            have hl : cs.length = min n x.ups.l.length := by rw [hcs, List.length_map, List.length_take]
            rw [hl, hcs]
            unfold upsL
            rw [List.map_append, List.map_replicate, List.map_replicate, List.drop_replicate, show n - min n x.ups.l.length = n - x.ups.l.length by omega]
          rw [e] at h
          exact h
        have HGR : Hid (wc.grownBy (wc.setRow g (cur.toList.take 0 ++ (cs ++ cur.toList.drop (0 + cs.length))).toArray) (some g)) := Lib.hid (grownRow _ _ _)
        have HGL : Hid (w.heap.size + 3 ≤ g) := by
          show _ ≤ _
          have h1 := (HU.out.lt g rfl).1
          have n1 : g ≠ w.heap.size := fun e => blk_neq (show Blk wc g 4 cur from hcur) HPS.out.mm (by decide) e
          have n2 : g ≠ w.heap.size + 1 := fun e => blk_neq (show Blk wc g 4 cur from hcur) HPS.out.ss (by decide) e
          have n3 : g ≠ w.heap.size + 2 := fun e => blk_neq (show Blk wc g 4 cur from hcur) HPS.out.rr (by decide) e
          omega
        have HCUR := Lib.hid hcur
        have HRU := Lib.hid (rows_ups HRW.out HGR.out HUN.out)
        have HQ2 := Lib.hid (HPS.out.grown HGR.out (fun k e => by cases e; exact HGL.out))
        have HT2 := Lib.hid (HT9.out.kept HGR.out (fun e => by cases e; exact absurd rfl (blk_neq HT9.out (show Blk wc _ 4 cur from hcur) (by decide))))
        rw [hba] at s1
        clear hcur hba hbl hc hcs hu0 hcn
        go_wp2_with (((with_reducible show wpList _ _ _ (Oper.mk (some 72) _ _ _ _ _ :: _) _ _); refine wpList_copy_own rfl (.tmp 69) (.tmp 71) 22 22 rfl 4 (by exact Try.underlying22) (by kernel_rfl) g 0 n c31 ⟨bb, off, none⟩ x.ups.l.length x.ups.c rfl rfl cur 4 HCUR.out cs HLC.out HSRC.out HFIT.out HONE.out ?_))
        go_meet
        exact ⟨HQ2, HRU, HT2⟩
    case rest => as_aux_lemma =>
      clear HPS HRW HT9
      obtain ⟨HPS, HRW, HT9⟩ := hcut
      rename World => wd
      have HF := HRW.out (39, 7, .slice a66 q c66, q, lf.flatMap encF) (by simp [rows6])
      simp only at HF
      obtain ⟨_, _, e66, hq66, -, hq0⟩ := owns_shape HF
      have hmc : mm ≤ c66 := by simp only [Value.slice.injEq] at e66; omega
      have HNO : Hid (a66 = none → c66 = 0) := fun e => by
        rcases HF.2 with ⟨e0, _⟩ | ⟨_, _, _, e0, _⟩
        · simp only [Value.slice.injEq] at e0; exact e0.2.2
        · simp only [Value.slice.injEq] at e0; rw [e] at e0; cases e0.1
      clear e66 hq66 hq0 HF
      have t7 : wd.cell? ⟨g9, 7, none⟩ = some (.slice a66 q c66) := HT9.out.list0 rfl
      have fz7 : wd.frozen? ⟨g9, 7, none⟩ = false := HT9.out.frozen 7
      go_upto_region 8 with (first | (((with_reducible show wpList _ _ _ (Oper.mk (some 78) _ _ _ _ _ :: _) _ _); refine wpList_min rfl rfl rfl rfl ?_; rw [HMM.out])) | (((with_reducible show wpList _ _ _ (Oper.mk (some 79) _ _ _ _ _ :: _) _ _); refine wpList_val rfl (exec_slice28 rfl rfl rfl hmc HNO.out) ?_)))
      have HK := Lib.hid (mid_cut HPS.out HG9.out HT9.out (rows_cut HRW.out hmq))
      clear HPS HRW HT9 t7 fz7 HNO hmc
      generalize wd.setCell ⟨g9, 7, none⟩ (.slice a66 mm c66) = wo at *
      have s6 : wo.cell? ⟨w.heap.size + 1, 6, none⟩ = some (.slice x.oa x.ops.length x.oc) := HK.out.q.ss.list0 rfl
      rw [← HOL.out] at s6
      go_wp2_with fail
      clear s6
      go_loopw [84] (fun i wr => ∃ (k : Nat) (v6 : Value) (L : List Ho), k ≤ ol ∧ i = .int .i64 k ∧ Hid (MidR m x n k0 mm g9 a31 c31 a37 c37 a42 c42 a50 c50 a62 c62 a66 c66 lo lg lq ld (lf.take mm) w (v6) L wr) ∧ Hid (L.map Ho.key = (opsT m (x.ops.take k)).map Ho.key)) (fun i _ => ol - (intOf i).toNat)
      case atStart => exact ⟨0, _, [], Nat.zero_le _, rfl, HK, rfl⟩
      case round =>
        clear HK
        obtain ⟨k, v6, L, hk, rfl, HK, HL⟩ := hrel
        obtain ⟨wo, rfl⟩ : ∃ wo : World, wo = wr := ⟨_, rfl⟩
        obtain ⟨a6, c6, e6, -⟩ := owns_shape HK.out.ops
        subst e6
        have HLL : Hid (L.length = (opsT m (x.ops.take k)).length) := by
          have := congrArg List.length HL.out
          show _ = _
          simpa using this
        have hll : L.length ≤ 256 := by rw [HLL.out]; exact opsT_len _ _
        by_cases hlt : k < ol
        · obtain ⟨z, hs⟩ : ∃ z, x.ops[k]? = some z := ⟨_, List.getElem?_eq_getElem (by rw [← HOL.out]; exact hlt)⟩
          have HM := Lib.hid (fun W => HMY.out z W (List.mem_of_getElem? hs))
          have HZG := Lib.hid ((HGO.out z (List.mem_of_getElem? hs)).below HK.out.q.bel)
          have HST := Lib.hid (opsT_step (m := m) hs)
          obtain ⟨b, off, hba, hbl, hc⟩ := (show Hos wo (.slice x.oa x.ops.length x.oc) x.ops from HK.out.q.gs.ops).row (by rintro e; rw [e] at hs; simp at hs)
          have HC := Lib.hid (ho_at hc hs)
          rw [hba]
          clear hc hs hba hbl
          obtain ⟨mz, hmz⟩ : ∃ mz, mz = mayH m z := ⟨_, rfl⟩
          rw [← hmz] at HST HM
          clear hmz
          have hltb : w.heap.size + 3 ≤ wo.heap.size := HK.out.q.lt
          have HNE : Hid ((.slice a6 L.length c6 : Value).ownBlock ≠ some wo.heap.size) := own_ne HK.out.ops
          go_upto_region 11 with (first | (((with_reducible show wpList _ _ _ (Oper.mk (some 87) _ _ _ _ _ :: _) _ _); refine wpList_loadW W43 rfl rfl rfl (encH z) rfl HC.out ?_)) | ((with_reducible show wpList _ _ _ (Oper.mk none (Op.store 43 _ _) _ _ _ _ :: _) _ _); refine wpList_boxW W43 rfl rfl rfl (encH z) rfl rfl (encH_one z) rfl ?_; intro W1 HZ hal hz1; have HB1 := Lib.hid HZ; have HK1 := Lib.hid (HK.out.keep hal); have HZ1 := Lib.hid (HZG.out.below hal); clear HZ hal hz1))
          clear HK HC HZG
          generalize wo.heap.size = b11 at *
          go_wp2_with (first | (((with_reducible show wpList _ _ _ (Oper.mk (some 88) _ _ _ _ _ :: _) _ _); refine wpList_loadW W25 rfl rfl rfl (encMe m) rfl HK1.out.q.mm.list ?_)) | (((with_reducible show wpList _ _ _ (Oper.mk (some 89) _ _ _ _ _ :: _) _ _); refine wpList_loadW W43 rfl rfl rfl (encH z) rfl HB1.out.list ?_)))
          refine (HM.out W1).mono ?_
          rintro e W2 ⟨rfl, hb2⟩
          have HK2 := Lib.hid (HK1.out.keep hb2)
          have HB2 := Lib.hid (HB1.out.keep hb2)
          have HZ2 := Lib.hid (HZ1.out.below hb2)
          clear HK1 HB1 HZ1 hb2 HM
          have d6 : W2.cell? ⟨g9, 6, none⟩ = some (.slice a6 L.length c6) := HK2.out.t9.list0 rfl
          cases mz with
          | false =>
            have HT : Hid (opsT m (x.ops.take (k + 1)) = opsT m (x.ops.take k)) := by show _ = _; rw [HST.out, if_neg (by simp)]
            clear HST HB2 HZ2 HNE
            go_wp2
            go_roundw
            case rel => exact ⟨k + 1, _, L, by omega, by go_num, HK2, (show Hid _ from by rw [HT.out]; exact HL.out)⟩
            case measure => simp [intOf]; omega
          | true =>
            by_cases hl : L.length < 256
            · have hlz : (L.length : Int) < 256 := by omega
              have HT : Hid (opsT m (x.ops.take (k + 1)) = opsT m (x.ops.take k) ++ [z]) := by show _ = _; rw [HST.out, if_pos ⟨rfl, by rw [← HLL.out]; exact hl⟩]
              have d5 : W2.cell? ⟨b11, 5, none⟩ = some (.slice z.a z.d.length z.c) := HB2.out.list0 rfl
              clear HST
              go_wp2_with fail
              refine (dclone_any _ z.d W2 HZ2.out.d).mono ?_
              rintro e W3 ⟨⟨v', rfl, ho⟩, hb3⟩
              obtain ⟨a5, c5, e5, -⟩ := owns_shape ho
              subst e5
              have HO3 := Lib.hid (ow_mono ho (show w.heap.size ≤ W2.heap.size from HK2.out.q.bel.size))
              have HK3 := Lib.hid (HK2.out.keep hb3)
              have HB3 := Lib.hid (HB2.out.keep hb3)
              have fz5 : W3.frozen? ⟨b11, 5, none⟩ = false := HB3.out.frozen 5
              have cz5 : W3.cell? ⟨b11, 5, none⟩ = some (.slice z.a z.d.length z.c) := HB3.out.list0 rfl
              clear ho hb3 HK2 HB2 HZ2 d5 d6
              go_upto_region 13 with fail
              have HK4 : Hid (MidR m x n k0 mm g9 a31 c31 a37 c37 a42 c42 a50 c50 a62 c62 a66 c66 lo lg lq ld (lf.take mm) w (.slice a6 L.length c6) L (W3.setCell ⟨b11, 5, none⟩ (.slice a5 z.d.length c5))) := Lib.hid (HK3.out.far HB3.out hltb HNE.out (grownBy_setCell _ _ _))
              obtain ⟨z', hz'⟩ : ∃ z' : Ho, z' = ⟨z.n, z.r, z.s, z.k, z.v, a5, c5, z.d⟩ := ⟨_, rfl⟩
              have HKEY : Hid (z'.key = z.key) := by subst hz'; rfl
              have HB4 : Hid (Blk (W3.setCell ⟨b11, 5, none⟩ (.slice a5 z.d.length c5)) b11 43 (encH z').toArray) := by subst hz'; have := HB3.out.set 5 (.slice a5 z.d.length c5); show Blk _ _ _ _; simpa [encH] using this
              have HO4 : Hid ((W3.setCell ⟨b11, 5, none⟩ (.slice a5 z.d.length c5)).ownsRow w.heap.size 5 1 (.slice z'.a z'.d.length z'.c) z'.d.length (z'.d.map (.int .u8))) := by subst hz'; exact HO3.out.kept (grownBy_setCell _ _ _) (.inr (own_blk_ne HO3.out HB3.out (by decide)))
              clear HK3 HB3 HO3 fz5 cz5 hz' HNE
              generalize W3.setCell ⟨b11, 5, none⟩ (.slice a5 z.d.length c5) = W4 at *
              have d6 : W4.cell? ⟨g9, 6, none⟩ = some (.slice a6 L.length c6) := HK4.out.t9.list0 rfl
              have HSZ : Hid (w.heap.size + 3 ≤ W4.heap.size) := HK4.out.q.lt
              go_wp2_with (first | (((with_reducible show wpList _ _ _ (Oper.mk (some 103) _ _ _ _ _ :: _) _ _); refine wpList_loadW W43 rfl rfl rfl (encH z') rfl HB4.out.list ?_)) | (((with_reducible show wpList _ _ _ (Oper.mk (some 104) _ _ _ _ _ :: _) _ _); refine wpList_sliceW E27 (by decide) rfl rfl (encH z') rfl rfl ?_)) | (at_builtin; refine wpList_app1 E27 rfl _ _ rfl HK4.out.ops (encH z') rfl (encH_one z') rfl rfl (by omega) HSZ.out ?_; intro v7 W5 ho5 hg5; obtain ⟨a7, c7, e7, -⟩ := owns_shape ho5; subst e7; have HK5 := Lib.hid (MidR.app6 HK4.out ho5 hg5 HO4.out); have fz6 : W5.frozen? ⟨g9, 6, none⟩ = false := MidR.fz6 HK4.out ho5 hg5 HO4.out; have cl6 : W5.cell? ⟨g9, 6, none⟩ = some (.slice a6 L.length c6) := MidR.cl6 HK4.out ho5 hg5 HO4.out; clear ho5 hg5 d6))
              go_roundw
              case rel => exact ⟨k + 1, _, L ++ [z'], by omega, by go_num, HK5, (show Hid _ from by rw [HT.out, List.map_append, List.map_append, HL.out, List.map_cons, List.map_cons, HKEY.out]; rfl)⟩
              case measure => simp [intOf]; omega
            · have hlz : ¬ (L.length : Int) < 256 := by omega
              have HT : Hid (opsT m (x.ops.take (k + 1)) = opsT m (x.ops.take k)) := by show _ = _; rw [HST.out, if_neg (by rw [← HLL.out]; omega)]
              clear HST HB2 HZ2 HNE
              go_wp2
              go_roundw
              case rel => exact ⟨k + 1, _, L, by omega, by go_num, HK2, (show Hid _ from by rw [HT.out]; exact HL.out)⟩
              case measure => simp [intOf]; omega
        · have HLF : Hid (L.map Ho.key = (opsT m x.ops).map Ho.key) := by
            have := HL.out
            rw [List.take_of_length_le (by rw [← HOL.out]; omega)] at this
            exact this
          have d6 : wo.cell? ⟨g9, 6, none⟩ = some (.slice a6 L.length c6) := HK.out.t9.list0 rfl
          clear HLL HL
          go_wp2_with fail
          refine (sortH_any L _ (w.heap.size + 3) wo (by omega) HK.out.ops).mono ?_
          rintro e W2 ⟨rfl, ⟨M, hp, hu, hst, ho⟩, hg⟩
          have HK2 : Hid (MidR m x n k0 mm g9 a31 c31 a37 c37 a42 c42 a50 c50 a62 c62 a66 c66 lo lg lq ld (lf.take mm) w (.slice a6 L.length c6) M W2) := Lib.hid (CK.sorted HK.out hp ho hg)
          have HPM := Lib.hid hp
          have HUP := Lib.hid hu
          have HSY := Lib.hid hst
          clear hp hu hst ho hg HK d6
          go_upto_region 16 with fail
          have HR := Lib.hid HK2.out.q.rr
          go_wp2_with (first | (((with_reducible show wpList _ _ _ (Oper.mk (some 111) _ _ _ _ _ :: _) _ _); refine wpList_loadW W30 rfl rfl rfl (cells8 (imin (imax x.rounds 1) 16) (.slice a31 n c31) (.slice a37 n c37) (.slice a42 n c42) (.slice a50 n c50) (.slice a62 k0 c62) (.slice a6 L.length c6) (.slice a66 mm c66)) rfl HK2.out.t9.list ?_)) | ((with_reducible show wpList _ _ _ (Oper.mk none (Op.store 30 _ _) _ _ _ _ :: _) _ _); refine wpList_storePart (cs := (cells8 (imin (imax x.rounds 1) 16) (.slice a31 n c31) (.slice a37 n c37) (.slice a42 n c42) (.slice a50 n c50) (.slice a62 k0 c62) (.slice a6 L.length c6) (.slice a66 mm c66))) (old := zScr) W30 rfl rfl rfl rfl rfl (by simp [Value.oneCell', cells8]) HR.out (by decide) ?_; intro W9 hbl hg; have HZ := Lib.hid hbl; have HGG := Lib.hid hg; clear hbl hg))
          have HF : Hid (Blk W9 (w.heap.size + 2) 30 (cells8 (imin (imax x.rounds 1) 16) (.slice a31 n c31) (.slice a37 n c37) (.slice a42 n c42) (.slice a50 n c50) (.slice a62 k0 c62) (.slice a6 L.length c6) (.slice a66 mm c66)).toArray) := HZ
          have HB : Hid (Below w.heap.size w W9) := Lib.hid (HK2.out.q.bel.grown HGG.out HK2.out.q.bel.size (fun k e => by cases e; omega))
          have HRW9 := Lib.hid (HK2.out.rw.kept HGG.out HR.out (fun r hr => (CK.typ' HK2.out r hr).1))
          have HOP9 := Lib.hid (HK2.out.ops.kept HGG.out (.inr (own_blk_ne HK2.out.ops HR.out (by decide))))
          refine bodyPost_ret (results_cell2 rfl W30 rfl (cs := (cells8 (imin (imax x.rounds 1) 16) (.slice a31 n c31) (.slice a37 n c37) (.slice a42 n c42) (.slice a50 n c50) (.slice a62 k0 c62) (.slice a6 L.length c6) (.slice a66 mm c66))) rfl HF.out.list) rfl ?_
          exact HPO.out _ _ _ _ _ _ _ _ _ _ _ _ _ _ _ _ _ HRW9.out HOP9.out HLF.out HPM.out HUP.out HSY.out HB.out
end Go.Proofs.Ytkinhhkodaacjaa
