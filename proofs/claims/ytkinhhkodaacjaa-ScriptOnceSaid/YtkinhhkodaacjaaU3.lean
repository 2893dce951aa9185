/- What Clean keeps while it goes on: boxes, rows of its own, the operations so far. -/
import Derived.Test.YtkinhhkodaacjaaR10
import Derived.Test.YtkinhhkodaacjaaU2
import Derived.Test.YtkinhhkodaacjaaU5
namespace Go.Proofs.Ytkinhhkodaacjaa
open Go.RowKit Go.Shelf
open Md

theorem blk_neq {X : World} {b b' : Nat} {t t' : TypeId} {cs cs' : Array Value} (h : Blk X b t cs) (h' : Blk X b' t' cs') (hne : t ≠ t') : b ≠ b' := fun e => by
  subst e
  unfold Blk at h h'
  rw [h] at h'
  cases h'
  exact hne rfl
theorem own_own_ne {X : World} {B B' : Nat} {e e' : TypeId} {s s' n n' : Nat} {v v' : Value} {xs xs' : List Value} (h : X.ownsRow B e s v n xs) (h' : X.ownsRow B' e' s' v' n' xs') (hne : e ≠ e') : v.ownBlock = none ∨ v.ownBlock ≠ v'.ownBlock := by
  rcases h.2 with ⟨rfl, _⟩ | ⟨g, cap, cur, rfl, hg, hh, _⟩
  · exact .inl rfl
  · rcases h'.2 with ⟨rfl, _⟩ | ⟨g', cap', cur', rfl, hg', hh', _⟩
    · exact .inr (by simp [Value.ownBlock])
    · refine .inr fun e0 => ?_
      have : g = g' := by simpa [Value.ownBlock] using e0
      subst this
      rw [hh] at hh'
      cases hh'
      exact hne rfl
/-- Rows of a call's own. -/
abbrev ORow := TypeId × Nat × Value × Nat × List Value
def RWs (B : Nat) (rows : List ORow) (X : World) : Prop := ∀ r ∈ rows, X.ownsRow B r.1 r.2.1 r.2.2.1 r.2.2.2.1 r.2.2.2.2
theorem RWs.keep {B : Nat} {rows : List ORow} {X Y : World} (h : RWs B rows X) (hb : Below X.heap.size X Y) : RWs B rows Y := fun r hr => ow_below (h r hr) hb
theorem RWs.kept {B : Nat} {rows : List ORow} {X Y : World} {b : Nat} {t : TypeId} {cs : Array Value} (h : RWs B rows X) (hg : X.grownBy Y (some b)) (hb : Blk X b t cs) (hne : ∀ r ∈ rows, r.1 ≠ t) : RWs B rows Y :=
  fun r hr => (h r hr).kept hg (.inr (own_blk_ne (h r hr) hb (hne r hr)))
theorem RWs.keptO {B B' : Nat} {rows : List ORow} {X Y : World} {t : TypeId} {s n : Nat} {v : Value} {xs : List Value} (h : RWs B rows X) (hv : X.ownsRow B' t s v n xs) (hg : X.grownBy Y v.ownBlock) (hne : ∀ r ∈ rows, r.1 ≠ t) : RWs B rows Y :=
  fun r hr => (h r hr).kept hg (own_own_ne (h r hr) hv (hne r hr))
theorem RWs.app {B : Nat} {rows : List ORow} {X : World} {r : ORow} (h : RWs B rows X) (hr : X.ownsRow B r.1 r.2.1 r.2.2.1 r.2.2.2.1 r.2.2.2.2) : RWs B (rows ++ [r]) X := fun q hq => by
  rcases List.mem_append.1 hq with h1 | h1
  · exact h q h1
  · obtain rfl : q = r := by simpa using h1
    exact hr
/-- A row, with some of its first cells written anew. -/
theorem own_splice {X : World} {B g n cap : Nat} {e : TypeId} {xs cs : List Value} {cur : Array Value} (h : X.ownsRow B e 1 (.slice (some ⟨g, 0, none⟩) n cap) n xs) (hg : X.heap[g]? = some (.cells cur e (0, 0))) (hk : cs.length ≤ n) :
    (X.setRow g (cur.toList.take 0 ++ (cs ++ cur.toList.drop (0 + cs.length))).toArray).ownsRow B e 1 (.slice (some ⟨g, 0, none⟩) n cap) n (cs ++ xs.drop cs.length) := by
  rcases h.2 with ⟨e0, _⟩ | ⟨g', cap', cur', e0, hb, hh, h1, h2, h3, h4⟩
  · cases e0
  · injection e0 with e1 _ e3
    injection e1 with e1
    injection e1 with e1
    subst e1; subst e3
    rw [hg] at hh
    cases hh
    have hx := h.1
    rw [Nat.mul_one] at hx h3 h4
    refine ⟨by rw [List.length_append, List.length_drop]; omega, .inr ⟨g, cap, _, rfl, hb, setRow_heap X g _ _ e _ hg, h1, h2, ?_, ?_⟩⟩
    · simp; omega
    · rw [Nat.mul_one, ← h4]
      simp only [List.take_zero, List.nil_append, Nat.zero_add]
      rw [List.take_append, List.take_of_length_le hk, List.drop_take]
theorem flat_take {α : Type} {enc : α → List Value} {k : Nat} (hk : ∀ x, (enc x).length = k) : ∀ (l : List α) (m : Nat), (l.flatMap enc).take (m * k) = (l.take m).flatMap enc
  | [], m => by simp
  | x :: l, 0 => by simp
  | x :: l, m + 1 => by
    rw [List.flatMap_cons, List.take_succ_cons, List.flatMap_cons, Nat.succ_mul, List.take_append, List.take_of_length_le (by rw [hk]; omega), hk, show m * k + k - k = m * k by omega, flat_take hk l m]
/-- A shorter view of a row. -/
theorem own_take {X : World} {B : Nat} {e : TypeId} {s n m c : Nat} {a : Option Addr} {xs : List Value} (h : X.ownsRow B e s (.slice a n c) n xs) (hm : m ≤ n) : X.ownsRow B e s (.slice a m c) m (xs.take (m * s)) := by
  have hl := h.1
  have h0 : m * s ≤ n * s := Nat.mul_le_mul_right s hm
  refine ⟨by rw [List.length_take]; omega, ?_⟩
  rcases h.2 with ⟨e0, hn⟩ | ⟨g, cap, cur, e0, hb, hh, h1, h2, h3, h4⟩
  · injection e0 with e1 e2 e3
    subst e1; subst e3
    obtain rfl : m = 0 := by omega
    exact .inl ⟨rfl, rfl⟩
  · injection e0 with e1 e2 e3
    subst e1; subst e3
    refine .inr ⟨g, c, cur, rfl, hb, hh, by omega, h2, h3, ?_⟩
    rw [← h4, List.take_take, Nat.min_eq_left h0]
/-- The boxes of Clean. -/
structure CQ (m : Me) (x : Sc) (n : Nat) (w X : World) : Prop where
  hn : m.nodes = (n : Int)
  bel : Below w.heap.size w X
  good0 : GoodMe w m
  gs0 : GoodSc w x
  mm : Blk X w.heap.size 25 (encMe m).toArray
  ss : Blk X (w.heap.size + 1) 30 (encSc x).toArray
  rr : Blk X (w.heap.size + 2) 30 zScr.toArray
theorem CQ.keep {m : Me} {x : Sc} {n : Nat} {w X Y : World} (h : CQ m x n w X) (hb : Below X.heap.size X Y) : CQ m x n w Y := ⟨h.hn, h.bel.trans (hb.mono h.bel.size), h.good0, h.gs0, h.mm.keep hb, h.ss.keep hb, h.rr.keep hb⟩
theorem CQ.good {m : Me} {x : Sc} {n : Nat} {w X : World} (h : CQ m x n w X) : GoodMe X m := h.good0.below h.bel
theorem CQ.gs {m : Me} {x : Sc} {n : Nat} {w X : World} (h : CQ m x n w X) : GoodSc X x := h.gs0.below h.bel
theorem CQ.lt {m : Me} {x : Sc} {n : Nat} {w X : World} (h : CQ m x n w X) : w.heap.size + 3 ≤ X.heap.size := h.rr.lt
theorem CQ.grown {m : Me} {x : Sc} {n : Nat} {w X Y : World} {r : Option Nat} (h : CQ m x n w X) (hg : X.grownBy Y r) (hl : ∀ k, r = some k → w.heap.size + 3 ≤ k) : CQ m x n w Y :=
  ⟨h.hn, h.bel.grown hg h.bel.size (fun k e => by have := hl k e; omega), h.good0, h.gs0, h.mm.kept hg (fun e => by have := hl _ e.symm; omega), h.ss.kept hg (fun e => by have := hl _ e.symm; omega), h.rr.kept hg (fun e => by have := hl _ e.symm; omega)⟩
/-- What the boxes of Clean hold. -/
structure CB2 (m : Me) (x : Sc) (n : Nat) (w X : World) : Prop where
  c0 : X.cell? ⟨w.heap.size, 0, none⟩ = some (.int .i64 (n : Int))
  c4 : X.cell? ⟨w.heap.size, 4, none⟩ = some (.int .i64 m.drift)
  mm : Blk X w.heap.size 25 (encMe m).toArray
  s0 : X.cell? ⟨w.heap.size + 1, 0, none⟩ = some (.int .i64 x.rounds)
  s2 : X.cell? ⟨w.heap.size + 1, 2, none⟩ = some (.slice x.offs.a x.offs.l.length x.offs.c)
  s3 : X.cell? ⟨w.heap.size + 1, 3, none⟩ = some (.slice x.gates.a x.gates.l.length x.gates.c)
  s4 : X.cell? ⟨w.heap.size + 1, 4, none⟩ = some (.slice x.guards.a x.guards.l.length x.guards.c)
  s5 : X.cell? ⟨w.heap.size + 1, 5, none⟩ = some (.slice x.drifts.a x.drifts.l.length x.drifts.c)
  s7 : X.cell? ⟨w.heap.size + 1, 7, none⟩ = some (.slice x.fa x.faults.length x.fc)
theorem CQ.cb {m : Me} {x : Sc} {n : Nat} {w X : World} (h : CQ m x n w X) : Hid (CB2 m x n w X) := ⟨by rw [h.mm.cell]; simp [encMe, h.hn], by rw [h.mm.cell]; simp [encMe], h.mm, h.ss.list0 rfl, h.ss.list0 rfl, h.ss.list0 rfl, h.ss.list0 rfl, h.ss.list0 rfl, h.ss.list0 rfl⟩
/-- An operation's bytes, as a row. -/
def drow (y : Ho) : ORow := (5, 1, .slice y.a y.d.length y.c, y.d.length, y.d.map (.int .u8))
/-- What Clean holds while it takes the operations. -/
structure CK (m : Me) (x : Sc) (n : Nat) (w : World) (g9 : Nat) (cells : List Value) (rows : List ORow) (v6 : Value) (L : List Ho) (X : World) : Prop where
  q : CQ m x n w X
  hg : w.heap.size + 3 ≤ g9
  t9 : Blk X g9 30 cells.toArray
  rw : RWs w.heap.size (rows ++ L.map drow) X
  ops : X.ownsRow (w.heap.size + 3) 43 6 v6 L.length (L.flatMap encH)
  typ : ∀ r ∈ rows, r.1 ≠ 30 ∧ r.1 ≠ 43
section
variable {m : Me} {x : Sc} {n : Nat} {w : World} {g9 : Nat} {cells : List Value} {rows : List ORow} {v6 : Value} {L : List Ho} {X Y : World}
theorem CK.typ' (h : CK m x n w g9 cells rows v6 L X) : ∀ r ∈ rows ++ L.map drow, r.1 ≠ 30 ∧ r.1 ≠ 43 := fun r hr => by
  rcases List.mem_append.1 hr with h1 | h1
  · exact h.typ r h1
  · obtain ⟨y, _, rfl⟩ := List.mem_map.1 h1
    exact ⟨by simp [drow], by simp [drow]⟩
theorem CK.keep (h : CK m x n w g9 cells rows v6 L X) (hb : Below X.heap.size X Y) : CK m x n w g9 cells rows v6 L Y :=
  ⟨h.q.keep hb, h.hg, h.t9.keep hb, h.rw.keep hb, ow_below h.ops hb, h.typ⟩
/-- A store into a box of an operation. -/
theorem CK.far (h : CK m x n w g9 cells rows v6 L X) {b : Nat} {cs : Array Value} (hb : Blk X b 43 cs) (hlt : w.heap.size + 3 ≤ b) (hne : v6.ownBlock ≠ some b) (hg : X.grownBy Y (some b)) : CK m x n w g9 cells rows v6 L Y :=
  ⟨h.q.grown hg (fun k e => by cases e; exact hlt), h.hg, h.t9.kept hg (fun e => by cases e; exact absurd rfl (blk_neq h.t9 hb (by decide))), h.rw.kept hg hb (fun r hr => (h.typ' r hr).2), h.ops.kept hg (.inr hne), h.typ⟩
/-- One more operation in the row. -/
theorem CK.app (h : CK m x n w g9 cells rows v6 L X) {v' : Value} {y : Ho} (ho : Y.ownsRow (w.heap.size + 3) 43 6 v' (L.length + 1) (L.flatMap encH ++ encH y)) (hg : X.grownBy Y v6.ownBlock) (hd : X.ownsRow w.heap.size 5 1 (.slice y.a y.d.length y.c) y.d.length (y.d.map (.int .u8))) : CK m x n w g9 cells rows v' (L ++ [y]) Y :=
  ⟨h.q.grown hg (fun k e => (h.ops.lt k e).1), h.hg, h.t9.kept hg (fun e => absurd e.symm (own_blk_ne h.ops h.t9 (by decide))), by
      rw [List.map_append, ← List.append_assoc]
      exact (h.rw.keptO h.ops hg (fun r hr => (h.typ' r hr).2)).app (r := drow y) (hd.kept hg (own_own_ne hd h.ops (by decide))),
    by simpa using ho, h.typ⟩
/-- A store into the result under way. -/
theorem CK.set9 (h : CK m x n w g9 cells rows v6 L X) (i : Nat) (u : Value) : CK m x n w g9 (cells.set i u) rows v6 L (X.setCell ⟨g9, i, none⟩ u) :=
  have hg := grownBy_setCell X (⟨g9, i, none⟩ : Addr) u
  ⟨h.q.grown hg (fun k e => by cases e; exact h.hg), h.hg, by have := h.t9.set i u; simpa using this, h.rw.kept hg h.t9 (fun r hr => (h.typ' r hr).1), h.ops.kept hg (.inr (own_blk_ne h.ops h.t9 (by decide))), h.typ⟩
end
/-- Behind the sort. -/
theorem CK.sorted {m : Me} {x : Sc} {n : Nat} {w : World} {g9 : Nat} {cells : List Value} {rows : List ORow} {v6 : Value} {L M : List Ho} {X Y : World} (h : CK m x n w g9 cells rows v6 L X) (hp : M.Perm L) (ho : Y.ownsRow (w.heap.size + 3) 43 6 v6 L.length (M.flatMap encH)) (hg : X.grownBy Y v6.ownBlock) : CK m x n w g9 cells rows v6 M Y :=
  ⟨h.q.grown hg (fun k e => (h.ops.lt k e).1), h.hg, h.t9.kept hg (fun e => absurd e.symm (own_blk_ne h.ops h.t9 (by decide))), fun r hr => by
      have hr' : r ∈ rows ++ L.map drow := by
        rcases List.mem_append.1 hr with h1 | h1
        · exact List.mem_append.2 (.inl h1)
        · obtain ⟨y, hy, rfl⟩ := List.mem_map.1 h1
          exact List.mem_append.2 (.inr (List.mem_map_of_mem (hp.mem_iff.1 hy)))
      exact h.rw.keptO h.ops hg (fun r hr => (h.typ' r hr).2) r hr', by rw [hp.length_eq]; exact ho, h.typ⟩
/-- The result under way, as cells. -/
def cells8 (r0 : Int) (u o g d t s f : Value) : List Value := [.int .i64 r0, u, o, g, d, t, s, f]
/-- Its rows. -/
def rows6 (n k0 mm : Nat) (a31 : Option Addr) (c31 : Nat) (a37 : Option Addr) (c37 : Nat) (a42 : Option Addr) (c42 : Nat) (a50 : Option Addr) (c50 : Nat) (a62 : Option Addr) (c62 : Nat) (a66 : Option Addr) (c66 : Nat) (lu : List Bool) (lo lg lq ld : List Int) (lf : List Fa) : List ORow :=
  [(4, 1, .slice a31 n c31, n, lu.map Value.bool), (3, 1, .slice a37 n c37, n, lo.map (Value.int .i64)), (3, 1, .slice a42 n c42, n, lg.map (Value.int .i64)), (3, 1, .slice a50 n c50, n, lq.map (Value.int .i64)), (3, 1, .slice a62 k0 c62, k0, ld.map (Value.int .i64)), (39, 7, .slice a66 mm c66, mm, lf.flatMap encF)]
theorem encB_flat (l : List Bool) : l.flatMap encB = l.map Value.bool := by
  induction l with
  | nil => rfl
  | cons x l ih => simp [List.flatMap_cons, encB, ih]
/-- The result as a script, where it lies. -/
theorem good_of {m : Me} {x : Sc} {w X : World} {n k0 mm : Nat} {a31 a37 a42 a50 a62 a66 : Option Addr} {c31 c37 c42 c50 c62 c66 : Nat} {lu : List Bool} {lo lg lq ld : List Int} {lf : List Fa} {r0 : Int} {a6 : Option Addr} {c6 : Nat} {L M : List Ho}
    (h : RWs w.heap.size (rows6 n k0 mm a31 c31 a37 c37 a42 c42 a50 c50 a62 c62 a66 c66 lu lo lg lq ld lf ++ M.map drow) X) (ho : X.ownsRow (w.heap.size + 3) 43 6 (.slice a6 L.length c6) M.length (M.flatMap encH))
    (hok : okM m = true) (hn : m.nodes = (n : Int)) (gs : GoodSc w x) (hr0 : r0 = inTo 1 16 x.rounds) (hlu : lu = upsL x.ups.l n) (hlo : lo = rowL x.offs.l n 0 (precM m) 0) (hlg : lg = rowL x.gates.l n 40 60 50) (hlq : lq = rowL x.guards.l n (-(m.win.tdiv 2)) (m.win.tdiv 2) 0)
    (hk0 : k0 = min x.drifts.l.length 1024) (hld : ld = rowL x.drifts.l k0 (-m.drift) m.drift 0) (hlf : lf = (cleanF m x.faults).take mm) (hmm : mm = min (cleanF m x.faults).length 256)
    (hL : L.map Ho.key = (opsT m x.ops).map Ho.key) (hp : M.Perm L) (hu : UpH M) (hst : UpH L → M = L) :
    ∃ y : Sc, encSc y = cells8 r0 (.slice a31 n c31) (.slice a37 n c37) (.slice a42 n c42) (.slice a50 n c50) (.slice a62 k0 c62) (.slice a6 L.length c6) (.slice a66 mm c66) ∧ GoodSc X y ∧ CleanL m x y := by
  have hd := okM_drift hok
  have hw := okM_win hok
  have hb := okM_bd hok
  have hpn : 0 ≤ m.nodes * m.drift ∧ m.nodes * m.drift ≤ 8 * 64 := ⟨Int.mul_nonneg (by omega) (by omega), Int.mul_le_mul (by omega) (by omega) (by omega) (by omega)⟩
  have hpm : precM m = 14 * (m.nodes * m.drift) + 8 := by unfold precM; rw [Int.mul_assoc]
  have hwb : m.win ≤ 1048576 := by
    have := hok
    unfold okM at this
    simp only [Bool.and_eq_true, decide_eq_true_eq] at this
    omega
  have hh : 0 ≤ m.win.tdiv 2 ∧ m.win.tdiv 2 ≤ 1048576 := by rw [Int.tdiv_eq_ediv_of_nonneg hw]; omega
  have hN : m.nodes.toNat = n := by omega
  have lenu : lu.length = n := by rw [hlu]; exact upsL_len _ _
  have leno : lo.length = n := by rw [hlo]; exact rowL_len _ _ _ _ _
  have leng : lg.length = n := by rw [hlg]; exact rowL_len _ _ _ _ _
  have lenq : lq.length = n := by rw [hlq]; exact rowL_len _ _ _ _ _
  have lend : ld.length = k0 := by rw [hld]; exact rowL_len _ _ _ _ _
  have lenf : lf.length = mm := by rw [hlf, List.length_take]; omega
  have ino : ∀ z ∈ lo, I64 z := fun z hz => by rw [hlo] at hz; have := rowL_in (a := 0) (b := precM m) (by omega) z hz; unfold I64; omega
  have ing : ∀ z ∈ lg, I64 z := fun z hz => by rw [hlg] at hz; have := rowL_in (a := 40) (b := 60) (by omega) z hz; unfold I64; omega
  have inq : ∀ z ∈ lq, I64 z := fun z hz => by rw [hlq] at hz; have := rowL_in (a := -(m.win.tdiv 2)) (b := m.win.tdiv 2) (by omega) z hz; unfold I64; omega
  have ind : ∀ z ∈ ld, I64 z := fun z hz => by rw [hld] at hz; have := rowL_in (a := -m.drift) (b := m.drift) (by omega) z hz; unfold I64; omega
  have hML : M.length = L.length := hp.length_eq
  have hLl : L.length ≤ 256 := by
    have := congrArg List.length hL
    simp only [List.length_map] at this
    rw [this]
    exact opsT_len _ _
  have key : ∀ o ∈ M, ∃ p ∈ x.ops, p.key = o.key := fun o ho' => by
    have h1 : o.key ∈ L.map Ho.key := List.mem_map_of_mem (hp.mem_iff.1 ho')
    rw [hL] at h1
    obtain ⟨p, hp', e⟩ := List.mem_map.1 h1
    exact ⟨p, (opsT_mem hp').1, e⟩
  have g0 := h (4, 1, .slice a31 n c31, n, lu.map Value.bool) (by simp [rows6])
  have g1 := h (3, 1, .slice a37 n c37, n, lo.map (Value.int .i64)) (by simp [rows6])
  have g2 := h (3, 1, .slice a42 n c42, n, lg.map (Value.int .i64)) (by simp [rows6])
  have g3 := h (3, 1, .slice a50 n c50, n, lq.map (Value.int .i64)) (by simp [rows6])
  have g4 := h (3, 1, .slice a62 k0 c62, k0, ld.map (Value.int .i64)) (by simp [rows6])
  have g5 := h (39, 7, .slice a66 mm c66, mm, lf.flatMap encF) (by simp [rows6])
  simp only at g0 g1 g2 g3 g4 g5
  have d1 := inTo_in (a := 1) (b := 16) (x := x.rounds) (by omega)
  refine ⟨⟨r0, ⟨a31, c31, lu⟩, ⟨a37, c37, lo⟩, ⟨a42, c42, lg⟩, ⟨a50, c50, lq⟩, ⟨a62, c62, ld⟩, a6, c6, M, a66, c66, lf⟩, ?_, ⟨?_, ?_, ?_, ?_, ?_, ?_, ?_, ?_, ?_⟩, ⟨?_, ?_, ?_, ?_, ?_, ?_, ?_, ?_⟩⟩
  · simp only [encSc, cells8, lenu, leno, leng, lenq, lend, lenf, hML]
  · show I64 r0
    rw [hr0]; unfold I64; omega
  · show Rd encB 1 X (.slice a31 lu.length c31) lu
    rw [lenu]
    exact Rd.of_owns (enc := encB) (fun _ => rfl) (by rw [encB_flat, lenu]; exact g0) (by omega)
  · show Rd (encI .i64) 1 X (.slice a37 lo.length c37) lo ∧ _
    rw [leno]
    exact ⟨Rd.of_owns (encI_len .i64) (by rw [encI_flat, leno]; exact g1) (by omega), ino⟩
  · show Rd (encI .i64) 1 X (.slice a42 lg.length c42) lg ∧ _
    rw [leng]
    exact ⟨Rd.of_owns (encI_len .i64) (by rw [encI_flat, leng]; exact g2) (by omega), ing⟩
  · show Rd (encI .i64) 1 X (.slice a50 lq.length c50) lq ∧ _
    rw [lenq]
    exact ⟨Rd.of_owns (encI_len .i64) (by rw [encI_flat, lenq]; exact g3) (by omega), inq⟩
  · show Rd (encI .i64) 1 X (.slice a62 ld.length c62) ld ∧ _
    rw [lend]
    exact ⟨Rd.of_owns (encI_len .i64) (by rw [encI_flat, lend]; exact g4) (by omega), ind⟩
  · show Rd encH 6 X (.slice a6 M.length c6) M
    rw [hML]
    exact Rd.of_owns encH_len ho (by omega)
  · intro o ho'
    obtain ⟨p, hp', e⟩ := key o ho'
    have gp := gs.opg p hp'
    have ge := h (drow o) (List.mem_append.2 (.inr (List.mem_map_of_mem ho')))
    unfold drow at ge
    simp only at ge
    obtain ⟨on, orr, os, ok, ov, oa, oc, od⟩ := o
    simp only [Ho.key, Hk.mk.injEq] at e
    obtain ⟨e1, e2, e3, e4, e5, e6⟩ := e
    have hlen := gp.d.1.len
    rw [e6] at hlen
    exact ⟨⟨Rd.of_owns (encI_len .u8) (by rw [encI_flat]; exact ge) hlen, by have := gp.d.2; rw [e6] at this; exact this⟩, by have := gp.n; rwa [e1] at this, by have := gp.r; rwa [e2] at this, by have := gp.s; rwa [e3] at this, by have := gp.k; rwa [e4] at this, by have := gp.v; rwa [e5] at this⟩
  · show Rd encF 7 X (.slice a66 lf.length c66) lf
    rw [lenf]
    exact Rd.of_owns encF_len (by rw [lenf]; exact g5) (by omega)
  · exact hr0
  · show lu = _
    rw [hN]; exact hlu
  · show lo = _
    rw [hN]; exact hlo
  · show lg = _
    rw [hN]; exact hlg
  · show lq = _
    rw [hN]; exact hlq
  · show ld = _
    rw [← hk0]; exact hld
  · show lf = _
    rw [hlf, hmm]
    rcases Nat.le_total (cleanF m x.faults).length 256 with h1 | h1
    · rw [Nat.min_eq_left h1, List.take_of_length_le (Nat.le_refl _), List.take_of_length_le h1]
    · rw [Nat.min_eq_right h1]
  · exact ⟨L, hL, hp, hu, hst⟩
end Go.Proofs.Ytkinhhkodaacjaa
