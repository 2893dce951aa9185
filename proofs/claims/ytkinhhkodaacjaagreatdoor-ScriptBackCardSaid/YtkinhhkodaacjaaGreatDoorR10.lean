/- Clean of the empty script. -/
import Derived.Test.YtkinhhkodaacjaaGreatDoorQ1
import Derived.Test.YtkinhhkodaacjaaGreatDoorR9
import Derived.Test.YtkinhhkodaacjaaGreatDoorR3
import Derived.Test.YtkinhhkodaacjaaGreatDoorF0
namespace Go.Proofs.YtkinhhkodaacjaaGreatDoor
open Go.RowKit Go.Shelf
open Md

theorem FL28 : Flat Tryz.prog 25 := ⟨⟨_, Tryz.underlying25, rfl⟩, by kernel_rfl⟩
theorem W30 : Wide Tryz.prog 27 8 := ⟨⟨_, Tryz.underlying27, rfl⟩, by kernel_rfl⟩
theorem run_oneB (w : World) (x : Bool) : (Instr.buildSlice 22 1 #[(0, .bool x)]).run Tryz.prog w = .ok (.slice (some ⟨w.heap.size, 0, none⟩) 1 1) (w.alloc (.cells #[.bool x] 4)) := by
  unfold Instr.buildSlice
  go_simp
  try rfl
theorem exec_alloc30 {w : World} {o : Oper} {a : Act} (ho : o.op = .alloc 27) : (execOp a.eval o).run Tryz.prog w = .ok (.value (.pointer (some ⟨w.heap.size, 0, none⟩))) (w.alloc (.cells zScr.toArray 27)) := by
  have hz : (zeroValue 27).run Tryz.prog w = .ok (.agg zScr.toArray) w := by go_simp; try rfl
  simp only [execOp, ho]
  go_simp
  try rfl
theorem ow_mono {w : World} {base base' : Nat} {e : TypeId} {size : Nat} {v : Value} {n : Nat} {xs : List Value} (h : w.ownsRow base e size v n xs) (hb : base' ≤ base) : w.ownsRow base' e size v n xs :=
  ⟨h.1, h.2.imp id fun ⟨g, cap, cur, hv, hg, r⟩ => ⟨g, cap, cur, hv, Nat.le_trans hb hg, r⟩⟩
theorem tdiv2 {x : Int} (h : I64 x) : IntKind.i64.wrap (x.tdiv 2) = x.tdiv 2 := by
  have h1 := h.lo
  have h2 := h.hi
  apply IntWalk.i64_in
  rcases Int.le_total 0 x with h0 | h0
  · rw [Int.tdiv_eq_ediv_of_nonneg h0]; omega
  · obtain ⟨y, rfl⟩ : ∃ y, x = -y := ⟨-x, by omega⟩
    rw [Int.neg_tdiv, Int.tdiv_eq_ediv_of_nonneg (by omega)]; omega
/-- What the boxes of Clean hold. -/
structure CB (m : Me) (n : Nat) (w X : World) : Prop where
  c0 : X.cell? ⟨w.heap.size, 0, none⟩ = some (.int .i64 (n : Int))
  c4 : X.cell? ⟨w.heap.size, 4, none⟩ = some (.int .i64 m.drift)
  mm : Blk X w.heap.size 38 (encMe m).toArray
  s0 : X.cell? ⟨w.heap.size + 1, 0, none⟩ = some (.int .i64 0)
  s2 : X.cell? ⟨w.heap.size + 1, 2, none⟩ = some (.slice none 0 0)
  s3 : X.cell? ⟨w.heap.size + 1, 3, none⟩ = some (.slice none 0 0)
  s4 : X.cell? ⟨w.heap.size + 1, 4, none⟩ = some (.slice none 0 0)
  s5 : X.cell? ⟨w.heap.size + 1, 5, none⟩ = some (.slice none 0 0)
  s7 : X.cell? ⟨w.heap.size + 1, 7, none⟩ = some (.slice none 0 0)
structure CS (m : Me) (n : Nat) (w X : World) : Prop where
  hn : m.nodes = (n : Int)
  bel : Below w.heap.size w X
  good0 : GoodMe w m
  mm : Blk X w.heap.size 38 (encMe m).toArray
  ss : Blk X (w.heap.size + 1) 27 zScr.toArray
  rr : Blk X (w.heap.size + 2) 27 zScr.toArray
theorem CS.keep {m : Me} {n : Nat} {w X Y : World} (h : CS m n w X) (hb : Below X.heap.size X Y) : CS m n w Y := ⟨h.hn, h.bel.trans (hb.mono h.bel.size), h.good0, h.mm.keep hb, h.ss.keep hb, h.rr.keep hb⟩
theorem CS.good {m : Me} {n : Nat} {w X : World} (h : CS m n w X) : GoodMe X m := h.good0.below h.bel
theorem CS.cb {m : Me} {n : Nat} {w X : World} (h : CS m n w X) : Hid (CB m n w X) := ⟨by rw [h.mm.cell]; simp [encMe, h.hn], by rw [h.mm.cell]; simp [encMe], h.mm, h.ss.cell 0, h.ss.cell 2, h.ss.cell 3, h.ss.cell 4, h.ss.cell 5, h.ss.cell 7⟩
theorem CS.lt {m : Me} {n : Nat} {w X : World} (h : CS m n w X) : w.heap.size + 3 ≤ X.heap.size := h.rr.lt
/-- What the struct under way holds. -/
def MidC (m : Me) (n : Nat) (w : World) (s : Value) (wx : World) : Prop :=
  ∃ g9, s = .pointer (some ⟨g9, 0, none⟩) ∧ ∃ a31 c31 a37 c37 a42 c42 a50 c50 a62 c62 a66 c66, Hid (CS m n w wx) ∧ Hid (wx.ownsRow w.heap.size 3 1 (.slice a42 n c42) n ((rowL [] n 40 60 50).map (Value.int .i64))) ∧
    Hid (Blk wx g9 27 ([.int .i64 1, .slice a31 n c31, .slice a37 n c37, .slice a42 n c42, .slice a50 n c50, .slice a62 0 c62, .slice none 0 0, .slice a66 (cleanF m []).length c66] : List Value).toArray) ∧ Hid (w.heap.size + 3 ≤ g9)
theorem CS.grown {m : Me} {n : Nat} {w X Y : World} {g : Nat} (h : CS m n w X) (hg : X.grownBy Y (some g)) (hl : w.heap.size + 3 ≤ g) : CS m n w Y :=
  ⟨h.hn, h.bel.grown hg h.bel.size (fun k e => by cases e; omega), h.good0, h.mm.kept hg (by simp; omega), h.ss.kept hg (by simp; omega), h.rr.kept hg (by simp; omega)⟩
/-- What Clean gives at the empty script. -/
def Clean0 (m : Me) (w : World) (e : Ending) (w' : World) : Prop :=
  (∃ cs : List Value, e = .returned (.tuple #[.agg cs.toArray, .int .i64 0]) ∧ cs.length = 8 ∧ (∀ u ∈ cs, u.oneCell' = true) ∧ cs[0]? = some (.int .i64 1) ∧ ∃ g, cs[3]? = some g ∧ Rd (encI .i64) 1 w' g (List.replicate m.nodes.toNat 50)) ∧ Below w.heap.size w w'
theorem Clean0.intro {m : Me} {w : World} {n : Nat} (hn : m.nodes = (n : Int)) (cs : List Value) (g : Value) (w' : World) (h1 : cs.length = 8) (h2 : ∀ u ∈ cs, u.oneCell' = true) (h3 : cs[0]? = some (.int .i64 1)) (h4 : cs[3]? = some g) (h5 : w'.ownsRow w.heap.size 3 1 g n ((rowL [] n 40 60 50).map (Value.int .i64))) (hn8 : n ≤ 8) (hb : Below w.heap.size w w') :
    Clean0 m w (.returned (.tuple #[.agg cs.toArray, .int .i64 0])) w' := by
  refine ⟨⟨cs, rfl, h1, h2, h3, g, h4, ?_⟩, hb⟩
  rw [hn, Int.toNat_natCast]
  have : rowL [] n 40 60 50 = List.replicate n 50 := by
    unfold rowL
    rw [List.eq_replicate_iff]
    simp
  rw [this] at h5
  exact Rd.of_owns (e := 3) (base := w.heap.size) (encI_len .i64) (by rw [encI_flat, List.length_replicate]; exact h5) (by simp; omega)
set_option maxRecDepth 100000 in
set_option maxHeartbeats 1600000 in
theorem clean0_any (m : Me) (w : World) (hg : GoodMe w m) (ho : okM m = true) : Calls Tryz.prog 13 #[.agg (encMe m).toArray, .agg zScr.toArray] w (Clean0 m w) := by
  have hd := okM_bd ho
  obtain ⟨n, hn⟩ : ∃ n : Nat, m.nodes = (n : Int) := ⟨m.nodes.toNat, by have := hd.n0; omega⟩
  have hn8 : n ≤ 8 := by have := hd.n1; omega
  have HPR : Hid (∀ X, Hid (CS m n w X) → Calls Tryz.prog 36 #[.agg (encMe m).toArray] X fun e w' => e = .returned (.tuple #[.int .i64 (precM m), .int .i64 0]) ∧ Below X.heap.size X w') := fun X h => by
    have := prec_any m X h.out.good
    rw [if_pos ho] at this
    exact this
  have HPS : Hid (CS m n w (((w.alloc (.cells (encMe m).toArray 38)).alloc (.cells zScr.toArray 27)).alloc (.cells zScr.toArray 27))) := Lib.hid
    ⟨hn, below3 w _ _ _, hg, ((Blk.new' rfl : Blk _ _ _ _).alloc _).alloc _, (Blk.new' (by simp) : Blk _ _ _ _).alloc _, Blk.new' (by simp)⟩
  have HPO := Lib.hid (Clean0.intro (m := m) (w := w) hn)
  generalize Clean0 m w = POST at *
  have hh : IntKind.i64.wrap (m.win.tdiv 2) = m.win.tdiv 2 := tdiv2 hg.2.2.2.2.1
  clear hg ho hd
  go_enter Tryz.func13, Tryz.ntmps13
  go_upto_region 1 with fail
  change Code.wp _ _ _ _ (((w.alloc (.cells (encMe m).toArray 38)).alloc (.cells zScr.toArray 27)).alloc (.cells zScr.toArray 27))
  generalize (((w.alloc (.cells (encMe m).toArray 38)).alloc (.cells zScr.toArray 27)).alloc (.cells zScr.toArray 27)) = W0 at *
  go_wp2_with ((with_reducible show wpList _ _ _ (Oper.mk (some 13) _ _ _ _ _ :: _) _ _); refine wpList_loadW W25 rfl rfl rfl (encMe m) rfl HPS.out.mm.list ?_)
  refine (HPR.out _ HPS).mono ?_
  rintro e W1 ⟨rfl, hb1⟩
  replace HPS := Lib.hid (HPS.out.keep hb1)
  clear hb1 HPR
  have c3 : W1.cell? ⟨w.heap.size, 3, none⟩ = some (.int .i64 m.win) := HPS.out.mm.list0 rfl
  go_upto_region 5 with fail
  clear c3
  go_cut [9] from 24 to 67 (fun s wx => Hid (MidC m n w s wx))
  case first =>
    replace HPS := Lib.hid (HPS.out.keep (Below.refl _ _).drew)
    have HW : w.heap.size ≤ W1.drew.heap.size := HPS.out.bel.size
    have hS := HPS.out.cb
    refine wp_region_held_drew (S := fun X => Hid (CB m n w X)) (by kernel_rfl) hS (fun hHeld => ?_)
    (refine takeW (i := 0) (v := ?_) rfl (by kernel_rfl) (by kernel_rfl) (by kernel_rfl) (fun _ _ _ h => h) (by rfl) (by assumption) ?_ ?_; rotate_left; (intro W hW; (try dsimp only at hW); go_simp; try with_reducible rfl); (try simp only [Act.put, List.setIfInBounds_toArray, List.set_cons_zero, List.set_cons_succ]))
    (refine takeW (i := 1) rfl (by kernel_rfl) (by kernel_rfl) (by kernel_rfl) (fun _ _ _ h => h) (by rfl) (by assumption) (fun W hW => exec_load1 FL3 rfl rfl hW.out.s0) ?_; (try simp only [Act.put, List.setIfInBounds_toArray, List.set_cons_zero, List.set_cons_succ]))
    (refine takeW (i := 2) (v := ?_) rfl (by kernel_rfl) (by kernel_rfl) (by kernel_rfl) (fun _ _ _ h => h) (by rfl) (by assumption) ?_ ?_; rotate_left; (intro W hW; (try dsimp only at hW); go_simp; try with_reducible rfl); (try simp only [Act.put, List.setIfInBounds_toArray, List.set_cons_zero, List.set_cons_succ]))
    (refine takeW (i := 3) (v := ?_) rfl (by kernel_rfl) (by kernel_rfl) (by kernel_rfl) (fun _ _ _ h => h) (by rfl) (by assumption) ?_ ?_; rotate_left; (intro W hW; (try dsimp only at hW); go_simp; try with_reducible rfl); (try simp only [Act.put, List.setIfInBounds_toArray, List.set_cons_zero, List.set_cons_succ]))
    (refine takeW (i := 5) (v := ?_) rfl (by kernel_rfl) (by kernel_rfl) (by kernel_rfl) (fun _ _ _ h => h) (by rfl) (by assumption) ?_ ?_; rotate_left; (intro W hW; (try dsimp only at hW); go_simp; try with_reducible rfl); (try simp only [Act.put, List.setIfInBounds_toArray, List.set_cons_zero, List.set_cons_succ]))
    (refine takeW (i := 6) rfl (by kernel_rfl) (by kernel_rfl) (by kernel_rfl) (fun _ _ _ h => h) (by rfl) (by assumption) (fun W hW => exec_load1 FL3 rfl rfl hW.out.c0) ?_; (try simp only [Act.put, List.setIfInBounds_toArray, List.set_cons_zero, List.set_cons_succ]))
    (refine takeW (i := 8) (v := ?_) rfl (by kernel_rfl) (by kernel_rfl) (by kernel_rfl) (fun _ _ _ h => h) (by rfl) (by assumption) ?_ ?_; rotate_left; (intro W hW; (try dsimp only at hW); go_simp; try with_reducible rfl); (try simp only [Act.put, List.setIfInBounds_toArray, List.set_cons_zero, List.set_cons_succ]))
    (refine takeW (i := 9) rfl (by kernel_rfl) (by kernel_rfl) (by kernel_rfl) (fun _ _ _ h => h) (by rfl) (by assumption) (fun W hW => exec_load1 FL26 rfl rfl hW.out.s2) ?_; (try simp only [Act.put, List.setIfInBounds_toArray, List.set_cons_zero, List.set_cons_succ]))
    (refine takeW (i := 10) (v := ?_) rfl (by kernel_rfl) (by kernel_rfl) (by kernel_rfl) (fun _ _ _ h => h) (by rfl) (by assumption) ?_ ?_; rotate_left; (intro W hW; (try dsimp only at hW); go_simp; try with_reducible rfl); (try simp only [Act.put, List.setIfInBounds_toArray, List.set_cons_zero, List.set_cons_succ]))
    (refine takeW (i := 11) rfl (by kernel_rfl) (by kernel_rfl) (by kernel_rfl) (fun _ _ _ h => h) (by rfl) (by assumption) (fun W hW => exec_load1 FL3 rfl rfl hW.out.c0) ?_; (try simp only [Act.put, List.setIfInBounds_toArray, List.set_cons_zero, List.set_cons_succ]))
    (refine takeW (i := 12) (v := ?_) rfl (by kernel_rfl) (by kernel_rfl) (by kernel_rfl) (fun _ _ _ h => h) (by rfl) (by assumption) ?_ ?_; rotate_left; (intro W hW; (try dsimp only at hW); go_simp; try with_reducible rfl); (try simp only [Act.put, List.setIfInBounds_toArray, List.set_cons_zero, List.set_cons_succ]))
    (refine takeW (i := 14) (v := ?_) rfl (by kernel_rfl) (by kernel_rfl) (by kernel_rfl) (fun _ _ _ h => h) (by rfl) (by assumption) ?_ ?_; rotate_left; (intro W hW; (try dsimp only at hW); go_simp; try with_reducible rfl); (try simp only [Act.put, List.setIfInBounds_toArray, List.set_cons_zero, List.set_cons_succ]))
    (refine takeW (i := 15) rfl (by kernel_rfl) (by kernel_rfl) (by kernel_rfl) (fun _ _ _ h => h) (by rfl) (by assumption) (fun W hW => exec_load1 FL26 rfl rfl hW.out.s3) ?_; (try simp only [Act.put, List.setIfInBounds_toArray, List.set_cons_zero, List.set_cons_succ]))
    (refine takeW (i := 16) (v := ?_) rfl (by kernel_rfl) (by kernel_rfl) (by kernel_rfl) (fun _ _ _ h => h) (by rfl) (by assumption) ?_ ?_; rotate_left; (intro W hW; (try dsimp only at hW); go_simp; try with_reducible rfl); (try simp only [Act.put, List.setIfInBounds_toArray, List.set_cons_zero, List.set_cons_succ]))
    (refine takeW (i := 17) rfl (by kernel_rfl) (by kernel_rfl) (by kernel_rfl) (fun _ _ _ h => h) (by rfl) (by assumption) (fun W hW => exec_load1 FL3 rfl rfl hW.out.c0) ?_; (try simp only [Act.put, List.setIfInBounds_toArray, List.set_cons_zero, List.set_cons_succ]))
    (refine takeW (i := 19) (v := ?_) rfl (by kernel_rfl) (by kernel_rfl) (by kernel_rfl) (fun _ _ _ h => h) (by rfl) (by assumption) ?_ ?_; rotate_left; (intro W hW; (try dsimp only at hW); go_simp; try with_reducible rfl); (try simp only [Act.put, List.setIfInBounds_toArray, List.set_cons_zero, List.set_cons_succ]))
    (refine takeW (i := 20) rfl (by kernel_rfl) (by kernel_rfl) (by kernel_rfl) (fun _ _ _ h => h) (by rfl) (by assumption) (fun W hW => exec_load1 FL26 rfl rfl hW.out.s4) ?_; (try simp only [Act.put, List.setIfInBounds_toArray, List.set_cons_zero, List.set_cons_succ]))
    (refine takeW (i := 21) (v := ?_) rfl (by kernel_rfl) (by kernel_rfl) (by kernel_rfl) (fun _ _ _ h => h) (by rfl) (by assumption) ?_ ?_; rotate_left; (intro W hW; (try dsimp only at hW); go_simp; try with_reducible rfl); (try simp only [Act.put, List.setIfInBounds_toArray, List.set_cons_zero, List.set_cons_succ]))
    (refine takeW (i := 22) rfl (by kernel_rfl) (by kernel_rfl) (by kernel_rfl) (fun _ _ _ h => h) (by rfl) (by assumption) (fun W hW => exec_load1 FL3 rfl rfl hW.out.c0) ?_; (try simp only [Act.put, List.setIfInBounds_toArray, List.set_cons_zero, List.set_cons_succ]))
    (refine takeW (i := 23) (v := ?_) rfl (by kernel_rfl) (by kernel_rfl) (by kernel_rfl) (fun _ _ _ h => h) (by rfl) (by assumption) ?_ ?_; rotate_left; (intro W hW; (try dsimp only at hW); go_simp; try with_reducible rfl); (try simp only [Act.put, List.setIfInBounds_toArray, List.set_cons_zero, List.set_cons_succ]))
    (refine takeW (i := 24) (v := ?_) rfl (by kernel_rfl) (by kernel_rfl) (by kernel_rfl) (fun _ _ _ h => h) (by rfl) (by assumption) ?_ ?_; rotate_left; (intro W hW; (try dsimp only at hW); go_simp; try with_reducible rfl); (try simp only [Act.put, List.setIfInBounds_toArray, List.set_cons_zero, List.set_cons_succ]))
    (refine takeW (i := 25) (v := ?_) rfl (by kernel_rfl) (by kernel_rfl) (by kernel_rfl) (fun _ _ _ h => h) (by rfl) (by assumption) ?_ ?_; rotate_left; (intro W hW; (try dsimp only at hW); go_simp; try with_reducible rfl); (try simp only [Act.put, List.setIfInBounds_toArray, List.set_cons_zero, List.set_cons_succ]))
    (refine takeW (i := 27) (v := ?_) rfl (by kernel_rfl) (by kernel_rfl) (by kernel_rfl) (fun _ _ _ h => h) (by rfl) (by assumption) ?_ ?_; rotate_left; (intro W hW; (try dsimp only at hW); go_simp; try with_reducible rfl); (try simp only [Act.put, List.setIfInBounds_toArray, List.set_cons_zero, List.set_cons_succ]))
    (refine takeW (i := 28) rfl (by kernel_rfl) (by kernel_rfl) (by kernel_rfl) (fun _ _ _ h => h) (by rfl) (by assumption) (fun W hW => exec_load1 FL26 rfl rfl hW.out.s5) ?_; (try simp only [Act.put, List.setIfInBounds_toArray, List.set_cons_zero, List.set_cons_succ]))
    (refine takeW (i := 29) (v := ?_) rfl (by kernel_rfl) (by kernel_rfl) (by kernel_rfl) (fun _ _ _ h => h) (by rfl) (by assumption) ?_ ?_; rotate_left; (intro W hW; (try dsimp only at hW); go_simp; try with_reducible rfl); (try simp only [Act.put, List.setIfInBounds_toArray, List.set_cons_zero, List.set_cons_succ]))
    (refine takeW (i := 30) rfl (by kernel_rfl) (by kernel_rfl) (by kernel_rfl) (fun _ _ _ h => h) (by rfl) (by assumption) (fun W hW => exec_load1 FL26 rfl rfl hW.out.s5) ?_; (try simp only [Act.put, List.setIfInBounds_toArray, List.set_cons_zero, List.set_cons_succ]))
    (refine takeW (i := 31) (v := ?_) rfl (by kernel_rfl) (by kernel_rfl) (by kernel_rfl) (fun _ _ _ h => h) (by rfl) (by assumption) ?_ ?_; rotate_left; (intro W hW; (try dsimp only at hW); go_simp; try with_reducible rfl); (try simp only [Act.put, List.setIfInBounds_toArray, List.set_cons_zero, List.set_cons_succ]))
    (refine takeW (i := 32) (v := ?_) rfl (by kernel_rfl) (by kernel_rfl) (by kernel_rfl) (fun _ _ _ h => h) (by rfl) (by assumption) ?_ ?_; rotate_left; (intro W hW; (try dsimp only at hW); go_simp; try with_reducible rfl); (try simp only [Act.put, List.setIfInBounds_toArray, List.set_cons_zero, List.set_cons_succ]))
    (refine takeW (i := 33) (v := ?_) rfl (by kernel_rfl) (by kernel_rfl) (by kernel_rfl) (fun _ _ _ h => h) (by rfl) (by assumption) ?_ ?_; rotate_left; (intro W hW; (try dsimp only at hW); go_simp; try with_reducible rfl); (try simp only [Act.put, List.setIfInBounds_toArray, List.set_cons_zero, List.set_cons_succ]))
    (refine takeW (i := 34) rfl (by kernel_rfl) (by kernel_rfl) (by kernel_rfl) (fun _ _ _ h => h) (by rfl) (by assumption) (fun W hW => exec_load1 FL3 rfl rfl hW.out.c4) ?_; (try simp only [Act.put, List.setIfInBounds_toArray, List.set_cons_zero, List.set_cons_succ]))
    (refine takeW (i := 35) (v := ?_) rfl (by kernel_rfl) (by kernel_rfl) (by kernel_rfl) (fun _ _ _ h => h) (by rfl) (by assumption) ?_ ?_; rotate_left; (intro W hW; (try dsimp only at hW); go_simp; try with_reducible rfl); (try simp only [Act.put, List.setIfInBounds_toArray, List.set_cons_zero, List.set_cons_succ]))
    (refine takeW (i := 36) (v := ?_) rfl (by kernel_rfl) (by kernel_rfl) (by kernel_rfl) (fun _ _ _ h => h) (by rfl) (by assumption) ?_ ?_; rotate_left; (intro W hW; (try dsimp only at hW); go_simp; try with_reducible rfl); (try simp only [Act.put, List.setIfInBounds_toArray, List.set_cons_zero, List.set_cons_succ]))
    (refine takeW (i := 37) rfl (by kernel_rfl) (by kernel_rfl) (by kernel_rfl) (fun _ _ _ h => h) (by rfl) (by assumption) (fun W hW => exec_load1 FL3 rfl rfl hW.out.c4) ?_; (try simp only [Act.put, List.setIfInBounds_toArray, List.set_cons_zero, List.set_cons_succ]))
    (refine takeW (i := 39) rfl (by kernel_rfl) (by kernel_rfl) (by kernel_rfl) (fun _ _ _ h => h) (by rfl) (by assumption) (fun W hW => exec_loadW W25 rfl rfl (cs := encMe m) rfl hW.out.mm.list) ?_; (try simp only [Act.put, List.setIfInBounds_toArray, List.set_cons_zero, List.set_cons_succ]))
    (refine takeW (i := 40) (v := ?_) rfl (by kernel_rfl) (by kernel_rfl) (by kernel_rfl) (fun _ _ _ h => h) (by rfl) (by assumption) ?_ ?_; rotate_left; (intro W hW; (try dsimp only at hW); go_simp; try with_reducible rfl); (try simp only [Act.put, List.setIfInBounds_toArray, List.set_cons_zero, List.set_cons_succ]))
    (refine takeW (i := 41) rfl (by kernel_rfl) (by kernel_rfl) (by kernel_rfl) (fun _ _ _ h => h) (by rfl) (by assumption) (fun W hW => exec_load1 FL28 rfl rfl hW.out.s7) ?_; (try simp only [Act.put, List.setIfInBounds_toArray, List.set_cons_zero, List.set_cons_succ]))
    obtain ⟨W4, hW4⟩ : ∃ W4, W1.drew.alloc (.cells #[.bool true] 4) = W4 := ⟨_, rfl⟩
    obtain ⟨g4, hg4⟩ : ∃ g4, W1.drew.heap.size = g4 := ⟨_, rfl⟩
    have HA4 : Hid (Blk W4 g4 4 #[.bool true]) := Lib.hid (by rw [← hW4]; exact Blk.new' hg4)
    have HB4 : Hid (Below W1.drew.heap.size W1.drew W4) := Lib.hid (by rw [← hW4]; exact below1 _ _)
    have HX4 := Lib.hid (run_oneB W1.drew true)
    rw [hW4, hg4] at HX4
    clear hW4 hg4
    obtain ⟨W44, hW44⟩ : ∃ W44, W1.drew.alloc (.cells zScr.toArray 27) = W44 := ⟨_, rfl⟩
    obtain ⟨g9, hg9⟩ : ∃ g9, W1.drew.heap.size = g9 := ⟨_, rfl⟩
    have HA9 : Hid (Blk W44 g9 27 zScr.toArray) := Lib.hid (by rw [← hW44]; exact Blk.new' hg9)
    have HB44 : Hid (Below W1.drew.heap.size W1.drew W44) := Lib.hid (by rw [← hW44]; exact below1 _ _)
    have HX44 := Lib.hid (fun (o : Oper) (ac : Act) (h : o.op = .alloc 27) => exec_alloc30 (w := W1.drew) (o := o) (a := ac) h)
    rw [hW44, hg9] at HX44
    have HG9 : Hid (w.heap.size + 3 ≤ g9) := Lib.hid (by rw [← hg9]; exact HPS.out.lt)
    clear hW44 hg9
    refine takeV2 (i := 4) (j := 44) rfl rfl (by kernel_rfl) (by rfl) (by rfl) (exec_run1 HX4.out rfl rfl) ((HPS.out.keep HB4.out).cb) (HX44.out _ _ rfl) ((HPS.out.keep HB44.out).cb) ?_ ?_
    · (try simp only [Act.put, List.setIfInBounds_toArray, List.set_cons_zero, List.set_cons_succ])
      have hHeld : Hid (CB m n w W4) := (HPS.out.keep HB4.out).cb
      have HPS := Lib.hid (HPS.out.keep HB4.out)
      have HW : w.heap.size ≤ W4.heap.size := HPS.out.bel.size
      (try have HA9 := Lib.hid (HA9.out.keep HB4.out))
      (try have HV31 := Lib.hid (ow_below HV31.out HB4.out))
      (try have HV37 := Lib.hid (ow_below HV37.out HB4.out))
      (try have HV42 := Lib.hid (ow_below HV42.out HB4.out))
      (try have HV50 := Lib.hid (ow_below HV50.out HB4.out))
      (try have HV62 := Lib.hid (ow_below HV62.out HB4.out))
      (try have HV66 := Lib.hid (ow_below HV66.out HB4.out))
      clear HB4 HX4
      refine takeC2 (i := 7) (j := 44) rfl rfl (by kernel_rfl) (by rfl) (by rfl) (fun K hK => ?_) (fun K hK => ?_)
      · go_simp
        refine (repB_any (.bool true) g4 1 n W4 (HA4.out.cell 0) rfl (by omega)).mono ?_
        rintro e W7 ⟨⟨v31, rfl, ho⟩, hb⟩
        have HPS := Lib.hid (HPS.out.keep hb)
        (try have HA4 := Lib.hid (HA4.out.keep hb))
        (try have HA9 := Lib.hid (HA9.out.keep hb))
        (try have HV37 := Lib.hid (ow_below HV37.out hb))
        (try have HV42 := Lib.hid (ow_below HV42.out hb))
        (try have HV50 := Lib.hid (ow_below HV50.out hb))
        (try have HV62 := Lib.hid (ow_below HV62.out hb))
        (try have HV66 := Lib.hid (ow_below HV66.out hb))
        have HV31 := Lib.hid (ow_mono ho HW)
        obtain ⟨a31, c31, he31, -⟩ := owns_shape ho
        subst he31
        clear ho
        have HW : w.heap.size ≤ W7.heap.size := HPS.out.bel.size
        clear hb hHeld
        refine hK.out _ _ HPS.out.cb (fun hHeld => ?_)
        clear hK K
        try simp only [Act.put, List.setIfInBounds_toArray, List.set_cons_zero, List.set_cons_succ]
        refine takeC2 (i := 13) (j := 44) rfl rfl (by kernel_rfl) (by rfl) (by rfl) (fun K hK => ?_) (fun K hK => ?_)
        · go_simp
          refine (row_any (.slice none 0 0) [] n _ _ _ W7 (Rd.nil _) (by omega)).mono ?_
          rintro e W13 ⟨⟨v37, rfl, ho⟩, hb⟩
          have HPS := Lib.hid (HPS.out.keep hb)
          (try have HA4 := Lib.hid (HA4.out.keep hb))
          (try have HA9 := Lib.hid (HA9.out.keep hb))
          (try have HV31 := Lib.hid (ow_below HV31.out hb))
          (try have HV42 := Lib.hid (ow_below HV42.out hb))
          (try have HV50 := Lib.hid (ow_below HV50.out hb))
          (try have HV62 := Lib.hid (ow_below HV62.out hb))
          (try have HV66 := Lib.hid (ow_below HV66.out hb))
          have HV37 := Lib.hid (ow_mono ho HW)
          obtain ⟨a37, c37, he37, -⟩ := owns_shape ho
          subst he37
          clear ho
          have HW : w.heap.size ≤ W13.heap.size := HPS.out.bel.size
          clear hb hHeld
          refine hK.out _ _ HPS.out.cb (fun hHeld => ?_)
          clear hK K
          try simp only [Act.put, List.setIfInBounds_toArray, List.set_cons_zero, List.set_cons_succ]
          refine takeC2 (i := 18) (j := 44) rfl rfl (by kernel_rfl) (by rfl) (by rfl) (fun K hK => ?_) (fun K hK => ?_)
          · go_simp
            refine (row_any (.slice none 0 0) [] n _ _ _ W13 (Rd.nil _) (by omega)).mono ?_
            rintro e W18 ⟨⟨v42, rfl, ho⟩, hb⟩
            have HPS := Lib.hid (HPS.out.keep hb)
            (try have HA4 := Lib.hid (HA4.out.keep hb))
            (try have HA9 := Lib.hid (HA9.out.keep hb))
            (try have HV31 := Lib.hid (ow_below HV31.out hb))
            (try have HV37 := Lib.hid (ow_below HV37.out hb))
            (try have HV50 := Lib.hid (ow_below HV50.out hb))
            (try have HV62 := Lib.hid (ow_below HV62.out hb))
            (try have HV66 := Lib.hid (ow_below HV66.out hb))
            have HV42 := Lib.hid (ow_mono ho HW)
            obtain ⟨a42, c42, he42, -⟩ := owns_shape ho
            subst he42
            clear ho
            have HW : w.heap.size ≤ W18.heap.size := HPS.out.bel.size
            clear hb hHeld
            refine hK.out _ _ HPS.out.cb (fun hHeld => ?_)
            clear hK K
            try simp only [Act.put, List.setIfInBounds_toArray, List.set_cons_zero, List.set_cons_succ]
            refine takeC2 (i := 26) (j := 44) rfl rfl (by kernel_rfl) (by rfl) (by rfl) (fun K hK => ?_) (fun K hK => ?_)
            · go_simp
              refine (row_any (.slice none 0 0) [] n _ _ _ W18 (Rd.nil _) (by omega)).mono ?_
              rintro e W26 ⟨⟨v50, rfl, ho⟩, hb⟩
              have HPS := Lib.hid (HPS.out.keep hb)
              (try have HA4 := Lib.hid (HA4.out.keep hb))
              (try have HA9 := Lib.hid (HA9.out.keep hb))
              (try have HV31 := Lib.hid (ow_below HV31.out hb))
              (try have HV37 := Lib.hid (ow_below HV37.out hb))
              (try have HV42 := Lib.hid (ow_below HV42.out hb))
              (try have HV62 := Lib.hid (ow_below HV62.out hb))
              (try have HV66 := Lib.hid (ow_below HV66.out hb))
              have HV50 := Lib.hid (ow_mono ho HW)
              obtain ⟨a50, c50, he50, -⟩ := owns_shape ho
              subst he50
              clear ho
              have HW : w.heap.size ≤ W26.heap.size := HPS.out.bel.size
              clear hb hHeld
              refine hK.out _ _ HPS.out.cb (fun hHeld => ?_)
              clear hK K
              try simp only [Act.put, List.setIfInBounds_toArray, List.set_cons_zero, List.set_cons_succ]
              refine takeC2 (i := 38) (j := 44) rfl rfl (by kernel_rfl) (by rfl) (by rfl) (fun K hK => ?_) (fun K hK => ?_)
              · go_simp
                refine (row_any (.slice none 0 0) [] 0 _ _ _ W26 (Rd.nil _) (by omega)).mono ?_
                rintro e W38 ⟨⟨v62, rfl, ho⟩, hb⟩
                have HPS := Lib.hid (HPS.out.keep hb)
                (try have HA4 := Lib.hid (HA4.out.keep hb))
                (try have HA9 := Lib.hid (HA9.out.keep hb))
                (try have HV31 := Lib.hid (ow_below HV31.out hb))
                (try have HV37 := Lib.hid (ow_below HV37.out hb))
                (try have HV42 := Lib.hid (ow_below HV42.out hb))
                (try have HV50 := Lib.hid (ow_below HV50.out hb))
                (try have HV66 := Lib.hid (ow_below HV66.out hb))
                have HV62 := Lib.hid (ow_mono ho HW)
                obtain ⟨a62, c62, he62, -⟩ := owns_shape ho
                subst he62
                clear ho
                have HW : w.heap.size ≤ W38.heap.size := HPS.out.bel.size
                clear hb hHeld
                refine hK.out _ _ HPS.out.cb (fun hHeld => ?_)
                clear hK K
                try simp only [Act.put, List.setIfInBounds_toArray, List.set_cons_zero, List.set_cons_succ]
                refine takeC2 (i := 42) (j := 44) rfl rfl (by kernel_rfl) (by rfl) (by rfl) (fun K hK => ?_) (fun K hK => ?_)
                · go_simp
                  refine (fclean0_any m W38 HPS.out.good).mono ?_
                  rintro e W42 ⟨⟨v66, rfl, ho⟩, hb⟩
                  have HPS := Lib.hid (HPS.out.keep hb)
                  (try have HA4 := Lib.hid (HA4.out.keep hb))
                  (try have HA9 := Lib.hid (HA9.out.keep hb))
                  (try have HV31 := Lib.hid (ow_below HV31.out hb))
                  (try have HV37 := Lib.hid (ow_below HV37.out hb))
                  (try have HV42 := Lib.hid (ow_below HV42.out hb))
                  (try have HV50 := Lib.hid (ow_below HV50.out hb))
                  (try have HV62 := Lib.hid (ow_below HV62.out hb))
                  have HV66 := Lib.hid (ow_mono ho HW)
                  obtain ⟨a66, c66, he66, -⟩ := owns_shape ho
                  subst he66
                  clear ho
                  have HW : w.heap.size ≤ W42.heap.size := HPS.out.bel.size
                  clear hb hHeld
                  refine hK.out _ _ HPS.out.cb (fun hHeld => ?_)
                  clear hK K
                  try simp only [Act.put, List.setIfInBounds_toArray, List.set_cons_zero, List.set_cons_succ]
                  (refine takeW (i := 43) (v := ?_) rfl (by kernel_rfl) (by kernel_rfl) (by kernel_rfl) (fun _ _ _ h => h) (by rfl) (by assumption) ?_ ?_; rotate_left; (intro W hW; (try dsimp only at hW); go_simp; try with_reducible rfl); (try simp only [Act.put, List.setIfInBounds_toArray, List.set_cons_zero, List.set_cons_succ]))
                  obtain ⟨W44, hW44⟩ : ∃ W44, W42.alloc (.cells zScr.toArray 27) = W44 := ⟨_, rfl⟩
                  obtain ⟨g9, hg9⟩ : ∃ g9, W42.heap.size = g9 := ⟨_, rfl⟩
                  have HA9 : Hid (Blk W44 g9 27 zScr.toArray) := Lib.hid (by rw [← hW44]; exact Blk.new' hg9)
                  have HB44 : Hid (Below W42.heap.size W42 W44) := Lib.hid (by rw [← hW44]; exact below1 _ _)
                  have HX44 := Lib.hid (fun (o : Oper) (ac : Act) (h : o.op = .alloc 27) => exec_alloc30 (w := W42) (o := o) (a := ac) h)
                  rw [hW44, hg9] at HX44
                  have HG9 : Hid (w.heap.size + 3 ≤ g9) := Lib.hid (by rw [← hg9]; exact HPS.out.lt)
                  clear hW44 hg9
                  refine takeV (i := 44) rfl (by kernel_rfl) (by rfl) (HX44.out _ _ rfl) ((HPS.out.keep HB44.out).cb) ?_
                  (try simp only [Act.put, List.setIfInBounds_toArray, List.set_cons_zero, List.set_cons_succ])
                  have hHeld : Hid (CB m n w W44) := (HPS.out.keep HB44.out).cb
                  have HPS := Lib.hid (HPS.out.keep HB44.out)
                  have HW : w.heap.size ≤ W44.heap.size := HPS.out.bel.size
                  (try have HA4 := Lib.hid (HA4.out.keep HB44.out))
                  (try have HV31 := Lib.hid (ow_below HV31.out HB44.out))
                  (try have HV37 := Lib.hid (ow_below HV37.out HB44.out))
                  (try have HV42 := Lib.hid (ow_below HV42.out HB44.out))
                  (try have HV50 := Lib.hid (ow_below HV50.out HB44.out))
                  (try have HV62 := Lib.hid (ow_below HV62.out HB44.out))
                  (try have HV66 := Lib.hid (ow_below HV66.out HB44.out))
                  clear HB44 HX44
                  obtain ⟨W45, hW45⟩ : ∃ W45, W44.setRow g9 (putAt zScr 0 [.int .i64 1, .slice a31 n c31, .slice a37 n c37, .slice a42 n c42, .slice a50 n c50, .slice a62 0 c62, .slice none 0 0, .slice a66 (cleanF m []).length c66]).toArray = W45 := ⟨_, rfl⟩
                  have HT9 : Hid (Blk W45 g9 27 ([.int .i64 1, .slice a31 n c31, .slice a37 n c37, .slice a42 n c42, .slice a50 n c50, .slice a62 0 c62, .slice none 0 0, .slice a66 (cleanF m []).length c66]).toArray) := Lib.hid (by rw [← hW45]; exact HA9.out.part)
                  have HG45 : Hid (W44.grownBy W45 (some g9)) := Lib.hid (by rw [← hW45]; exact grownRow _ _ _)
                  have HX45 := Lib.hid (fun (o : Oper) (ac : Act) (x y : Operand) (ho : o.op = .store 27 x y) (hx : ac.eval x = .pointer (some ⟨g9, 0, none⟩)) (hy : ac.eval y = .agg ([.int .i64 1, .slice a31 n c31, .slice a37 n c37, .slice a42 n c42, .slice a50 n c50, .slice a62 0 c62, .slice none 0 0, .slice a66 (cleanF m []).length c66]).toArray) => exec_storePart (P := Tryz.prog) W30 ho hx hy rfl (by simp [Value.oneCell']) HA9.out (by decide))
                  rw [hW45] at HX45
                  clear hW45
                  refine takeVs (i := 45) rfl (by kernel_rfl) (by rfl) (HX45.out _ _ _ _ rfl rfl rfl) ((HPS.out.grown HG45.out HG9.out).cb) ?_
                  have hHeld : Hid (CB m n w W45) := (HPS.out.grown HG45.out HG9.out).cb
                  have HPS := Lib.hid (HPS.out.grown HG45.out HG9.out)
                  have HV42 := Lib.hid (HV42.out.kept HG45.out (.inr (own_blk_ne HV42.out HA9.out (by decide))))
                  clear HV31 HV37 HV50 HV62 HV66 HA4 HA9 HG45 HX45
                  refine wpAnyH_done (by kernel_rfl) ?_ _
                  clear hHeld
                  go_wp2_with fail
                  go_meet
                  exact ⟨_, rfl, a31, c31, a37, c37, a42, c42, a50, c50, a62, c62, a66, c66, HPS, HV42, HT9, HG9⟩
                · obtain ⟨W44, hW44⟩ : ∃ W44, W38.alloc (.cells zScr.toArray 27) = W44 := ⟨_, rfl⟩
                  obtain ⟨g9, hg9⟩ : ∃ g9, W38.heap.size = g9 := ⟨_, rfl⟩
                  have HA9 : Hid (Blk W44 g9 27 zScr.toArray) := Lib.hid (by rw [← hW44]; exact Blk.new' hg9)
                  have HB44 : Hid (Below W38.heap.size W38 W44) := Lib.hid (by rw [← hW44]; exact below1 _ _)
                  have HX44 := Lib.hid (fun (o : Oper) (ac : Act) (h : o.op = .alloc 27) => exec_alloc30 (w := W38) (o := o) (a := ac) h)
                  rw [hW44, hg9] at HX44
                  have HG9 : Hid (w.heap.size + 3 ≤ g9) := Lib.hid (by rw [← hg9]; exact HPS.out.lt)
                  clear hW44 hg9
                  unfold Oper.wp
                  rw [HX44.out _ _ rfl]
                  refine hK.out _ _ ((HPS.out.keep HB44.out).cb) (fun hHeld => ?_)
                  clear hK K
                  (try simp only [Act.put, List.setIfInBounds_toArray, List.set_cons_zero, List.set_cons_succ])
                  have HPS := Lib.hid (HPS.out.keep HB44.out)
                  have HW : w.heap.size ≤ W44.heap.size := HPS.out.bel.size
                  (try have HA4 := Lib.hid (HA4.out.keep HB44.out))
                  (try have HV31 := Lib.hid (ow_below HV31.out HB44.out))
                  (try have HV37 := Lib.hid (ow_below HV37.out HB44.out))
                  (try have HV42 := Lib.hid (ow_below HV42.out HB44.out))
                  (try have HV50 := Lib.hid (ow_below HV50.out HB44.out))
                  (try have HV62 := Lib.hid (ow_below HV62.out HB44.out))
                  (try have HV66 := Lib.hid (ow_below HV66.out HB44.out))
                  clear HB44 HX44
                  refine takeC (i := 42) rfl (by kernel_rfl) (by rfl) (fun K hK => ?_)
                  go_simp
                  refine (fclean0_any m W44 HPS.out.good).mono ?_
                  rintro e W42 ⟨⟨v66, rfl, ho⟩, hb⟩
                  have HPS := Lib.hid (HPS.out.keep hb)
                  (try have HA4 := Lib.hid (HA4.out.keep hb))
                  (try have HA9 := Lib.hid (HA9.out.keep hb))
                  (try have HV31 := Lib.hid (ow_below HV31.out hb))
                  (try have HV37 := Lib.hid (ow_below HV37.out hb))
                  (try have HV42 := Lib.hid (ow_below HV42.out hb))
                  (try have HV50 := Lib.hid (ow_below HV50.out hb))
                  (try have HV62 := Lib.hid (ow_below HV62.out hb))
                  have HV66 := Lib.hid (ow_mono ho HW)
                  obtain ⟨a66, c66, he66, -⟩ := owns_shape ho
                  subst he66
                  clear ho
                  have HW : w.heap.size ≤ W42.heap.size := HPS.out.bel.size
                  clear hb hHeld
                  refine hK.out _ _ HPS.out.cb (fun hHeld => ?_)
                  clear hK K
                  try simp only [Act.put, List.setIfInBounds_toArray, List.set_cons_zero, List.set_cons_succ]
                  (refine takeW (i := 43) (v := ?_) rfl (by kernel_rfl) (by kernel_rfl) (by kernel_rfl) (fun _ _ _ h => h) (by rfl) (by assumption) ?_ ?_; rotate_left; (intro W hW; (try dsimp only at hW); go_simp; try with_reducible rfl); (try simp only [Act.put, List.setIfInBounds_toArray, List.set_cons_zero, List.set_cons_succ]))
                  obtain ⟨W45, hW45⟩ : ∃ W45, W42.setRow g9 (putAt zScr 0 [.int .i64 1, .slice a31 n c31, .slice a37 n c37, .slice a42 n c42, .slice a50 n c50, .slice a62 0 c62, .slice none 0 0, .slice a66 (cleanF m []).length c66]).toArray = W45 := ⟨_, rfl⟩
                  have HT9 : Hid (Blk W45 g9 27 ([.int .i64 1, .slice a31 n c31, .slice a37 n c37, .slice a42 n c42, .slice a50 n c50, .slice a62 0 c62, .slice none 0 0, .slice a66 (cleanF m []).length c66]).toArray) := Lib.hid (by rw [← hW45]; exact HA9.out.part)
                  have HG45 : Hid (W42.grownBy W45 (some g9)) := Lib.hid (by rw [← hW45]; exact grownRow _ _ _)
                  have HX45 := Lib.hid (fun (o : Oper) (ac : Act) (x y : Operand) (ho : o.op = .store 27 x y) (hx : ac.eval x = .pointer (some ⟨g9, 0, none⟩)) (hy : ac.eval y = .agg ([.int .i64 1, .slice a31 n c31, .slice a37 n c37, .slice a42 n c42, .slice a50 n c50, .slice a62 0 c62, .slice none 0 0, .slice a66 (cleanF m []).length c66]).toArray) => exec_storePart (P := Tryz.prog) W30 ho hx hy rfl (by simp [Value.oneCell']) HA9.out (by decide))
                  rw [hW45] at HX45
                  clear hW45
                  refine takeVs (i := 45) rfl (by kernel_rfl) (by rfl) (HX45.out _ _ _ _ rfl rfl rfl) ((HPS.out.grown HG45.out HG9.out).cb) ?_
                  have hHeld : Hid (CB m n w W45) := (HPS.out.grown HG45.out HG9.out).cb
                  have HPS := Lib.hid (HPS.out.grown HG45.out HG9.out)
                  have HV42 := Lib.hid (HV42.out.kept HG45.out (.inr (own_blk_ne HV42.out HA9.out (by decide))))
                  clear HV31 HV37 HV50 HV62 HV66 HA4 HA9 HG45 HX45
                  refine wpAnyH_done (by kernel_rfl) ?_ _
                  clear hHeld
                  go_wp2_with fail
                  go_meet
                  exact ⟨_, rfl, a31, c31, a37, c37, a42, c42, a50, c50, a62, c62, a66, c66, HPS, HV42, HT9, HG9⟩
              · obtain ⟨W44, hW44⟩ : ∃ W44, W26.alloc (.cells zScr.toArray 27) = W44 := ⟨_, rfl⟩
                obtain ⟨g9, hg9⟩ : ∃ g9, W26.heap.size = g9 := ⟨_, rfl⟩
                have HA9 : Hid (Blk W44 g9 27 zScr.toArray) := Lib.hid (by rw [← hW44]; exact Blk.new' hg9)
                have HB44 : Hid (Below W26.heap.size W26 W44) := Lib.hid (by rw [← hW44]; exact below1 _ _)
                have HX44 := Lib.hid (fun (o : Oper) (ac : Act) (h : o.op = .alloc 27) => exec_alloc30 (w := W26) (o := o) (a := ac) h)
                rw [hW44, hg9] at HX44
                have HG9 : Hid (w.heap.size + 3 ≤ g9) := Lib.hid (by rw [← hg9]; exact HPS.out.lt)
                clear hW44 hg9
                unfold Oper.wp
                rw [HX44.out _ _ rfl]
                refine hK.out _ _ ((HPS.out.keep HB44.out).cb) (fun hHeld => ?_)
                clear hK K
                (try simp only [Act.put, List.setIfInBounds_toArray, List.set_cons_zero, List.set_cons_succ])
                have HPS := Lib.hid (HPS.out.keep HB44.out)
                have HW : w.heap.size ≤ W44.heap.size := HPS.out.bel.size
                (try have HA4 := Lib.hid (HA4.out.keep HB44.out))
                (try have HV31 := Lib.hid (ow_below HV31.out HB44.out))
                (try have HV37 := Lib.hid (ow_below HV37.out HB44.out))
                (try have HV42 := Lib.hid (ow_below HV42.out HB44.out))
                (try have HV50 := Lib.hid (ow_below HV50.out HB44.out))
                (try have HV62 := Lib.hid (ow_below HV62.out HB44.out))
                (try have HV66 := Lib.hid (ow_below HV66.out HB44.out))
                clear HB44 HX44
                refine takeC (i := 38) rfl (by kernel_rfl) (by rfl) (fun K hK => ?_)
                go_simp
                refine (row_any (.slice none 0 0) [] 0 _ _ _ W44 (Rd.nil _) (by omega)).mono ?_
                rintro e W38 ⟨⟨v62, rfl, ho⟩, hb⟩
                have HPS := Lib.hid (HPS.out.keep hb)
                (try have HA4 := Lib.hid (HA4.out.keep hb))
                (try have HA9 := Lib.hid (HA9.out.keep hb))
                (try have HV31 := Lib.hid (ow_below HV31.out hb))
                (try have HV37 := Lib.hid (ow_below HV37.out hb))
                (try have HV42 := Lib.hid (ow_below HV42.out hb))
                (try have HV50 := Lib.hid (ow_below HV50.out hb))
                (try have HV66 := Lib.hid (ow_below HV66.out hb))
                have HV62 := Lib.hid (ow_mono ho HW)
                obtain ⟨a62, c62, he62, -⟩ := owns_shape ho
                subst he62
                clear ho
                have HW : w.heap.size ≤ W38.heap.size := HPS.out.bel.size
                clear hb hHeld
                refine hK.out _ _ HPS.out.cb (fun hHeld => ?_)
                clear hK K
                try simp only [Act.put, List.setIfInBounds_toArray, List.set_cons_zero, List.set_cons_succ]
                refine takeC (i := 42) rfl (by kernel_rfl) (by rfl) (fun K hK => ?_)
                go_simp
                refine (fclean0_any m W38 HPS.out.good).mono ?_
                rintro e W42 ⟨⟨v66, rfl, ho⟩, hb⟩
                have HPS := Lib.hid (HPS.out.keep hb)
                (try have HA4 := Lib.hid (HA4.out.keep hb))
                (try have HA9 := Lib.hid (HA9.out.keep hb))
                (try have HV31 := Lib.hid (ow_below HV31.out hb))
                (try have HV37 := Lib.hid (ow_below HV37.out hb))
                (try have HV42 := Lib.hid (ow_below HV42.out hb))
                (try have HV50 := Lib.hid (ow_below HV50.out hb))
                (try have HV62 := Lib.hid (ow_below HV62.out hb))
                have HV66 := Lib.hid (ow_mono ho HW)
                obtain ⟨a66, c66, he66, -⟩ := owns_shape ho
                subst he66
                clear ho
                have HW : w.heap.size ≤ W42.heap.size := HPS.out.bel.size
                clear hb hHeld
                refine hK.out _ _ HPS.out.cb (fun hHeld => ?_)
                clear hK K
                try simp only [Act.put, List.setIfInBounds_toArray, List.set_cons_zero, List.set_cons_succ]
                (refine takeW (i := 43) (v := ?_) rfl (by kernel_rfl) (by kernel_rfl) (by kernel_rfl) (fun _ _ _ h => h) (by rfl) (by assumption) ?_ ?_; rotate_left; (intro W hW; (try dsimp only at hW); go_simp; try with_reducible rfl); (try simp only [Act.put, List.setIfInBounds_toArray, List.set_cons_zero, List.set_cons_succ]))
                obtain ⟨W45, hW45⟩ : ∃ W45, W42.setRow g9 (putAt zScr 0 [.int .i64 1, .slice a31 n c31, .slice a37 n c37, .slice a42 n c42, .slice a50 n c50, .slice a62 0 c62, .slice none 0 0, .slice a66 (cleanF m []).length c66]).toArray = W45 := ⟨_, rfl⟩
                have HT9 : Hid (Blk W45 g9 27 ([.int .i64 1, .slice a31 n c31, .slice a37 n c37, .slice a42 n c42, .slice a50 n c50, .slice a62 0 c62, .slice none 0 0, .slice a66 (cleanF m []).length c66]).toArray) := Lib.hid (by rw [← hW45]; exact HA9.out.part)
                have HG45 : Hid (W42.grownBy W45 (some g9)) := Lib.hid (by rw [← hW45]; exact grownRow _ _ _)
                have HX45 := Lib.hid (fun (o : Oper) (ac : Act) (x y : Operand) (ho : o.op = .store 27 x y) (hx : ac.eval x = .pointer (some ⟨g9, 0, none⟩)) (hy : ac.eval y = .agg ([.int .i64 1, .slice a31 n c31, .slice a37 n c37, .slice a42 n c42, .slice a50 n c50, .slice a62 0 c62, .slice none 0 0, .slice a66 (cleanF m []).length c66]).toArray) => exec_storePart (P := Tryz.prog) W30 ho hx hy rfl (by simp [Value.oneCell']) HA9.out (by decide))
                rw [hW45] at HX45
                clear hW45
                refine takeVs (i := 45) rfl (by kernel_rfl) (by rfl) (HX45.out _ _ _ _ rfl rfl rfl) ((HPS.out.grown HG45.out HG9.out).cb) ?_
                have hHeld : Hid (CB m n w W45) := (HPS.out.grown HG45.out HG9.out).cb
                have HPS := Lib.hid (HPS.out.grown HG45.out HG9.out)
                have HV42 := Lib.hid (HV42.out.kept HG45.out (.inr (own_blk_ne HV42.out HA9.out (by decide))))
                clear HV31 HV37 HV50 HV62 HV66 HA4 HA9 HG45 HX45
                refine wpAnyH_done (by kernel_rfl) ?_ _
                clear hHeld
                go_wp2_with fail
                go_meet
                exact ⟨_, rfl, a31, c31, a37, c37, a42, c42, a50, c50, a62, c62, a66, c66, HPS, HV42, HT9, HG9⟩
            · obtain ⟨W44, hW44⟩ : ∃ W44, W18.alloc (.cells zScr.toArray 27) = W44 := ⟨_, rfl⟩
              obtain ⟨g9, hg9⟩ : ∃ g9, W18.heap.size = g9 := ⟨_, rfl⟩
              have HA9 : Hid (Blk W44 g9 27 zScr.toArray) := Lib.hid (by rw [← hW44]; exact Blk.new' hg9)
              have HB44 : Hid (Below W18.heap.size W18 W44) := Lib.hid (by rw [← hW44]; exact below1 _ _)
              have HX44 := Lib.hid (fun (o : Oper) (ac : Act) (h : o.op = .alloc 27) => exec_alloc30 (w := W18) (o := o) (a := ac) h)
              rw [hW44, hg9] at HX44
              have HG9 : Hid (w.heap.size + 3 ≤ g9) := Lib.hid (by rw [← hg9]; exact HPS.out.lt)
              clear hW44 hg9
              unfold Oper.wp
              rw [HX44.out _ _ rfl]
              refine hK.out _ _ ((HPS.out.keep HB44.out).cb) (fun hHeld => ?_)
              clear hK K
              (try simp only [Act.put, List.setIfInBounds_toArray, List.set_cons_zero, List.set_cons_succ])
              have HPS := Lib.hid (HPS.out.keep HB44.out)
              have HW : w.heap.size ≤ W44.heap.size := HPS.out.bel.size
              (try have HA4 := Lib.hid (HA4.out.keep HB44.out))
              (try have HV31 := Lib.hid (ow_below HV31.out HB44.out))
              (try have HV37 := Lib.hid (ow_below HV37.out HB44.out))
              (try have HV42 := Lib.hid (ow_below HV42.out HB44.out))
              (try have HV50 := Lib.hid (ow_below HV50.out HB44.out))
              (try have HV62 := Lib.hid (ow_below HV62.out HB44.out))
              (try have HV66 := Lib.hid (ow_below HV66.out HB44.out))
              clear HB44 HX44
              refine takeC (i := 26) rfl (by kernel_rfl) (by rfl) (fun K hK => ?_)
              go_simp
              refine (row_any (.slice none 0 0) [] n _ _ _ W44 (Rd.nil _) (by omega)).mono ?_
              rintro e W26 ⟨⟨v50, rfl, ho⟩, hb⟩
              have HPS := Lib.hid (HPS.out.keep hb)
              (try have HA4 := Lib.hid (HA4.out.keep hb))
              (try have HA9 := Lib.hid (HA9.out.keep hb))
              (try have HV31 := Lib.hid (ow_below HV31.out hb))
              (try have HV37 := Lib.hid (ow_below HV37.out hb))
              (try have HV42 := Lib.hid (ow_below HV42.out hb))
              (try have HV62 := Lib.hid (ow_below HV62.out hb))
              (try have HV66 := Lib.hid (ow_below HV66.out hb))
              have HV50 := Lib.hid (ow_mono ho HW)
              obtain ⟨a50, c50, he50, -⟩ := owns_shape ho
              subst he50
              clear ho
              have HW : w.heap.size ≤ W26.heap.size := HPS.out.bel.size
              clear hb hHeld
              refine hK.out _ _ HPS.out.cb (fun hHeld => ?_)
              clear hK K
              try simp only [Act.put, List.setIfInBounds_toArray, List.set_cons_zero, List.set_cons_succ]
              refine takeC (i := 38) rfl (by kernel_rfl) (by rfl) (fun K hK => ?_)
              go_simp
              refine (row_any (.slice none 0 0) [] 0 _ _ _ W26 (Rd.nil _) (by omega)).mono ?_
              rintro e W38 ⟨⟨v62, rfl, ho⟩, hb⟩
              have HPS := Lib.hid (HPS.out.keep hb)
              (try have HA4 := Lib.hid (HA4.out.keep hb))
              (try have HA9 := Lib.hid (HA9.out.keep hb))
              (try have HV31 := Lib.hid (ow_below HV31.out hb))
              (try have HV37 := Lib.hid (ow_below HV37.out hb))
              (try have HV42 := Lib.hid (ow_below HV42.out hb))
              (try have HV50 := Lib.hid (ow_below HV50.out hb))
              (try have HV66 := Lib.hid (ow_below HV66.out hb))
              have HV62 := Lib.hid (ow_mono ho HW)
              obtain ⟨a62, c62, he62, -⟩ := owns_shape ho
              subst he62
              clear ho
              have HW : w.heap.size ≤ W38.heap.size := HPS.out.bel.size
              clear hb hHeld
              refine hK.out _ _ HPS.out.cb (fun hHeld => ?_)
              clear hK K
              try simp only [Act.put, List.setIfInBounds_toArray, List.set_cons_zero, List.set_cons_succ]
              refine takeC (i := 42) rfl (by kernel_rfl) (by rfl) (fun K hK => ?_)
              go_simp
              refine (fclean0_any m W38 HPS.out.good).mono ?_
              rintro e W42 ⟨⟨v66, rfl, ho⟩, hb⟩
              have HPS := Lib.hid (HPS.out.keep hb)
              (try have HA4 := Lib.hid (HA4.out.keep hb))
              (try have HA9 := Lib.hid (HA9.out.keep hb))
              (try have HV31 := Lib.hid (ow_below HV31.out hb))
              (try have HV37 := Lib.hid (ow_below HV37.out hb))
              (try have HV42 := Lib.hid (ow_below HV42.out hb))
              (try have HV50 := Lib.hid (ow_below HV50.out hb))
              (try have HV62 := Lib.hid (ow_below HV62.out hb))
              have HV66 := Lib.hid (ow_mono ho HW)
              obtain ⟨a66, c66, he66, -⟩ := owns_shape ho
              subst he66
              clear ho
              have HW : w.heap.size ≤ W42.heap.size := HPS.out.bel.size
              clear hb hHeld
              refine hK.out _ _ HPS.out.cb (fun hHeld => ?_)
              clear hK K
              try simp only [Act.put, List.setIfInBounds_toArray, List.set_cons_zero, List.set_cons_succ]
              (refine takeW (i := 43) (v := ?_) rfl (by kernel_rfl) (by kernel_rfl) (by kernel_rfl) (fun _ _ _ h => h) (by rfl) (by assumption) ?_ ?_; rotate_left; (intro W hW; (try dsimp only at hW); go_simp; try with_reducible rfl); (try simp only [Act.put, List.setIfInBounds_toArray, List.set_cons_zero, List.set_cons_succ]))
              obtain ⟨W45, hW45⟩ : ∃ W45, W42.setRow g9 (putAt zScr 0 [.int .i64 1, .slice a31 n c31, .slice a37 n c37, .slice a42 n c42, .slice a50 n c50, .slice a62 0 c62, .slice none 0 0, .slice a66 (cleanF m []).length c66]).toArray = W45 := ⟨_, rfl⟩
              have HT9 : Hid (Blk W45 g9 27 ([.int .i64 1, .slice a31 n c31, .slice a37 n c37, .slice a42 n c42, .slice a50 n c50, .slice a62 0 c62, .slice none 0 0, .slice a66 (cleanF m []).length c66]).toArray) := Lib.hid (by rw [← hW45]; exact HA9.out.part)
              have HG45 : Hid (W42.grownBy W45 (some g9)) := Lib.hid (by rw [← hW45]; exact grownRow _ _ _)
              have HX45 := Lib.hid (fun (o : Oper) (ac : Act) (x y : Operand) (ho : o.op = .store 27 x y) (hx : ac.eval x = .pointer (some ⟨g9, 0, none⟩)) (hy : ac.eval y = .agg ([.int .i64 1, .slice a31 n c31, .slice a37 n c37, .slice a42 n c42, .slice a50 n c50, .slice a62 0 c62, .slice none 0 0, .slice a66 (cleanF m []).length c66]).toArray) => exec_storePart (P := Tryz.prog) W30 ho hx hy rfl (by simp [Value.oneCell']) HA9.out (by decide))
              rw [hW45] at HX45
              clear hW45
              refine takeVs (i := 45) rfl (by kernel_rfl) (by rfl) (HX45.out _ _ _ _ rfl rfl rfl) ((HPS.out.grown HG45.out HG9.out).cb) ?_
              have hHeld : Hid (CB m n w W45) := (HPS.out.grown HG45.out HG9.out).cb
              have HPS := Lib.hid (HPS.out.grown HG45.out HG9.out)
              have HV42 := Lib.hid (HV42.out.kept HG45.out (.inr (own_blk_ne HV42.out HA9.out (by decide))))
              clear HV31 HV37 HV50 HV62 HV66 HA4 HA9 HG45 HX45
              refine wpAnyH_done (by kernel_rfl) ?_ _
              clear hHeld
              go_wp2_with fail
              go_meet
              exact ⟨_, rfl, a31, c31, a37, c37, a42, c42, a50, c50, a62, c62, a66, c66, HPS, HV42, HT9, HG9⟩
          · obtain ⟨W44, hW44⟩ : ∃ W44, W13.alloc (.cells zScr.toArray 27) = W44 := ⟨_, rfl⟩
            obtain ⟨g9, hg9⟩ : ∃ g9, W13.heap.size = g9 := ⟨_, rfl⟩
            have HA9 : Hid (Blk W44 g9 27 zScr.toArray) := Lib.hid (by rw [← hW44]; exact Blk.new' hg9)
            have HB44 : Hid (Below W13.heap.size W13 W44) := Lib.hid (by rw [← hW44]; exact below1 _ _)
            have HX44 := Lib.hid (fun (o : Oper) (ac : Act) (h : o.op = .alloc 27) => exec_alloc30 (w := W13) (o := o) (a := ac) h)
            rw [hW44, hg9] at HX44
            have HG9 : Hid (w.heap.size + 3 ≤ g9) := Lib.hid (by rw [← hg9]; exact HPS.out.lt)
            clear hW44 hg9
            unfold Oper.wp
            rw [HX44.out _ _ rfl]
            refine hK.out _ _ ((HPS.out.keep HB44.out).cb) (fun hHeld => ?_)
            clear hK K
            (try simp only [Act.put, List.setIfInBounds_toArray, List.set_cons_zero, List.set_cons_succ])
            have HPS := Lib.hid (HPS.out.keep HB44.out)
            have HW : w.heap.size ≤ W44.heap.size := HPS.out.bel.size
            (try have HA4 := Lib.hid (HA4.out.keep HB44.out))
            (try have HV31 := Lib.hid (ow_below HV31.out HB44.out))
            (try have HV37 := Lib.hid (ow_below HV37.out HB44.out))
            (try have HV42 := Lib.hid (ow_below HV42.out HB44.out))
            (try have HV50 := Lib.hid (ow_below HV50.out HB44.out))
            (try have HV62 := Lib.hid (ow_below HV62.out HB44.out))
            (try have HV66 := Lib.hid (ow_below HV66.out HB44.out))
            clear HB44 HX44
            refine takeC (i := 18) rfl (by kernel_rfl) (by rfl) (fun K hK => ?_)
            go_simp
            refine (row_any (.slice none 0 0) [] n _ _ _ W44 (Rd.nil _) (by omega)).mono ?_
            rintro e W18 ⟨⟨v42, rfl, ho⟩, hb⟩
            have HPS := Lib.hid (HPS.out.keep hb)
            (try have HA4 := Lib.hid (HA4.out.keep hb))
            (try have HA9 := Lib.hid (HA9.out.keep hb))
            (try have HV31 := Lib.hid (ow_below HV31.out hb))
            (try have HV37 := Lib.hid (ow_below HV37.out hb))
            (try have HV50 := Lib.hid (ow_below HV50.out hb))
            (try have HV62 := Lib.hid (ow_below HV62.out hb))
            (try have HV66 := Lib.hid (ow_below HV66.out hb))
            have HV42 := Lib.hid (ow_mono ho HW)
            obtain ⟨a42, c42, he42, -⟩ := owns_shape ho
            subst he42
            clear ho
            have HW : w.heap.size ≤ W18.heap.size := HPS.out.bel.size
            clear hb hHeld
            refine hK.out _ _ HPS.out.cb (fun hHeld => ?_)
            clear hK K
            try simp only [Act.put, List.setIfInBounds_toArray, List.set_cons_zero, List.set_cons_succ]
            refine takeC (i := 26) rfl (by kernel_rfl) (by rfl) (fun K hK => ?_)
            go_simp
            refine (row_any (.slice none 0 0) [] n _ _ _ W18 (Rd.nil _) (by omega)).mono ?_
            rintro e W26 ⟨⟨v50, rfl, ho⟩, hb⟩
            have HPS := Lib.hid (HPS.out.keep hb)
            (try have HA4 := Lib.hid (HA4.out.keep hb))
            (try have HA9 := Lib.hid (HA9.out.keep hb))
            (try have HV31 := Lib.hid (ow_below HV31.out hb))
            (try have HV37 := Lib.hid (ow_below HV37.out hb))
            (try have HV42 := Lib.hid (ow_below HV42.out hb))
            (try have HV62 := Lib.hid (ow_below HV62.out hb))
            (try have HV66 := Lib.hid (ow_below HV66.out hb))
            have HV50 := Lib.hid (ow_mono ho HW)
            obtain ⟨a50, c50, he50, -⟩ := owns_shape ho
            subst he50
            clear ho
            have HW : w.heap.size ≤ W26.heap.size := HPS.out.bel.size
            clear hb hHeld
            refine hK.out _ _ HPS.out.cb (fun hHeld => ?_)
            clear hK K
            try simp only [Act.put, List.setIfInBounds_toArray, List.set_cons_zero, List.set_cons_succ]
            refine takeC (i := 38) rfl (by kernel_rfl) (by rfl) (fun K hK => ?_)
            go_simp
            refine (row_any (.slice none 0 0) [] 0 _ _ _ W26 (Rd.nil _) (by omega)).mono ?_
            rintro e W38 ⟨⟨v62, rfl, ho⟩, hb⟩
            have HPS := Lib.hid (HPS.out.keep hb)
            (try have HA4 := Lib.hid (HA4.out.keep hb))
            (try have HA9 := Lib.hid (HA9.out.keep hb))
            (try have HV31 := Lib.hid (ow_below HV31.out hb))
            (try have HV37 := Lib.hid (ow_below HV37.out hb))
            (try have HV42 := Lib.hid (ow_below HV42.out hb))
            (try have HV50 := Lib.hid (ow_below HV50.out hb))
            (try have HV66 := Lib.hid (ow_below HV66.out hb))
            have HV62 := Lib.hid (ow_mono ho HW)
            obtain ⟨a62, c62, he62, -⟩ := owns_shape ho
            subst he62
            clear ho
            have HW : w.heap.size ≤ W38.heap.size := HPS.out.bel.size
            clear hb hHeld
            refine hK.out _ _ HPS.out.cb (fun hHeld => ?_)
            clear hK K
            try simp only [Act.put, List.setIfInBounds_toArray, List.set_cons_zero, List.set_cons_succ]
            refine takeC (i := 42) rfl (by kernel_rfl) (by rfl) (fun K hK => ?_)
            go_simp
            refine (fclean0_any m W38 HPS.out.good).mono ?_
            rintro e W42 ⟨⟨v66, rfl, ho⟩, hb⟩
            have HPS := Lib.hid (HPS.out.keep hb)
            (try have HA4 := Lib.hid (HA4.out.keep hb))
            (try have HA9 := Lib.hid (HA9.out.keep hb))
            (try have HV31 := Lib.hid (ow_below HV31.out hb))
            (try have HV37 := Lib.hid (ow_below HV37.out hb))
            (try have HV42 := Lib.hid (ow_below HV42.out hb))
            (try have HV50 := Lib.hid (ow_below HV50.out hb))
            (try have HV62 := Lib.hid (ow_below HV62.out hb))
            have HV66 := Lib.hid (ow_mono ho HW)
            obtain ⟨a66, c66, he66, -⟩ := owns_shape ho
            subst he66
            clear ho
            have HW : w.heap.size ≤ W42.heap.size := HPS.out.bel.size
            clear hb hHeld
            refine hK.out _ _ HPS.out.cb (fun hHeld => ?_)
            clear hK K
            try simp only [Act.put, List.setIfInBounds_toArray, List.set_cons_zero, List.set_cons_succ]
            (refine takeW (i := 43) (v := ?_) rfl (by kernel_rfl) (by kernel_rfl) (by kernel_rfl) (fun _ _ _ h => h) (by rfl) (by assumption) ?_ ?_; rotate_left; (intro W hW; (try dsimp only at hW); go_simp; try with_reducible rfl); (try simp only [Act.put, List.setIfInBounds_toArray, List.set_cons_zero, List.set_cons_succ]))
            obtain ⟨W45, hW45⟩ : ∃ W45, W42.setRow g9 (putAt zScr 0 [.int .i64 1, .slice a31 n c31, .slice a37 n c37, .slice a42 n c42, .slice a50 n c50, .slice a62 0 c62, .slice none 0 0, .slice a66 (cleanF m []).length c66]).toArray = W45 := ⟨_, rfl⟩
            have HT9 : Hid (Blk W45 g9 27 ([.int .i64 1, .slice a31 n c31, .slice a37 n c37, .slice a42 n c42, .slice a50 n c50, .slice a62 0 c62, .slice none 0 0, .slice a66 (cleanF m []).length c66]).toArray) := Lib.hid (by rw [← hW45]; exact HA9.out.part)
            have HG45 : Hid (W42.grownBy W45 (some g9)) := Lib.hid (by rw [← hW45]; exact grownRow _ _ _)
            have HX45 := Lib.hid (fun (o : Oper) (ac : Act) (x y : Operand) (ho : o.op = .store 27 x y) (hx : ac.eval x = .pointer (some ⟨g9, 0, none⟩)) (hy : ac.eval y = .agg ([.int .i64 1, .slice a31 n c31, .slice a37 n c37, .slice a42 n c42, .slice a50 n c50, .slice a62 0 c62, .slice none 0 0, .slice a66 (cleanF m []).length c66]).toArray) => exec_storePart (P := Tryz.prog) W30 ho hx hy rfl (by simp [Value.oneCell']) HA9.out (by decide))
            rw [hW45] at HX45
            clear hW45
            refine takeVs (i := 45) rfl (by kernel_rfl) (by rfl) (HX45.out _ _ _ _ rfl rfl rfl) ((HPS.out.grown HG45.out HG9.out).cb) ?_
            have hHeld : Hid (CB m n w W45) := (HPS.out.grown HG45.out HG9.out).cb
            have HPS := Lib.hid (HPS.out.grown HG45.out HG9.out)
            have HV42 := Lib.hid (HV42.out.kept HG45.out (.inr (own_blk_ne HV42.out HA9.out (by decide))))
            clear HV31 HV37 HV50 HV62 HV66 HA4 HA9 HG45 HX45
            refine wpAnyH_done (by kernel_rfl) ?_ _
            clear hHeld
            go_wp2_with fail
            go_meet
            exact ⟨_, rfl, a31, c31, a37, c37, a42, c42, a50, c50, a62, c62, a66, c66, HPS, HV42, HT9, HG9⟩
        · obtain ⟨W44, hW44⟩ : ∃ W44, W7.alloc (.cells zScr.toArray 27) = W44 := ⟨_, rfl⟩
          obtain ⟨g9, hg9⟩ : ∃ g9, W7.heap.size = g9 := ⟨_, rfl⟩
          have HA9 : Hid (Blk W44 g9 27 zScr.toArray) := Lib.hid (by rw [← hW44]; exact Blk.new' hg9)
          have HB44 : Hid (Below W7.heap.size W7 W44) := Lib.hid (by rw [← hW44]; exact below1 _ _)
          have HX44 := Lib.hid (fun (o : Oper) (ac : Act) (h : o.op = .alloc 27) => exec_alloc30 (w := W7) (o := o) (a := ac) h)
          rw [hW44, hg9] at HX44
          have HG9 : Hid (w.heap.size + 3 ≤ g9) := Lib.hid (by rw [← hg9]; exact HPS.out.lt)
          clear hW44 hg9
          unfold Oper.wp
          rw [HX44.out _ _ rfl]
          refine hK.out _ _ ((HPS.out.keep HB44.out).cb) (fun hHeld => ?_)
          clear hK K
          (try simp only [Act.put, List.setIfInBounds_toArray, List.set_cons_zero, List.set_cons_succ])
          have HPS := Lib.hid (HPS.out.keep HB44.out)
          have HW : w.heap.size ≤ W44.heap.size := HPS.out.bel.size
          (try have HA4 := Lib.hid (HA4.out.keep HB44.out))
          (try have HV31 := Lib.hid (ow_below HV31.out HB44.out))
          (try have HV37 := Lib.hid (ow_below HV37.out HB44.out))
          (try have HV42 := Lib.hid (ow_below HV42.out HB44.out))
          (try have HV50 := Lib.hid (ow_below HV50.out HB44.out))
          (try have HV62 := Lib.hid (ow_below HV62.out HB44.out))
          (try have HV66 := Lib.hid (ow_below HV66.out HB44.out))
          clear HB44 HX44
          refine takeC (i := 13) rfl (by kernel_rfl) (by rfl) (fun K hK => ?_)
          go_simp
          refine (row_any (.slice none 0 0) [] n _ _ _ W44 (Rd.nil _) (by omega)).mono ?_
          rintro e W13 ⟨⟨v37, rfl, ho⟩, hb⟩
          have HPS := Lib.hid (HPS.out.keep hb)
          (try have HA4 := Lib.hid (HA4.out.keep hb))
          (try have HA9 := Lib.hid (HA9.out.keep hb))
          (try have HV31 := Lib.hid (ow_below HV31.out hb))
          (try have HV42 := Lib.hid (ow_below HV42.out hb))
          (try have HV50 := Lib.hid (ow_below HV50.out hb))
          (try have HV62 := Lib.hid (ow_below HV62.out hb))
          (try have HV66 := Lib.hid (ow_below HV66.out hb))
          have HV37 := Lib.hid (ow_mono ho HW)
          obtain ⟨a37, c37, he37, -⟩ := owns_shape ho
          subst he37
          clear ho
          have HW : w.heap.size ≤ W13.heap.size := HPS.out.bel.size
          clear hb hHeld
          refine hK.out _ _ HPS.out.cb (fun hHeld => ?_)
          clear hK K
          try simp only [Act.put, List.setIfInBounds_toArray, List.set_cons_zero, List.set_cons_succ]
          refine takeC (i := 18) rfl (by kernel_rfl) (by rfl) (fun K hK => ?_)
          go_simp
          refine (row_any (.slice none 0 0) [] n _ _ _ W13 (Rd.nil _) (by omega)).mono ?_
          rintro e W18 ⟨⟨v42, rfl, ho⟩, hb⟩
          have HPS := Lib.hid (HPS.out.keep hb)
          (try have HA4 := Lib.hid (HA4.out.keep hb))
          (try have HA9 := Lib.hid (HA9.out.keep hb))
          (try have HV31 := Lib.hid (ow_below HV31.out hb))
          (try have HV37 := Lib.hid (ow_below HV37.out hb))
          (try have HV50 := Lib.hid (ow_below HV50.out hb))
          (try have HV62 := Lib.hid (ow_below HV62.out hb))
          (try have HV66 := Lib.hid (ow_below HV66.out hb))
          have HV42 := Lib.hid (ow_mono ho HW)
          obtain ⟨a42, c42, he42, -⟩ := owns_shape ho
          subst he42
          clear ho
          have HW : w.heap.size ≤ W18.heap.size := HPS.out.bel.size
          clear hb hHeld
          refine hK.out _ _ HPS.out.cb (fun hHeld => ?_)
          clear hK K
          try simp only [Act.put, List.setIfInBounds_toArray, List.set_cons_zero, List.set_cons_succ]
          refine takeC (i := 26) rfl (by kernel_rfl) (by rfl) (fun K hK => ?_)
          go_simp
          refine (row_any (.slice none 0 0) [] n _ _ _ W18 (Rd.nil _) (by omega)).mono ?_
          rintro e W26 ⟨⟨v50, rfl, ho⟩, hb⟩
          have HPS := Lib.hid (HPS.out.keep hb)
          (try have HA4 := Lib.hid (HA4.out.keep hb))
          (try have HA9 := Lib.hid (HA9.out.keep hb))
          (try have HV31 := Lib.hid (ow_below HV31.out hb))
          (try have HV37 := Lib.hid (ow_below HV37.out hb))
          (try have HV42 := Lib.hid (ow_below HV42.out hb))
          (try have HV62 := Lib.hid (ow_below HV62.out hb))
          (try have HV66 := Lib.hid (ow_below HV66.out hb))
          have HV50 := Lib.hid (ow_mono ho HW)
          obtain ⟨a50, c50, he50, -⟩ := owns_shape ho
          subst he50
          clear ho
          have HW : w.heap.size ≤ W26.heap.size := HPS.out.bel.size
          clear hb hHeld
          refine hK.out _ _ HPS.out.cb (fun hHeld => ?_)
          clear hK K
          try simp only [Act.put, List.setIfInBounds_toArray, List.set_cons_zero, List.set_cons_succ]
          refine takeC (i := 38) rfl (by kernel_rfl) (by rfl) (fun K hK => ?_)
          go_simp
          refine (row_any (.slice none 0 0) [] 0 _ _ _ W26 (Rd.nil _) (by omega)).mono ?_
          rintro e W38 ⟨⟨v62, rfl, ho⟩, hb⟩
          have HPS := Lib.hid (HPS.out.keep hb)
          (try have HA4 := Lib.hid (HA4.out.keep hb))
          (try have HA9 := Lib.hid (HA9.out.keep hb))
          (try have HV31 := Lib.hid (ow_below HV31.out hb))
          (try have HV37 := Lib.hid (ow_below HV37.out hb))
          (try have HV42 := Lib.hid (ow_below HV42.out hb))
          (try have HV50 := Lib.hid (ow_below HV50.out hb))
          (try have HV66 := Lib.hid (ow_below HV66.out hb))
          have HV62 := Lib.hid (ow_mono ho HW)
          obtain ⟨a62, c62, he62, -⟩ := owns_shape ho
          subst he62
          clear ho
          have HW : w.heap.size ≤ W38.heap.size := HPS.out.bel.size
          clear hb hHeld
          refine hK.out _ _ HPS.out.cb (fun hHeld => ?_)
          clear hK K
          try simp only [Act.put, List.setIfInBounds_toArray, List.set_cons_zero, List.set_cons_succ]
          refine takeC (i := 42) rfl (by kernel_rfl) (by rfl) (fun K hK => ?_)
          go_simp
          refine (fclean0_any m W38 HPS.out.good).mono ?_
          rintro e W42 ⟨⟨v66, rfl, ho⟩, hb⟩
          have HPS := Lib.hid (HPS.out.keep hb)
          (try have HA4 := Lib.hid (HA4.out.keep hb))
          (try have HA9 := Lib.hid (HA9.out.keep hb))
          (try have HV31 := Lib.hid (ow_below HV31.out hb))
          (try have HV37 := Lib.hid (ow_below HV37.out hb))
          (try have HV42 := Lib.hid (ow_below HV42.out hb))
          (try have HV50 := Lib.hid (ow_below HV50.out hb))
          (try have HV62 := Lib.hid (ow_below HV62.out hb))
          have HV66 := Lib.hid (ow_mono ho HW)
          obtain ⟨a66, c66, he66, -⟩ := owns_shape ho
          subst he66
          clear ho
          have HW : w.heap.size ≤ W42.heap.size := HPS.out.bel.size
          clear hb hHeld
          refine hK.out _ _ HPS.out.cb (fun hHeld => ?_)
          clear hK K
          try simp only [Act.put, List.setIfInBounds_toArray, List.set_cons_zero, List.set_cons_succ]
          (refine takeW (i := 43) (v := ?_) rfl (by kernel_rfl) (by kernel_rfl) (by kernel_rfl) (fun _ _ _ h => h) (by rfl) (by assumption) ?_ ?_; rotate_left; (intro W hW; (try dsimp only at hW); go_simp; try with_reducible rfl); (try simp only [Act.put, List.setIfInBounds_toArray, List.set_cons_zero, List.set_cons_succ]))
          obtain ⟨W45, hW45⟩ : ∃ W45, W42.setRow g9 (putAt zScr 0 [.int .i64 1, .slice a31 n c31, .slice a37 n c37, .slice a42 n c42, .slice a50 n c50, .slice a62 0 c62, .slice none 0 0, .slice a66 (cleanF m []).length c66]).toArray = W45 := ⟨_, rfl⟩
          have HT9 : Hid (Blk W45 g9 27 ([.int .i64 1, .slice a31 n c31, .slice a37 n c37, .slice a42 n c42, .slice a50 n c50, .slice a62 0 c62, .slice none 0 0, .slice a66 (cleanF m []).length c66]).toArray) := Lib.hid (by rw [← hW45]; exact HA9.out.part)
          have HG45 : Hid (W42.grownBy W45 (some g9)) := Lib.hid (by rw [← hW45]; exact grownRow _ _ _)
          have HX45 := Lib.hid (fun (o : Oper) (ac : Act) (x y : Operand) (ho : o.op = .store 27 x y) (hx : ac.eval x = .pointer (some ⟨g9, 0, none⟩)) (hy : ac.eval y = .agg ([.int .i64 1, .slice a31 n c31, .slice a37 n c37, .slice a42 n c42, .slice a50 n c50, .slice a62 0 c62, .slice none 0 0, .slice a66 (cleanF m []).length c66]).toArray) => exec_storePart (P := Tryz.prog) W30 ho hx hy rfl (by simp [Value.oneCell']) HA9.out (by decide))
          rw [hW45] at HX45
          clear hW45
          refine takeVs (i := 45) rfl (by kernel_rfl) (by rfl) (HX45.out _ _ _ _ rfl rfl rfl) ((HPS.out.grown HG45.out HG9.out).cb) ?_
          have hHeld : Hid (CB m n w W45) := (HPS.out.grown HG45.out HG9.out).cb
          have HPS := Lib.hid (HPS.out.grown HG45.out HG9.out)
          have HV42 := Lib.hid (HV42.out.kept HG45.out (.inr (own_blk_ne HV42.out HA9.out (by decide))))
          clear HV31 HV37 HV50 HV62 HV66 HA4 HA9 HG45 HX45
          refine wpAnyH_done (by kernel_rfl) ?_ _
          clear hHeld
          go_wp2_with fail
          go_meet
          exact ⟨_, rfl, a31, c31, a37, c37, a42, c42, a50, c50, a62, c62, a66, c66, HPS, HV42, HT9, HG9⟩
      · obtain ⟨W44, hW44⟩ : ∃ W44, W4.alloc (.cells zScr.toArray 27) = W44 := ⟨_, rfl⟩
        obtain ⟨g9, hg9⟩ : ∃ g9, W4.heap.size = g9 := ⟨_, rfl⟩
        have HA9 : Hid (Blk W44 g9 27 zScr.toArray) := Lib.hid (by rw [← hW44]; exact Blk.new' hg9)
        have HB44 : Hid (Below W4.heap.size W4 W44) := Lib.hid (by rw [← hW44]; exact below1 _ _)
        have HX44 := Lib.hid (fun (o : Oper) (ac : Act) (h : o.op = .alloc 27) => exec_alloc30 (w := W4) (o := o) (a := ac) h)
        rw [hW44, hg9] at HX44
        have HG9 : Hid (w.heap.size + 3 ≤ g9) := Lib.hid (by rw [← hg9]; exact HPS.out.lt)
        clear hW44 hg9
        unfold Oper.wp
        rw [HX44.out _ _ rfl]
        refine hK.out _ _ ((HPS.out.keep HB44.out).cb) (fun hHeld => ?_)
        clear hK K
        (try simp only [Act.put, List.setIfInBounds_toArray, List.set_cons_zero, List.set_cons_succ])
        have HPS := Lib.hid (HPS.out.keep HB44.out)
        have HW : w.heap.size ≤ W44.heap.size := HPS.out.bel.size
        (try have HA4 := Lib.hid (HA4.out.keep HB44.out))
        (try have HV31 := Lib.hid (ow_below HV31.out HB44.out))
        (try have HV37 := Lib.hid (ow_below HV37.out HB44.out))
        (try have HV42 := Lib.hid (ow_below HV42.out HB44.out))
        (try have HV50 := Lib.hid (ow_below HV50.out HB44.out))
        (try have HV62 := Lib.hid (ow_below HV62.out HB44.out))
        (try have HV66 := Lib.hid (ow_below HV66.out HB44.out))
        clear HB44 HX44
        refine takeC (i := 7) rfl (by kernel_rfl) (by rfl) (fun K hK => ?_)
        go_simp
        refine (repB_any (.bool true) g4 1 n W44 (HA4.out.cell 0) rfl (by omega)).mono ?_
        rintro e W7 ⟨⟨v31, rfl, ho⟩, hb⟩
        have HPS := Lib.hid (HPS.out.keep hb)
        (try have HA4 := Lib.hid (HA4.out.keep hb))
        (try have HA9 := Lib.hid (HA9.out.keep hb))
        (try have HV37 := Lib.hid (ow_below HV37.out hb))
        (try have HV42 := Lib.hid (ow_below HV42.out hb))
        (try have HV50 := Lib.hid (ow_below HV50.out hb))
        (try have HV62 := Lib.hid (ow_below HV62.out hb))
        (try have HV66 := Lib.hid (ow_below HV66.out hb))
        have HV31 := Lib.hid (ow_mono ho HW)
        obtain ⟨a31, c31, he31, -⟩ := owns_shape ho
        subst he31
        clear ho
        have HW : w.heap.size ≤ W7.heap.size := HPS.out.bel.size
        clear hb hHeld
        refine hK.out _ _ HPS.out.cb (fun hHeld => ?_)
        clear hK K
        try simp only [Act.put, List.setIfInBounds_toArray, List.set_cons_zero, List.set_cons_succ]
        refine takeC (i := 13) rfl (by kernel_rfl) (by rfl) (fun K hK => ?_)
        go_simp
        refine (row_any (.slice none 0 0) [] n _ _ _ W7 (Rd.nil _) (by omega)).mono ?_
        rintro e W13 ⟨⟨v37, rfl, ho⟩, hb⟩
        have HPS := Lib.hid (HPS.out.keep hb)
        (try have HA4 := Lib.hid (HA4.out.keep hb))
        (try have HA9 := Lib.hid (HA9.out.keep hb))
        (try have HV31 := Lib.hid (ow_below HV31.out hb))
        (try have HV42 := Lib.hid (ow_below HV42.out hb))
        (try have HV50 := Lib.hid (ow_below HV50.out hb))
        (try have HV62 := Lib.hid (ow_below HV62.out hb))
        (try have HV66 := Lib.hid (ow_below HV66.out hb))
        have HV37 := Lib.hid (ow_mono ho HW)
        obtain ⟨a37, c37, he37, -⟩ := owns_shape ho
        subst he37
        clear ho
        have HW : w.heap.size ≤ W13.heap.size := HPS.out.bel.size
        clear hb hHeld
        refine hK.out _ _ HPS.out.cb (fun hHeld => ?_)
        clear hK K
        try simp only [Act.put, List.setIfInBounds_toArray, List.set_cons_zero, List.set_cons_succ]
        refine takeC (i := 18) rfl (by kernel_rfl) (by rfl) (fun K hK => ?_)
        go_simp
        refine (row_any (.slice none 0 0) [] n _ _ _ W13 (Rd.nil _) (by omega)).mono ?_
        rintro e W18 ⟨⟨v42, rfl, ho⟩, hb⟩
        have HPS := Lib.hid (HPS.out.keep hb)
        (try have HA4 := Lib.hid (HA4.out.keep hb))
        (try have HA9 := Lib.hid (HA9.out.keep hb))
        (try have HV31 := Lib.hid (ow_below HV31.out hb))
        (try have HV37 := Lib.hid (ow_below HV37.out hb))
        (try have HV50 := Lib.hid (ow_below HV50.out hb))
        (try have HV62 := Lib.hid (ow_below HV62.out hb))
        (try have HV66 := Lib.hid (ow_below HV66.out hb))
        have HV42 := Lib.hid (ow_mono ho HW)
        obtain ⟨a42, c42, he42, -⟩ := owns_shape ho
        subst he42
        clear ho
        have HW : w.heap.size ≤ W18.heap.size := HPS.out.bel.size
        clear hb hHeld
        refine hK.out _ _ HPS.out.cb (fun hHeld => ?_)
        clear hK K
        try simp only [Act.put, List.setIfInBounds_toArray, List.set_cons_zero, List.set_cons_succ]
        refine takeC (i := 26) rfl (by kernel_rfl) (by rfl) (fun K hK => ?_)
        go_simp
        refine (row_any (.slice none 0 0) [] n _ _ _ W18 (Rd.nil _) (by omega)).mono ?_
        rintro e W26 ⟨⟨v50, rfl, ho⟩, hb⟩
        have HPS := Lib.hid (HPS.out.keep hb)
        (try have HA4 := Lib.hid (HA4.out.keep hb))
        (try have HA9 := Lib.hid (HA9.out.keep hb))
        (try have HV31 := Lib.hid (ow_below HV31.out hb))
        (try have HV37 := Lib.hid (ow_below HV37.out hb))
        (try have HV42 := Lib.hid (ow_below HV42.out hb))
        (try have HV62 := Lib.hid (ow_below HV62.out hb))
        (try have HV66 := Lib.hid (ow_below HV66.out hb))
        have HV50 := Lib.hid (ow_mono ho HW)
        obtain ⟨a50, c50, he50, -⟩ := owns_shape ho
        subst he50
        clear ho
        have HW : w.heap.size ≤ W26.heap.size := HPS.out.bel.size
        clear hb hHeld
        refine hK.out _ _ HPS.out.cb (fun hHeld => ?_)
        clear hK K
        try simp only [Act.put, List.setIfInBounds_toArray, List.set_cons_zero, List.set_cons_succ]
        refine takeC (i := 38) rfl (by kernel_rfl) (by rfl) (fun K hK => ?_)
        go_simp
        refine (row_any (.slice none 0 0) [] 0 _ _ _ W26 (Rd.nil _) (by omega)).mono ?_
        rintro e W38 ⟨⟨v62, rfl, ho⟩, hb⟩
        have HPS := Lib.hid (HPS.out.keep hb)
        (try have HA4 := Lib.hid (HA4.out.keep hb))
        (try have HA9 := Lib.hid (HA9.out.keep hb))
        (try have HV31 := Lib.hid (ow_below HV31.out hb))
        (try have HV37 := Lib.hid (ow_below HV37.out hb))
        (try have HV42 := Lib.hid (ow_below HV42.out hb))
        (try have HV50 := Lib.hid (ow_below HV50.out hb))
        (try have HV66 := Lib.hid (ow_below HV66.out hb))
        have HV62 := Lib.hid (ow_mono ho HW)
        obtain ⟨a62, c62, he62, -⟩ := owns_shape ho
        subst he62
        clear ho
        have HW : w.heap.size ≤ W38.heap.size := HPS.out.bel.size
        clear hb hHeld
        refine hK.out _ _ HPS.out.cb (fun hHeld => ?_)
        clear hK K
        try simp only [Act.put, List.setIfInBounds_toArray, List.set_cons_zero, List.set_cons_succ]
        refine takeC (i := 42) rfl (by kernel_rfl) (by rfl) (fun K hK => ?_)
        go_simp
        refine (fclean0_any m W38 HPS.out.good).mono ?_
        rintro e W42 ⟨⟨v66, rfl, ho⟩, hb⟩
        have HPS := Lib.hid (HPS.out.keep hb)
        (try have HA4 := Lib.hid (HA4.out.keep hb))
        (try have HA9 := Lib.hid (HA9.out.keep hb))
        (try have HV31 := Lib.hid (ow_below HV31.out hb))
        (try have HV37 := Lib.hid (ow_below HV37.out hb))
        (try have HV42 := Lib.hid (ow_below HV42.out hb))
        (try have HV50 := Lib.hid (ow_below HV50.out hb))
        (try have HV62 := Lib.hid (ow_below HV62.out hb))
        have HV66 := Lib.hid (ow_mono ho HW)
        obtain ⟨a66, c66, he66, -⟩ := owns_shape ho
        subst he66
        clear ho
        have HW : w.heap.size ≤ W42.heap.size := HPS.out.bel.size
        clear hb hHeld
        refine hK.out _ _ HPS.out.cb (fun hHeld => ?_)
        clear hK K
        try simp only [Act.put, List.setIfInBounds_toArray, List.set_cons_zero, List.set_cons_succ]
        (refine takeW (i := 43) (v := ?_) rfl (by kernel_rfl) (by kernel_rfl) (by kernel_rfl) (fun _ _ _ h => h) (by rfl) (by assumption) ?_ ?_; rotate_left; (intro W hW; (try dsimp only at hW); go_simp; try with_reducible rfl); (try simp only [Act.put, List.setIfInBounds_toArray, List.set_cons_zero, List.set_cons_succ]))
        obtain ⟨W45, hW45⟩ : ∃ W45, W42.setRow g9 (putAt zScr 0 [.int .i64 1, .slice a31 n c31, .slice a37 n c37, .slice a42 n c42, .slice a50 n c50, .slice a62 0 c62, .slice none 0 0, .slice a66 (cleanF m []).length c66]).toArray = W45 := ⟨_, rfl⟩
        have HT9 : Hid (Blk W45 g9 27 ([.int .i64 1, .slice a31 n c31, .slice a37 n c37, .slice a42 n c42, .slice a50 n c50, .slice a62 0 c62, .slice none 0 0, .slice a66 (cleanF m []).length c66]).toArray) := Lib.hid (by rw [← hW45]; exact HA9.out.part)
        have HG45 : Hid (W42.grownBy W45 (some g9)) := Lib.hid (by rw [← hW45]; exact grownRow _ _ _)
        have HX45 := Lib.hid (fun (o : Oper) (ac : Act) (x y : Operand) (ho : o.op = .store 27 x y) (hx : ac.eval x = .pointer (some ⟨g9, 0, none⟩)) (hy : ac.eval y = .agg ([.int .i64 1, .slice a31 n c31, .slice a37 n c37, .slice a42 n c42, .slice a50 n c50, .slice a62 0 c62, .slice none 0 0, .slice a66 (cleanF m []).length c66]).toArray) => exec_storePart (P := Tryz.prog) W30 ho hx hy rfl (by simp [Value.oneCell']) HA9.out (by decide))
        rw [hW45] at HX45
        clear hW45
        refine takeVs (i := 45) rfl (by kernel_rfl) (by rfl) (HX45.out _ _ _ _ rfl rfl rfl) ((HPS.out.grown HG45.out HG9.out).cb) ?_
        have hHeld : Hid (CB m n w W45) := (HPS.out.grown HG45.out HG9.out).cb
        have HPS := Lib.hid (HPS.out.grown HG45.out HG9.out)
        have HV42 := Lib.hid (HV42.out.kept HG45.out (.inr (own_blk_ne HV42.out HA9.out (by decide))))
        clear HV31 HV37 HV50 HV62 HV66 HA4 HA9 HG45 HX45
        refine wpAnyH_done (by kernel_rfl) ?_ _
        clear hHeld
        go_wp2_with fail
        go_meet
        exact ⟨_, rfl, a31, c31, a37, c37, a42, c42, a50, c50, a62, c62, a66, c66, HPS, HV42, HT9, HG9⟩
    · (try simp only [Act.put, List.setIfInBounds_toArray, List.set_cons_zero, List.set_cons_succ])
      have hHeld : Hid (CB m n w W44) := (HPS.out.keep HB44.out).cb
      have HPS := Lib.hid (HPS.out.keep HB44.out)
      have HW : w.heap.size ≤ W44.heap.size := HPS.out.bel.size
      (try have HA4 := Lib.hid (HA4.out.keep HB44.out))
      (try have HV31 := Lib.hid (ow_below HV31.out HB44.out))
      (try have HV37 := Lib.hid (ow_below HV37.out HB44.out))
      (try have HV42 := Lib.hid (ow_below HV42.out HB44.out))
      (try have HV50 := Lib.hid (ow_below HV50.out HB44.out))
      (try have HV62 := Lib.hid (ow_below HV62.out HB44.out))
      (try have HV66 := Lib.hid (ow_below HV66.out HB44.out))
      clear HB44 HX44
      obtain ⟨W4, hW4⟩ : ∃ W4, W44.alloc (.cells #[.bool true] 4) = W4 := ⟨_, rfl⟩
      obtain ⟨g4, hg4⟩ : ∃ g4, W44.heap.size = g4 := ⟨_, rfl⟩
      have HA4 : Hid (Blk W4 g4 4 #[.bool true]) := Lib.hid (by rw [← hW4]; exact Blk.new' hg4)
      have HB4 : Hid (Below W44.heap.size W44 W4) := Lib.hid (by rw [← hW4]; exact below1 _ _)
      have HX4 := Lib.hid (run_oneB W44 true)
      rw [hW4, hg4] at HX4
      clear hW4 hg4
      refine takeV (i := 4) rfl (by kernel_rfl) (by rfl) (exec_run1 HX4.out rfl rfl) ((HPS.out.keep HB4.out).cb) ?_
      (try simp only [Act.put, List.setIfInBounds_toArray, List.set_cons_zero, List.set_cons_succ])
      have hHeld : Hid (CB m n w W4) := (HPS.out.keep HB4.out).cb
      have HPS := Lib.hid (HPS.out.keep HB4.out)
      have HW : w.heap.size ≤ W4.heap.size := HPS.out.bel.size
      (try have HA9 := Lib.hid (HA9.out.keep HB4.out))
      (try have HV31 := Lib.hid (ow_below HV31.out HB4.out))
      (try have HV37 := Lib.hid (ow_below HV37.out HB4.out))
      (try have HV42 := Lib.hid (ow_below HV42.out HB4.out))
      (try have HV50 := Lib.hid (ow_below HV50.out HB4.out))
      (try have HV62 := Lib.hid (ow_below HV62.out HB4.out))
      (try have HV66 := Lib.hid (ow_below HV66.out HB4.out))
      clear HB4 HX4
      refine takeC (i := 7) rfl (by kernel_rfl) (by rfl) (fun K hK => ?_)
      go_simp
      refine (repB_any (.bool true) g4 1 n W4 (HA4.out.cell 0) rfl (by omega)).mono ?_
      rintro e W7 ⟨⟨v31, rfl, ho⟩, hb⟩
      have HPS := Lib.hid (HPS.out.keep hb)
      (try have HA4 := Lib.hid (HA4.out.keep hb))
      (try have HA9 := Lib.hid (HA9.out.keep hb))
      (try have HV37 := Lib.hid (ow_below HV37.out hb))
      (try have HV42 := Lib.hid (ow_below HV42.out hb))
      (try have HV50 := Lib.hid (ow_below HV50.out hb))
      (try have HV62 := Lib.hid (ow_below HV62.out hb))
      (try have HV66 := Lib.hid (ow_below HV66.out hb))
      have HV31 := Lib.hid (ow_mono ho HW)
      obtain ⟨a31, c31, he31, -⟩ := owns_shape ho
      subst he31
      clear ho
      have HW : w.heap.size ≤ W7.heap.size := HPS.out.bel.size
      clear hb hHeld
      refine hK.out _ _ HPS.out.cb (fun hHeld => ?_)
      clear hK K
      try simp only [Act.put, List.setIfInBounds_toArray, List.set_cons_zero, List.set_cons_succ]
      refine takeC (i := 13) rfl (by kernel_rfl) (by rfl) (fun K hK => ?_)
      go_simp
      refine (row_any (.slice none 0 0) [] n _ _ _ W7 (Rd.nil _) (by omega)).mono ?_
      rintro e W13 ⟨⟨v37, rfl, ho⟩, hb⟩
      have HPS := Lib.hid (HPS.out.keep hb)
      (try have HA4 := Lib.hid (HA4.out.keep hb))
      (try have HA9 := Lib.hid (HA9.out.keep hb))
      (try have HV31 := Lib.hid (ow_below HV31.out hb))
      (try have HV42 := Lib.hid (ow_below HV42.out hb))
      (try have HV50 := Lib.hid (ow_below HV50.out hb))
      (try have HV62 := Lib.hid (ow_below HV62.out hb))
      (try have HV66 := Lib.hid (ow_below HV66.out hb))
      have HV37 := Lib.hid (ow_mono ho HW)
      obtain ⟨a37, c37, he37, -⟩ := owns_shape ho
      subst he37
      clear ho
      have HW : w.heap.size ≤ W13.heap.size := HPS.out.bel.size
      clear hb hHeld
      refine hK.out _ _ HPS.out.cb (fun hHeld => ?_)
      clear hK K
      try simp only [Act.put, List.setIfInBounds_toArray, List.set_cons_zero, List.set_cons_succ]
      refine takeC (i := 18) rfl (by kernel_rfl) (by rfl) (fun K hK => ?_)
      go_simp
      refine (row_any (.slice none 0 0) [] n _ _ _ W13 (Rd.nil _) (by omega)).mono ?_
      rintro e W18 ⟨⟨v42, rfl, ho⟩, hb⟩
      have HPS := Lib.hid (HPS.out.keep hb)
      (try have HA4 := Lib.hid (HA4.out.keep hb))
      (try have HA9 := Lib.hid (HA9.out.keep hb))
      (try have HV31 := Lib.hid (ow_below HV31.out hb))
      (try have HV37 := Lib.hid (ow_below HV37.out hb))
      (try have HV50 := Lib.hid (ow_below HV50.out hb))
      (try have HV62 := Lib.hid (ow_below HV62.out hb))
      (try have HV66 := Lib.hid (ow_below HV66.out hb))
      have HV42 := Lib.hid (ow_mono ho HW)
      obtain ⟨a42, c42, he42, -⟩ := owns_shape ho
      subst he42
      clear ho
      have HW : w.heap.size ≤ W18.heap.size := HPS.out.bel.size
      clear hb hHeld
      refine hK.out _ _ HPS.out.cb (fun hHeld => ?_)
      clear hK K
      try simp only [Act.put, List.setIfInBounds_toArray, List.set_cons_zero, List.set_cons_succ]
      refine takeC (i := 26) rfl (by kernel_rfl) (by rfl) (fun K hK => ?_)
      go_simp
      refine (row_any (.slice none 0 0) [] n _ _ _ W18 (Rd.nil _) (by omega)).mono ?_
      rintro e W26 ⟨⟨v50, rfl, ho⟩, hb⟩
      have HPS := Lib.hid (HPS.out.keep hb)
      (try have HA4 := Lib.hid (HA4.out.keep hb))
      (try have HA9 := Lib.hid (HA9.out.keep hb))
      (try have HV31 := Lib.hid (ow_below HV31.out hb))
      (try have HV37 := Lib.hid (ow_below HV37.out hb))
      (try have HV42 := Lib.hid (ow_below HV42.out hb))
      (try have HV62 := Lib.hid (ow_below HV62.out hb))
      (try have HV66 := Lib.hid (ow_below HV66.out hb))
      have HV50 := Lib.hid (ow_mono ho HW)
      obtain ⟨a50, c50, he50, -⟩ := owns_shape ho
      subst he50
      clear ho
      have HW : w.heap.size ≤ W26.heap.size := HPS.out.bel.size
      clear hb hHeld
      refine hK.out _ _ HPS.out.cb (fun hHeld => ?_)
      clear hK K
      try simp only [Act.put, List.setIfInBounds_toArray, List.set_cons_zero, List.set_cons_succ]
      refine takeC (i := 38) rfl (by kernel_rfl) (by rfl) (fun K hK => ?_)
      go_simp
      refine (row_any (.slice none 0 0) [] 0 _ _ _ W26 (Rd.nil _) (by omega)).mono ?_
      rintro e W38 ⟨⟨v62, rfl, ho⟩, hb⟩
      have HPS := Lib.hid (HPS.out.keep hb)
      (try have HA4 := Lib.hid (HA4.out.keep hb))
      (try have HA9 := Lib.hid (HA9.out.keep hb))
      (try have HV31 := Lib.hid (ow_below HV31.out hb))
      (try have HV37 := Lib.hid (ow_below HV37.out hb))
      (try have HV42 := Lib.hid (ow_below HV42.out hb))
      (try have HV50 := Lib.hid (ow_below HV50.out hb))
      (try have HV66 := Lib.hid (ow_below HV66.out hb))
      have HV62 := Lib.hid (ow_mono ho HW)
      obtain ⟨a62, c62, he62, -⟩ := owns_shape ho
      subst he62
      clear ho
      have HW : w.heap.size ≤ W38.heap.size := HPS.out.bel.size
      clear hb hHeld
      refine hK.out _ _ HPS.out.cb (fun hHeld => ?_)
      clear hK K
      try simp only [Act.put, List.setIfInBounds_toArray, List.set_cons_zero, List.set_cons_succ]
      refine takeC (i := 42) rfl (by kernel_rfl) (by rfl) (fun K hK => ?_)
      go_simp
      refine (fclean0_any m W38 HPS.out.good).mono ?_
      rintro e W42 ⟨⟨v66, rfl, ho⟩, hb⟩
      have HPS := Lib.hid (HPS.out.keep hb)
      (try have HA4 := Lib.hid (HA4.out.keep hb))
      (try have HA9 := Lib.hid (HA9.out.keep hb))
      (try have HV31 := Lib.hid (ow_below HV31.out hb))
      (try have HV37 := Lib.hid (ow_below HV37.out hb))
      (try have HV42 := Lib.hid (ow_below HV42.out hb))
      (try have HV50 := Lib.hid (ow_below HV50.out hb))
      (try have HV62 := Lib.hid (ow_below HV62.out hb))
      have HV66 := Lib.hid (ow_mono ho HW)
      obtain ⟨a66, c66, he66, -⟩ := owns_shape ho
      subst he66
      clear ho
      have HW : w.heap.size ≤ W42.heap.size := HPS.out.bel.size
      clear hb hHeld
      refine hK.out _ _ HPS.out.cb (fun hHeld => ?_)
      clear hK K
      try simp only [Act.put, List.setIfInBounds_toArray, List.set_cons_zero, List.set_cons_succ]
      (refine takeW (i := 43) (v := ?_) rfl (by kernel_rfl) (by kernel_rfl) (by kernel_rfl) (fun _ _ _ h => h) (by rfl) (by assumption) ?_ ?_; rotate_left; (intro W hW; (try dsimp only at hW); go_simp; try with_reducible rfl); (try simp only [Act.put, List.setIfInBounds_toArray, List.set_cons_zero, List.set_cons_succ]))
      obtain ⟨W45, hW45⟩ : ∃ W45, W42.setRow g9 (putAt zScr 0 [.int .i64 1, .slice a31 n c31, .slice a37 n c37, .slice a42 n c42, .slice a50 n c50, .slice a62 0 c62, .slice none 0 0, .slice a66 (cleanF m []).length c66]).toArray = W45 := ⟨_, rfl⟩
      have HT9 : Hid (Blk W45 g9 27 ([.int .i64 1, .slice a31 n c31, .slice a37 n c37, .slice a42 n c42, .slice a50 n c50, .slice a62 0 c62, .slice none 0 0, .slice a66 (cleanF m []).length c66]).toArray) := Lib.hid (by rw [← hW45]; exact HA9.out.part)
      have HG45 : Hid (W42.grownBy W45 (some g9)) := Lib.hid (by rw [← hW45]; exact grownRow _ _ _)
      have HX45 := Lib.hid (fun (o : Oper) (ac : Act) (x y : Operand) (ho : o.op = .store 27 x y) (hx : ac.eval x = .pointer (some ⟨g9, 0, none⟩)) (hy : ac.eval y = .agg ([.int .i64 1, .slice a31 n c31, .slice a37 n c37, .slice a42 n c42, .slice a50 n c50, .slice a62 0 c62, .slice none 0 0, .slice a66 (cleanF m []).length c66]).toArray) => exec_storePart (P := Tryz.prog) W30 ho hx hy rfl (by simp [Value.oneCell']) HA9.out (by decide))
      rw [hW45] at HX45
      clear hW45
      refine takeVs (i := 45) rfl (by kernel_rfl) (by rfl) (HX45.out _ _ _ _ rfl rfl rfl) ((HPS.out.grown HG45.out HG9.out).cb) ?_
      have hHeld : Hid (CB m n w W45) := (HPS.out.grown HG45.out HG9.out).cb
      have HPS := Lib.hid (HPS.out.grown HG45.out HG9.out)
      have HV42 := Lib.hid (HV42.out.kept HG45.out (.inr (own_blk_ne HV42.out HA9.out (by decide))))
      clear HV31 HV37 HV50 HV62 HV66 HA4 HA9 HG45 HX45
      refine wpAnyH_done (by kernel_rfl) ?_ _
      clear hHeld
      go_wp2_with fail
      go_meet
      exact ⟨_, rfl, a31, c31, a37, c37, a42, c42, a50, c50, a62, c62, a66, c66, HPS, HV42, HT9, HG9⟩
  case rest =>
    clear HPS
    obtain ⟨g9, rfl, a31, c31, a37, c37, a42, c42, a50, c50, a62, c62, a66, c66, HPS, HV42, HT9, HG9⟩ := hcut.out
    have hcl : (cleanF m []).length = 0 := rfl
    rw [hcl] at HT9
    clear hcl hcut
    have t1 : wc.cell? ⟨g9, 1, none⟩ = some (.slice a31 n c31) := HT9.out.list0 rfl
    have t7 : wc.cell? ⟨g9, 7, none⟩ = some (.slice a66 0 c66) := HT9.out.list0 rfl
    have s1 : wc.cell? ⟨w.heap.size + 1, 1, none⟩ = some (.slice none 0 0) := HPS.out.ss.cell 1
    go_upto_region 7 with ((with_reducible show wpList _ _ _ (Oper.mk (some 72) _ _ _ _ _ :: _) _ _); refine wpList_copy_nothing rfl (.tmp 69) (.tmp 71) 22 22 rfl 4 (by exact Tryz.underlying22) (by kernel_rfl) a31 none n c31 0 0 rfl rfl (by simp) ?_)
    have fz7 : wc.frozen? ⟨g9, 7, none⟩ = false := HT9.out.frozen 7
    clear t1 s1
    simp only [Act.put, List.setIfInBounds_toArray, List.set_cons_zero, List.set_cons_succ]
    go_cut [] from 73 to 80 (fun wx => Hid (CS m n w wx) ∧ Hid (wx.ownsRow w.heap.size 3 1 (.slice a42 n c42) n ((rowL [] n 40 60 50).map (Value.int .i64))) ∧ ∃ b c, Hid (Blk wx g9 27 ([.int .i64 1, .slice a31 n c31, .slice a37 n c37, .slice a42 n c42, .slice a50 n c50, .slice a62 0 c62, .slice none 0 0, .slice b 0 c] : List Value).toArray))
    case first =>
      have HS : Hid (CS m n w (wc.setCell ⟨g9, 7, none⟩ (.slice a66 0 c66))) := Lib.hid (HPS.out.grown (grownBy_setCell _ _ _) HG9.out)
      have HO : Hid ((wc.setCell ⟨g9, 7, none⟩ (.slice a66 0 c66)).ownsRow w.heap.size 3 1 (.slice a42 n c42) n ((rowL [] n 40 60 50).map (Value.int .i64))) := Lib.hid (HV42.out.kept (grownBy_setCell _ _ _) (.inr (own_blk_ne HV42.out HT9.out (by decide))))
      have HT : Hid (Blk (wc.setCell ⟨g9, 7, none⟩ (.slice a66 0 c66)) g9 27 ([.int .i64 1, .slice a31 n c31, .slice a37 n c37, .slice a42 n c42, .slice a50 n c50, .slice a62 0 c62, .slice none 0 0, .slice a66 0 c66] : List Value).toArray) := Lib.hid (HT9.out.set 7 _)
      clear HPS HV42 HT9 HG9 HPO
      cases a66 with
      | none =>
        go_wp2_with fail
        go_meet
        exact ⟨HS, HO, _, _, HT⟩
      | some p =>
        go_wp2_with fail
        go_meet
        exact ⟨HS, HO, _, _, HT⟩
    case rest =>
      rename World => wo
      clear HPS HV42 HT9 fz7 t7
      obtain ⟨HPS, HV42, b, c, HT9⟩ := hcut
      have s6 : wo.cell? ⟨w.heap.size + 1, 6, none⟩ = some (.slice none 0 0) := HPS.out.ss.cell 6
      go_wp2_with fail
      go_loopw [84] (fun i wr => i = .int .i64 0 ∧ wr = wo) (fun _ _ => 0)
      case atStart => exact ⟨rfl, rfl⟩
      case round =>
        obtain ⟨rfl, rfl⟩ := hrel
        rename World => wo
        have t6 : wo.cell? ⟨g9, 6, none⟩ = some (.slice none 0 0) := HT9.out.list0 rfl
        go_wp2_with fail
        refine (sort0_any _ _ _ wo).mono ?_
        rintro e wz ⟨rfl, hw⟩
        subst hw
        go_upto_region 16 with fail
        have HR := HPS.out.rr
        go_wp2_with (first | ((with_reducible show wpList _ _ _ (Oper.mk (some 111) _ _ _ _ _ :: _) _ _); refine wpList_loadW W30 rfl rfl rfl [.int .i64 1, .slice a31 n c31, .slice a37 n c37, .slice a42 n c42, .slice a50 n c50, .slice a62 0 c62, .slice none 0 0, .slice b 0 c] rfl HT9.out.list ?_) | ((with_reducible show wpList _ _ _ (Oper.mk none (Op.store 27 _ _) _ _ _ _ :: _) _ _); refine wpList_storePart (cs := [.int .i64 1, .slice a31 n c31, .slice a37 n c37, .slice a42 n c42, .slice a50 n c50, .slice a62 0 c62, .slice none 0 0, .slice b 0 c]) (old := zScr) W30 rfl rfl rfl rfl rfl (by simp [Value.oneCell']) HR (by decide) ?_; intro W9 hbl hg; have HZ := Lib.hid hbl; have HGG := Lib.hid hg; clear hbl hg))
        have HF : Hid (Blk W9 (w.heap.size + 2) 27 ([.int .i64 1, .slice a31 n c31, .slice a37 n c37, .slice a42 n c42, .slice a50 n c50, .slice a62 0 c62, .slice none 0 0, .slice b 0 c] : List Value).toArray) := HZ
        have HB : Hid (Below w.heap.size w W9) := Lib.hid (HPS.out.bel.grown HGG.out HPS.out.bel.size (fun k e => by cases e; omega))
        have HV := Lib.hid (HV42.out.kept HGG.out (.inr (own_blk_ne HV42.out HR (by decide))))
        refine bodyPost_ret (results_cell2 rfl W30 rfl (cs := [.int .i64 1, .slice a31 n c31, .slice a37 n c37, .slice a42 n c42, .slice a50 n c50, .slice a62 0 c62, .slice none 0 0, .slice b 0 c]) rfl HF.out.list) rfl ?_
        exact HPO.out _ _ _ rfl (by simp [Value.oneCell']) rfl rfl HV.out hn8 HB.out
end Go.Proofs.YtkinhhkodaacjaaGreatDoor
