/- How the state of a cluster goes on. -/
import Derived.Test.YtmflnbdajaiahaaF12
namespace Go.Proofs.Ytmflnbdajaiahaa
open Go.RowKit Go.Shelf

theorem W42 : Wide Try.prog 42 4 := ⟨⟨_, Try.underlying42, rfl⟩, by kernel_rfl⟩
theorem F4 : Flat Try.prog 4 := ⟨⟨_, Try.underlying4, rfl⟩, by kernel_rfl⟩
/-- How a cluster is, as faults come. -/
structure St where
  node : Int
  off : Bool
  since : Int
  well : Int
def encS (t : St) : List Value := [.int .i64 t.node, .bool t.off, .int .i64 t.since, .int .i64 t.well]
theorem st_one (x : Int) (b : Bool) (y z : Int) : ∀ u ∈ ([.int .i64 x, .bool b, .int .i64 y, .int .i64 z] : List Value), u.oneCell' = true := by
  intro u hu
  simp only [List.mem_cons, List.not_mem_nil, or_false] at hu
  rcases hu with rfl | rfl | rfl | rfl <;> rfl
def nextS (t : St) (f : Fa) : Option St :=
  if 0 ≤ t.node then
    if f.n = t.node then
      if t.off = true then (if f.k = 2 then (if f.r ≤ t.since then none else some ⟨-1, false, 0, f.r + 4⟩) else none)
      else (if f.k = 1 then (if f.r - t.since < 2 then none else some ⟨t.node, true, f.r, t.well⟩) else none)
    else none
  else if f.k = 2 then none
  else if f.r < t.well then none
  else if f.k = 1 then some ⟨f.n, true, f.r, t.well⟩
  else if f.k = 6 then some ⟨f.n, false, f.r, t.well⟩
  else some ⟨t.node, t.off, t.since, f.r + 3⟩
def NextPost (q : Nat) (t : St) (f : Fa) (w : World) (e : Ending) (w' : World) : Prop :=
  (nextS t f = none ∧ e = .returned (.bool false) ∧ Below w.heap.size w w') ∨ ∃ t', nextS t f = some t' ∧ e = .returned (.bool true) ∧ Blk w' q 42 (encS t').toArray ∧ w.grownBy w' (some q)
set_option maxRecDepth 100000 in
set_option maxHeartbeats 3200000 in
theorem next_any (q : Nat) (t : St) (f : Fa) (w : World) (hq : Blk w q 42 (encS t).toArray) (hr : 0 ≤ f.r ∧ f.r < 16) (hs : 0 ≤ t.since ∧ t.since < 16) :
    Calls Try.prog 20 #[.pointer (some ⟨q, 0, none⟩), .agg (encF f).toArray] w (NextPost q t f w) := by
  have HF : Hid (∀ w', nextS t f = none → Below w.heap.size w w' → NextPost q t f w (.returned (.bool false)) w') := fun w' h1 h2 => .inl ⟨h1, rfl, h2⟩
  have HT : Hid (∀ w' t', nextS t f = some t' → Blk w' q 42 (encS t').toArray → w.grownBy w' (some q) → NextPost q t f w (.returned (.bool true)) w') := fun w' t' h1 h2 h3 => .inr ⟨t', h1, rfl, h2, h3⟩
  generalize NextPost q t f w = R at *
  have HB0 := Lib.hid (below1 w (.cells (encF f).toArray 33))
  have HX0 : Hid (Blk (w.alloc (.cells (encF f).toArray 33)) w.heap.size 33 (encF f).toArray) := Blk.new' rfl
  have HQ0 : Hid (Blk (w.alloc (.cells (encF f).toArray 33)) q 42 (encS t).toArray) := hq.alloc _
  have HNE : Hid (w.heap.size ≠ q) := blk_ne HX0.out HQ0.out (by decide)
  clear hq
  go_enter Try.func20, Try.ntmps20
  go_upto_region 2 with fail
  change Code.wp _ _ _ _ (w.alloc (.cells (encF f).toArray 33))
  generalize w.alloc (.cells (encF f).toArray 33) = W0 at *
  obtain ⟨b, hb⟩ : ∃ b, b = w.heap.size := ⟨_, rfl⟩
  rw [← hb] at HX0 HNE ⊢
  clear hb
  obtain ⟨node, off, since, well⟩ := t
  obtain ⟨k, n, c, r, s, a, b'⟩ := f
  simp only at hr hs
  have hw4 : IntKind.i64.wrap (r + 4) = r + 4 := IntWalk.i64_in _ (by omega)
  have hw3 : IntKind.i64.wrap (r + 3) = r + 3 := IntWalk.i64_in _ (by omega)
  have hws : IntKind.i64.wrap (r - since) = r - since := IntWalk.i64_in _ (by omega)
  have cr : W0.cell? ⟨b, 3, none⟩ = some (.int .i64 r) := HX0.out.list0 rfl
  have cn : W0.cell? ⟨b, 1, none⟩ = some (.int .i64 n) := HX0.out.list0 rfl
  have ck : W0.cell? ⟨b, 0, none⟩ = some (.int .i64 k) := HX0.out.list0 rfl
  have q0 : W0.cell? ⟨q, 0, none⟩ = some (.int .i64 node) := HQ0.out.list0 rfl
  have q1 : W0.cell? ⟨q, 1, none⟩ = some (.bool off) := HQ0.out.list0 rfl
  have q2 : W0.cell? ⟨q, 2, none⟩ = some (.int .i64 since) := HQ0.out.list0 rfl
  have q3 : W0.cell? ⟨q, 3, none⟩ = some (.int .i64 well) := HQ0.out.list0 rfl
  by_cases h1 : 0 ≤ node
  · by_cases h2 : n = node
    · cases off
      · by_cases h4 : k = 1
        · by_cases h5 : r - since < 2
          · have HNX : Hid (nextS ⟨node, false, since, well⟩ ⟨k, n, c, r, s, a, b'⟩ = none) := by show _ = _; unfold nextS; simp [h1, h2, h4, h5]
            have d1 : decide (0 ≤ node) = true := by simp; omega
            have e2 : (n != node) = false := by simp; omega
            have e4 : (k != 1) = false := by simp; omega
            have d5 : decide (r - since < 2) = true := by simp; omega
            go_upto_region 2 with fail
            go_quiet (fail)
            go_upto_region 9 with fail
            go_quiet (fail)
            go_wp2
            exact HF.out _ HNX.out (by first | exact HB0.out | exact below_drewN' HB0.out _ | exact below_drewN' (below_drewN' HB0.out _) _ | exact below_drewN' (below_drewN' (below_drewN' HB0.out _) _) _)
          · have HNX : Hid (nextS ⟨node, false, since, well⟩ ⟨k, n, c, r, s, a, b'⟩ = some ⟨node, true, r, well⟩) := by show _ = _; unfold nextS; simp [h1, h2, h4, h5]
            have d1 : decide (0 ≤ node) = true := by simp; omega
            have e2 : (n != node) = false := by simp; omega
            have e4 : (k != 1) = false := by simp; omega
            have d5 : decide (r - since < 2) = false := by simp; omega
            go_upto_region 2 with fail
            go_quiet (fail)
            go_upto_region 9 with fail
            go_quiet (fail)
            generalize hW : World.drewN _ _ = W1 at *
            have HX : Hid (Blk W1 b 33 (encF ⟨k, n, c, r, s, a, b'⟩).toArray) := by show Blk _ _ _ _; rw [← hW]; exact HX0.out
            have HQ : Hid (Blk W1 q 42 ([.int .i64 node, .bool false, .int .i64 since, .int .i64 well] : List Value).toArray) := by show Blk _ _ _ _; rw [← hW]; exact HQ0.out
            have HG : Hid (w.grownBy W1 (some q)) := by show World.grownBy _ _ _; rw [← hW]; exact grow_none (by first | exact below_drewN' HB0.out _ | exact below_drewN' (below_drewN' HB0.out _) _ | exact below_drewN' (below_drewN' (below_drewN' HB0.out _) _) _)
            clear hW cn ck cr q0 q1 q2 q3
            have cr : W1.cell? ⟨b, 3, none⟩ = some (.int .i64 r) := HX.out.list0 rfl
            have cn : W1.cell? ⟨b, 1, none⟩ = some (.int .i64 n) := HX.out.list0 rfl
            have ck : W1.cell? ⟨b, 0, none⟩ = some (.int .i64 k) := HX.out.list0 rfl
            go_upto_region 11 with fail
            have hS : Hid (Blk W1.drew b 33 (encF ⟨k, n, c, r, s, a, b'⟩).toArray) := HX.out
            replace HQ : Hid (Blk W1.drew q 42 ([.int .i64 node, .bool false, .int .i64 since, .int .i64 well] : List Value).toArray) := HQ.out
            replace HG : Hid (w.grownBy W1.drew (some q)) := HG.out.trans (grow_none (Below.refl _ _).drew)
            clear HX cr cn ck
            refine wp_region_held_drew (S := fun X => Hid (Blk X b 33 (encF ⟨k, n, c, r, s, a, b'⟩).toArray)) (by kernel_rfl) hS (fun hHeld => ?_)
            (refine takeW (i := 0) (v := ?_) rfl (by kernel_rfl) (by kernel_rfl) (by kernel_rfl) (fun _ _ _ h => h) (by rfl) (by assumption) ?_ ?_; rotate_left; (intro W hW; (try dsimp only at hW); go_simp; try with_reducible rfl); (try simp only [Act.put, List.setIfInBounds_toArray, List.set_cons_zero, List.set_cons_succ]))
            (refine takeW (i := 1) (v := ?_) rfl (by kernel_rfl) (by kernel_rfl) (by kernel_rfl) (fun _ _ _ h => h) (by rfl) (by assumption) ?_ ?_; rotate_left; (intro W hW; (try dsimp only at hW); go_simp; try with_reducible rfl); (try simp only [Act.put, List.setIfInBounds_toArray, List.set_cons_zero, List.set_cons_succ]))
            (refine takeW (i := 2) (v := ?_) rfl (by kernel_rfl) (by kernel_rfl) (by kernel_rfl) (fun _ _ _ h => h) (by rfl) (by assumption) ?_ ?_; rotate_left; (intro W hW; (try dsimp only at hW); go_simp; try with_reducible rfl); (try simp only [Act.put, List.setIfInBounds_toArray, List.set_cons_zero, List.set_cons_succ]))
            (refine takeW (i := 3) rfl (by kernel_rfl) (by kernel_rfl) (by kernel_rfl) (fun _ _ _ h => h) (by rfl) (by assumption) (fun W hW => exec_load1 (v := .int .i64 r) F3 rfl rfl (hW.out.list0 (j := 3) rfl)) ?_; (try simp only [Act.put, List.setIfInBounds_toArray, List.set_cons_zero, List.set_cons_succ]))
            (refine takeW (i := 4) (v := ?_) rfl (by kernel_rfl) (by kernel_rfl) (by kernel_rfl) (fun _ _ _ h => h) (by rfl) (by assumption) ?_ ?_; rotate_left; (intro W hW; (try dsimp only at hW); go_simp; try with_reducible rfl); (try simp only [Act.put, List.setIfInBounds_toArray, List.set_cons_zero, List.set_cons_succ]))
            (refine takeW (i := 5) (v := ?_) rfl (by kernel_rfl) (by kernel_rfl) (by kernel_rfl) (fun _ _ _ h => h) (by rfl) (by assumption) ?_ ?_; rotate_left; (intro W hW; (try dsimp only at hW); go_simp; try with_reducible rfl); (try simp only [Act.put, List.setIfInBounds_toArray, List.set_cons_zero, List.set_cons_succ]))
            refine takeVs (i := 6) rfl (by kernel_rfl) (by rfl) (exec_store1 F4 (p := ⟨q, 1, none⟩) (v := .bool true) rfl rfl rfl rfl rfl (HQ.out.list0 (j := 1) rfl) (HQ.out.frozen 1)) (Lib.hid (hHeld.out.far (p := ⟨q, 1, none⟩) HNE.out _)) ?_
            have hHeld : Hid (Blk (W1.drew.setCell ⟨q, 1, none⟩ (.bool true)) b 33 (encF ⟨k, n, c, r, s, a, b'⟩).toArray) := Lib.hid (hHeld.out.far (p := ⟨q, 1, none⟩) HNE.out _)
            have HQ' : Hid (Blk (W1.drew.setCell ⟨q, 1, none⟩ (.bool true)) q 42 ([.int .i64 node, .bool true, .int .i64 since, .int .i64 well] : List Value).toArray) := by show Blk _ _ _ _; have h := HQ.out.set 1 (.bool true); simpa using h
            replace HQ := HQ'
            clear HQ'
            replace HG : Hid (w.grownBy (W1.drew.setCell ⟨q, 1, none⟩ (.bool true)) (some q)) := HG.out.trans (grownBy_setCell _ ⟨q, 1, none⟩ _)
            (refine takeW (i := 7) (v := ?_) rfl (by kernel_rfl) (by kernel_rfl) (by kernel_rfl) (fun _ _ _ h => h) (by rfl) (by assumption) ?_ ?_; rotate_left; (intro W hW; (try dsimp only at hW); go_simp; try with_reducible rfl); (try simp only [Act.put, List.setIfInBounds_toArray, List.set_cons_zero, List.set_cons_succ]))
            (refine takeW (i := 8) (v := ?_) rfl (by kernel_rfl) (by kernel_rfl) (by kernel_rfl) (fun _ _ _ h => h) (by rfl) (by assumption) ?_ ?_; rotate_left; (intro W hW; (try dsimp only at hW); go_simp; try with_reducible rfl); (try simp only [Act.put, List.setIfInBounds_toArray, List.set_cons_zero, List.set_cons_succ]))
            refine takeVs (i := 9) rfl (by kernel_rfl) (by rfl) (exec_store1 F3 (p := ⟨q, 2, none⟩) (v := .int .i64 r) rfl rfl rfl rfl rfl (HQ.out.list0 (j := 2) rfl) (HQ.out.frozen 2)) (Lib.hid (hHeld.out.far (p := ⟨q, 2, none⟩) HNE.out _)) ?_
            have hHeld : Hid (Blk ((W1.drew.setCell ⟨q, 1, none⟩ (.bool true)).setCell ⟨q, 2, none⟩ (.int .i64 r)) b 33 (encF ⟨k, n, c, r, s, a, b'⟩).toArray) := Lib.hid (hHeld.out.far (p := ⟨q, 2, none⟩) HNE.out _)
            have HQ' : Hid (Blk ((W1.drew.setCell ⟨q, 1, none⟩ (.bool true)).setCell ⟨q, 2, none⟩ (.int .i64 r)) q 42 ([.int .i64 node, .bool true, .int .i64 r, .int .i64 well] : List Value).toArray) := by show Blk _ _ _ _; have h := HQ.out.set 2 (.int .i64 r); simpa using h
            replace HQ := HQ'
            clear HQ'
            replace HG : Hid (w.grownBy ((W1.drew.setCell ⟨q, 1, none⟩ (.bool true)).setCell ⟨q, 2, none⟩ (.int .i64 r)) (some q)) := HG.out.trans (grownBy_setCell _ ⟨q, 2, none⟩ _)
            refine wpAnyH_done (by kernel_rfl) ?_ _
            clear hHeld
            go_wp2
            exact HT.out _ _ HNX.out HQ.out HG.out
        · have HNX : Hid (nextS ⟨node, false, since, well⟩ ⟨k, n, c, r, s, a, b'⟩ = none) := by show _ = _; unfold nextS; simp [h1, h2, h4]
          have d1 : decide (0 ≤ node) = true := by simp; omega
          have e2 : (n != node) = false := by simp; omega
          have e4 : (k != 1) = true := by simp; omega
          go_upto_region 2 with fail
          go_quiet (fail)
          go_upto_region 9 with fail
          go_quiet (fail)
          go_wp2
          exact HF.out _ HNX.out (by first | exact HB0.out | exact below_drewN' HB0.out _ | exact below_drewN' (below_drewN' HB0.out _) _ | exact below_drewN' (below_drewN' (below_drewN' HB0.out _) _) _)
      · by_cases h4 : k = 2
        · by_cases h5 : r ≤ since
          · have HNX : Hid (nextS ⟨node, true, since, well⟩ ⟨k, n, c, r, s, a, b'⟩ = none) := by show _ = _; unfold nextS; simp [h1, h2, h4, h5]
            have d1 : decide (0 ≤ node) = true := by simp; omega
            have e2 : (n != node) = false := by simp; omega
            have e4 : (k != 2) = false := by simp; omega
            have d5 : decide (r ≤ since) = true := by simp; omega
            go_upto_region 2 with fail
            go_quiet (fail)
            go_upto_region 5 with fail
            go_quiet (fail)
            go_wp2
            exact HF.out _ HNX.out (by first | exact HB0.out | exact below_drewN' HB0.out _ | exact below_drewN' (below_drewN' HB0.out _) _ | exact below_drewN' (below_drewN' (below_drewN' HB0.out _) _) _)
          · have HNX : Hid (nextS ⟨node, true, since, well⟩ ⟨k, n, c, r, s, a, b'⟩ = some ⟨-1, false, 0, r + 4⟩) := by show _ = _; unfold nextS; simp [h1, h2, h4, h5]
            have d1 : decide (0 ≤ node) = true := by simp; omega
            have e2 : (n != node) = false := by simp; omega
            have e4 : (k != 2) = false := by simp; omega
            have d5 : decide (r ≤ since) = false := by simp; omega
            go_upto_region 2 with fail
            go_quiet (fail)
            go_upto_region 5 with fail
            go_quiet (fail)
            generalize hW : World.drewN _ _ = W1 at *
            have HX : Hid (Blk W1 b 33 (encF ⟨k, n, c, r, s, a, b'⟩).toArray) := by show Blk _ _ _ _; rw [← hW]; exact HX0.out
            have HQ : Hid (Blk W1 q 42 ([.int .i64 node, .bool true, .int .i64 since, .int .i64 well] : List Value).toArray) := by show Blk _ _ _ _; rw [← hW]; exact HQ0.out
            have HG : Hid (w.grownBy W1 (some q)) := by show World.grownBy _ _ _; rw [← hW]; exact grow_none (by first | exact below_drewN' HB0.out _ | exact below_drewN' (below_drewN' HB0.out _) _ | exact below_drewN' (below_drewN' (below_drewN' HB0.out _) _) _)
            clear hW cn ck cr q0 q1 q2 q3
            have cr : W1.cell? ⟨b, 3, none⟩ = some (.int .i64 r) := HX.out.list0 rfl
            have cn : W1.cell? ⟨b, 1, none⟩ = some (.int .i64 n) := HX.out.list0 rfl
            have ck : W1.cell? ⟨b, 0, none⟩ = some (.int .i64 k) := HX.out.list0 rfl
            go_wp2_with ((with_reducible show wpList _ _ _ (Oper.mk none (Op.store 42 _ _) _ _ _ _ :: _) _ _); refine wpList_storePart W42 rfl rfl rfl (cs := [.int .i64 (-1), .bool false, .int .i64 0, .int .i64 (r + 4)]) rfl rfl (st_one _ _ _ _) HQ.out (Nat.le_of_ble_eq_true rfl) ?_; intro W2 hb2 hg2; have HQ2 := Lib.hid hb2; have HG2 := Lib.hid (HG.out.trans hg2); clear hb2 hg2)
            exact HT.out _ _ HNX.out HQ2.out HG2.out
        · have HNX : Hid (nextS ⟨node, true, since, well⟩ ⟨k, n, c, r, s, a, b'⟩ = none) := by show _ = _; unfold nextS; simp [h1, h2, h4]
          have d1 : decide (0 ≤ node) = true := by simp; omega
          have e2 : (n != node) = false := by simp; omega
          have e4 : (k != 2) = true := by simp; omega
          go_upto_region 2 with fail
          go_quiet (fail)
          go_upto_region 5 with fail
          go_quiet (fail)
          go_wp2
          exact HF.out _ HNX.out (by first | exact HB0.out | exact below_drewN' HB0.out _ | exact below_drewN' (below_drewN' HB0.out _) _ | exact below_drewN' (below_drewN' (below_drewN' HB0.out _) _) _)
    · have HNX : Hid (nextS ⟨node, off, since, well⟩ ⟨k, n, c, r, s, a, b'⟩ = none) := by show _ = _; unfold nextS; simp [h1, h2]
      have d1 : decide (0 ≤ node) = true := by simp; omega
      have e2 : (n != node) = true := by simp; omega
      go_upto_region 2 with fail
      go_quiet (fail)
      go_wp2
      exact HF.out _ HNX.out (by first | exact HB0.out | exact below_drewN' HB0.out _ | exact below_drewN' (below_drewN' HB0.out _) _ | exact below_drewN' (below_drewN' (below_drewN' HB0.out _) _) _)
  · by_cases h2 : k = 2
    · have HNX : Hid (nextS ⟨node, off, since, well⟩ ⟨k, n, c, r, s, a, b'⟩ = none) := by show _ = _; unfold nextS; simp [h1, h2]
      have d1 : decide (0 ≤ node) = false := by simp; omega
      have e2 : (k == 2) = true := by simp; omega
      go_upto_region 2 with fail
      go_quiet (fail)
      go_upto_region 12 with fail
      go_quiet (fail)
      go_wp2
      exact HF.out _ HNX.out (by first | exact HB0.out | exact below_drewN' HB0.out _ | exact below_drewN' (below_drewN' HB0.out _) _ | exact below_drewN' (below_drewN' (below_drewN' HB0.out _) _) _)
    · by_cases h3 : r < well
      · have HNX : Hid (nextS ⟨node, off, since, well⟩ ⟨k, n, c, r, s, a, b'⟩ = none) := by show _ = _; unfold nextS; simp [h1, h2, h3]
        have d1 : decide (0 ≤ node) = false := by simp; omega
        have e2 : (k == 2) = false := by simp; omega
        have d3 : decide (r < well) = true := by simp; omega
        go_upto_region 2 with fail
        go_quiet (fail)
        go_upto_region 12 with fail
        go_quiet (fail)
        go_wp2
        exact HF.out _ HNX.out (by first | exact HB0.out | exact below_drewN' HB0.out _ | exact below_drewN' (below_drewN' HB0.out _) _ | exact below_drewN' (below_drewN' (below_drewN' HB0.out _) _) _)
      · by_cases h4 : k = 1
        · have HNX : Hid (nextS ⟨node, off, since, well⟩ ⟨k, n, c, r, s, a, b'⟩ = some ⟨n, true, r, well⟩) := by show _ = _; unfold nextS; simp [h1, h3, h4]
          have d1 : decide (0 ≤ node) = false := by simp; omega
          have e2 : (k == 2) = false := by simp; omega
          have d3 : decide (r < well) = false := by simp; omega
          have e4 : (k == 1) = true := by simp; omega
          go_upto_region 2 with fail
          go_quiet (fail)
          go_upto_region 12 with fail
          go_quiet (fail)
          generalize hW : World.drewN _ _ = W1 at *
          have HX : Hid (Blk W1 b 33 (encF ⟨k, n, c, r, s, a, b'⟩).toArray) := by show Blk _ _ _ _; rw [← hW]; exact HX0.out
          have HQ : Hid (Blk W1 q 42 ([.int .i64 node, .bool off, .int .i64 since, .int .i64 well] : List Value).toArray) := by show Blk _ _ _ _; rw [← hW]; exact HQ0.out
          have HG : Hid (w.grownBy W1 (some q)) := by show World.grownBy _ _ _; rw [← hW]; exact grow_none (by first | exact below_drewN' HB0.out _ | exact below_drewN' (below_drewN' HB0.out _) _ | exact below_drewN' (below_drewN' (below_drewN' HB0.out _) _) _)
          clear hW cn ck cr q0 q1 q2 q3
          have cr : W1.cell? ⟨b, 3, none⟩ = some (.int .i64 r) := HX.out.list0 rfl
          have cn : W1.cell? ⟨b, 1, none⟩ = some (.int .i64 n) := HX.out.list0 rfl
          have ck : W1.cell? ⟨b, 0, none⟩ = some (.int .i64 k) := HX.out.list0 rfl
          go_upto_region 15 with fail
          have hS : Hid (Blk W1.drew b 33 (encF ⟨k, n, c, r, s, a, b'⟩).toArray) := HX.out
          replace HQ : Hid (Blk W1.drew q 42 ([.int .i64 node, .bool off, .int .i64 since, .int .i64 well] : List Value).toArray) := HQ.out
          replace HG : Hid (w.grownBy W1.drew (some q)) := HG.out.trans (grow_none (Below.refl _ _).drew)
          clear HX cr cn ck
          refine wp_region_held_drew (S := fun X => Hid (Blk X b 33 (encF ⟨k, n, c, r, s, a, b'⟩).toArray)) (by kernel_rfl) hS (fun hHeld => ?_)
          (refine takeW (i := 0) (v := ?_) rfl (by kernel_rfl) (by kernel_rfl) (by kernel_rfl) (fun _ _ _ h => h) (by rfl) (by assumption) ?_ ?_; rotate_left; (intro W hW; (try dsimp only at hW); go_simp; try with_reducible rfl); (try simp only [Act.put, List.setIfInBounds_toArray, List.set_cons_zero, List.set_cons_succ]))
          (refine takeW (i := 1) (v := ?_) rfl (by kernel_rfl) (by kernel_rfl) (by kernel_rfl) (fun _ _ _ h => h) (by rfl) (by assumption) ?_ ?_; rotate_left; (intro W hW; (try dsimp only at hW); go_simp; try with_reducible rfl); (try simp only [Act.put, List.setIfInBounds_toArray, List.set_cons_zero, List.set_cons_succ]))
          (refine takeW (i := 2) (v := ?_) rfl (by kernel_rfl) (by kernel_rfl) (by kernel_rfl) (fun _ _ _ h => h) (by rfl) (by assumption) ?_ ?_; rotate_left; (intro W hW; (try dsimp only at hW); go_simp; try with_reducible rfl); (try simp only [Act.put, List.setIfInBounds_toArray, List.set_cons_zero, List.set_cons_succ]))
          (refine takeW (i := 3) (v := ?_) rfl (by kernel_rfl) (by kernel_rfl) (by kernel_rfl) (fun _ _ _ h => h) (by rfl) (by assumption) ?_ ?_; rotate_left; (intro W hW; (try dsimp only at hW); go_simp; try with_reducible rfl); (try simp only [Act.put, List.setIfInBounds_toArray, List.set_cons_zero, List.set_cons_succ]))
          (refine takeW (i := 4) rfl (by kernel_rfl) (by kernel_rfl) (by kernel_rfl) (fun _ _ _ h => h) (by rfl) (by assumption) (fun W hW => exec_load1 (v := .int .i64 n) F3 rfl rfl (hW.out.list0 (j := 1) rfl)) ?_; (try simp only [Act.put, List.setIfInBounds_toArray, List.set_cons_zero, List.set_cons_succ]))
          (refine takeW (i := 5) (v := ?_) rfl (by kernel_rfl) (by kernel_rfl) (by kernel_rfl) (fun _ _ _ h => h) (by rfl) (by assumption) ?_ ?_; rotate_left; (intro W hW; (try dsimp only at hW); go_simp; try with_reducible rfl); (try simp only [Act.put, List.setIfInBounds_toArray, List.set_cons_zero, List.set_cons_succ]))
          (refine takeW (i := 6) rfl (by kernel_rfl) (by kernel_rfl) (by kernel_rfl) (fun _ _ _ h => h) (by rfl) (by assumption) (fun W hW => exec_load1 (v := .int .i64 k) F3 rfl rfl (hW.out.list0 (j := 0) rfl)) ?_; (try simp only [Act.put, List.setIfInBounds_toArray, List.set_cons_zero, List.set_cons_succ]))
          (refine takeW (i := 7) (v := ?_) rfl (by kernel_rfl) (by kernel_rfl) (by kernel_rfl) (fun _ _ _ h => h) (by rfl) (by assumption) ?_ ?_; rotate_left; (intro W hW; (try dsimp only at hW); go_simp; try with_reducible rfl); (try simp only [Act.put, List.setIfInBounds_toArray, List.set_cons_zero, List.set_cons_succ]))
          (refine takeW (i := 8) (v := ?_) rfl (by kernel_rfl) (by kernel_rfl) (by kernel_rfl) (fun _ _ _ h => h) (by rfl) (by assumption) ?_ ?_; rotate_left; (intro W hW; (try dsimp only at hW); go_simp; try with_reducible rfl); (try simp only [Act.put, List.setIfInBounds_toArray, List.set_cons_zero, List.set_cons_succ]))
          (refine takeW (i := 9) rfl (by kernel_rfl) (by kernel_rfl) (by kernel_rfl) (fun _ _ _ h => h) (by rfl) (by assumption) (fun W hW => exec_load1 (v := .int .i64 r) F3 rfl rfl (hW.out.list0 (j := 3) rfl)) ?_; (try simp only [Act.put, List.setIfInBounds_toArray, List.set_cons_zero, List.set_cons_succ]))
          (refine takeW (i := 10) (v := ?_) rfl (by kernel_rfl) (by kernel_rfl) (by kernel_rfl) (fun _ _ _ h => h) (by rfl) (by assumption) ?_ ?_; rotate_left; (intro W hW; (try dsimp only at hW); go_simp; try with_reducible rfl); (try simp only [Act.put, List.setIfInBounds_toArray, List.set_cons_zero, List.set_cons_succ]))
          (refine takeW (i := 11) (v := ?_) rfl (by kernel_rfl) (by kernel_rfl) (by kernel_rfl) (fun _ _ _ h => h) (by rfl) (by assumption) ?_ ?_; rotate_left; (intro W hW; (try dsimp only at hW); go_simp; try with_reducible rfl); (try simp only [Act.put, List.setIfInBounds_toArray, List.set_cons_zero, List.set_cons_succ]))
          refine takeVs (i := 12) rfl (by kernel_rfl) (by rfl) (exec_store1 F3 (p := ⟨q, 0, none⟩) (v := .int .i64 n) rfl rfl rfl rfl rfl (HQ.out.list0 (j := 0) rfl) (HQ.out.frozen 0)) (Lib.hid (hHeld.out.far (p := ⟨q, 0, none⟩) HNE.out _)) ?_
          have hHeld : Hid (Blk (W1.drew.setCell ⟨q, 0, none⟩ (.int .i64 n)) b 33 (encF ⟨k, n, c, r, s, a, b'⟩).toArray) := Lib.hid (hHeld.out.far (p := ⟨q, 0, none⟩) HNE.out _)
          have HQ' : Hid (Blk (W1.drew.setCell ⟨q, 0, none⟩ (.int .i64 n)) q 42 ([.int .i64 n, .bool off, .int .i64 since, .int .i64 well] : List Value).toArray) := by show Blk _ _ _ _; have h := HQ.out.set 0 (.int .i64 n); simpa using h
          replace HQ := HQ'
          clear HQ'
          replace HG : Hid (w.grownBy (W1.drew.setCell ⟨q, 0, none⟩ (.int .i64 n)) (some q)) := HG.out.trans (grownBy_setCell _ ⟨q, 0, none⟩ _)
          (refine takeW (i := 13) (v := ?_) rfl (by kernel_rfl) (by kernel_rfl) (by kernel_rfl) (fun _ _ _ h => h) (by rfl) (by assumption) ?_ ?_; rotate_left; (intro W hW; (try dsimp only at hW); go_simp; try with_reducible rfl); (try simp only [Act.put, List.setIfInBounds_toArray, List.set_cons_zero, List.set_cons_succ]))
          (refine takeW (i := 14) (v := ?_) rfl (by kernel_rfl) (by kernel_rfl) (by kernel_rfl) (fun _ _ _ h => h) (by rfl) (by assumption) ?_ ?_; rotate_left; (intro W hW; (try dsimp only at hW); go_simp; try with_reducible rfl); (try simp only [Act.put, List.setIfInBounds_toArray, List.set_cons_zero, List.set_cons_succ]))
          refine takeVs (i := 15) rfl (by kernel_rfl) (by rfl) (exec_store1 F4 (p := ⟨q, 1, none⟩) (v := .bool true) rfl rfl rfl rfl rfl (HQ.out.list0 (j := 1) rfl) (HQ.out.frozen 1)) (Lib.hid (hHeld.out.far (p := ⟨q, 1, none⟩) HNE.out _)) ?_
          have hHeld : Hid (Blk ((W1.drew.setCell ⟨q, 0, none⟩ (.int .i64 n)).setCell ⟨q, 1, none⟩ (.bool true)) b 33 (encF ⟨k, n, c, r, s, a, b'⟩).toArray) := Lib.hid (hHeld.out.far (p := ⟨q, 1, none⟩) HNE.out _)
          have HQ' : Hid (Blk ((W1.drew.setCell ⟨q, 0, none⟩ (.int .i64 n)).setCell ⟨q, 1, none⟩ (.bool true)) q 42 ([.int .i64 n, .bool true, .int .i64 since, .int .i64 well] : List Value).toArray) := by show Blk _ _ _ _; have h := HQ.out.set 1 (.bool true); simpa using h
          replace HQ := HQ'
          clear HQ'
          replace HG : Hid (w.grownBy ((W1.drew.setCell ⟨q, 0, none⟩ (.int .i64 n)).setCell ⟨q, 1, none⟩ (.bool true)) (some q)) := HG.out.trans (grownBy_setCell _ ⟨q, 1, none⟩ _)
          (refine takeW (i := 16) (v := ?_) rfl (by kernel_rfl) (by kernel_rfl) (by kernel_rfl) (fun _ _ _ h => h) (by rfl) (by assumption) ?_ ?_; rotate_left; (intro W hW; (try dsimp only at hW); go_simp; try with_reducible rfl); (try simp only [Act.put, List.setIfInBounds_toArray, List.set_cons_zero, List.set_cons_succ]))
          (refine takeW (i := 17) (v := ?_) rfl (by kernel_rfl) (by kernel_rfl) (by kernel_rfl) (fun _ _ _ h => h) (by rfl) (by assumption) ?_ ?_; rotate_left; (intro W hW; (try dsimp only at hW); go_simp; try with_reducible rfl); (try simp only [Act.put, List.setIfInBounds_toArray, List.set_cons_zero, List.set_cons_succ]))
          refine takeVs (i := 18) rfl (by kernel_rfl) (by rfl) (exec_store1 F3 (p := ⟨q, 2, none⟩) (v := .int .i64 r) rfl rfl rfl rfl rfl (HQ.out.list0 (j := 2) rfl) (HQ.out.frozen 2)) (Lib.hid (hHeld.out.far (p := ⟨q, 2, none⟩) HNE.out _)) ?_
          have hHeld : Hid (Blk (((W1.drew.setCell ⟨q, 0, none⟩ (.int .i64 n)).setCell ⟨q, 1, none⟩ (.bool true)).setCell ⟨q, 2, none⟩ (.int .i64 r)) b 33 (encF ⟨k, n, c, r, s, a, b'⟩).toArray) := Lib.hid (hHeld.out.far (p := ⟨q, 2, none⟩) HNE.out _)
          have HQ' : Hid (Blk (((W1.drew.setCell ⟨q, 0, none⟩ (.int .i64 n)).setCell ⟨q, 1, none⟩ (.bool true)).setCell ⟨q, 2, none⟩ (.int .i64 r)) q 42 ([.int .i64 n, .bool true, .int .i64 r, .int .i64 well] : List Value).toArray) := by show Blk _ _ _ _; have h := HQ.out.set 2 (.int .i64 r); simpa using h
          replace HQ := HQ'
          clear HQ'
          replace HG : Hid (w.grownBy (((W1.drew.setCell ⟨q, 0, none⟩ (.int .i64 n)).setCell ⟨q, 1, none⟩ (.bool true)).setCell ⟨q, 2, none⟩ (.int .i64 r)) (some q)) := HG.out.trans (grownBy_setCell _ ⟨q, 2, none⟩ _)
          refine wpAnyH_done (by kernel_rfl) ?_ _
          clear hHeld
          go_wp2
          exact HT.out _ _ HNX.out HQ.out HG.out
        · by_cases h5 : k = 6
          · have HNX : Hid (nextS ⟨node, off, since, well⟩ ⟨k, n, c, r, s, a, b'⟩ = some ⟨n, false, r, well⟩) := by show _ = _; unfold nextS; simp [h1, h3, h5]
            have d1 : decide (0 ≤ node) = false := by simp; omega
            have e2 : (k == 2) = false := by simp; omega
            have d3 : decide (r < well) = false := by simp; omega
            have e4 : (k == 1) = false := by simp; omega
            have e5 : (k == 6) = true := by simp; omega
            go_upto_region 2 with fail
            go_quiet (fail)
            go_upto_region 12 with fail
            go_quiet (fail)
            generalize hW : World.drewN _ _ = W1 at *
            have HX : Hid (Blk W1 b 33 (encF ⟨k, n, c, r, s, a, b'⟩).toArray) := by show Blk _ _ _ _; rw [← hW]; exact HX0.out
            have HQ : Hid (Blk W1 q 42 ([.int .i64 node, .bool off, .int .i64 since, .int .i64 well] : List Value).toArray) := by show Blk _ _ _ _; rw [← hW]; exact HQ0.out
            have HG : Hid (w.grownBy W1 (some q)) := by show World.grownBy _ _ _; rw [← hW]; exact grow_none (by first | exact below_drewN' HB0.out _ | exact below_drewN' (below_drewN' HB0.out _) _ | exact below_drewN' (below_drewN' (below_drewN' HB0.out _) _) _)
            clear hW cn ck cr q0 q1 q2 q3
            have cr : W1.cell? ⟨b, 3, none⟩ = some (.int .i64 r) := HX.out.list0 rfl
            have cn : W1.cell? ⟨b, 1, none⟩ = some (.int .i64 n) := HX.out.list0 rfl
            have ck : W1.cell? ⟨b, 0, none⟩ = some (.int .i64 k) := HX.out.list0 rfl
            go_upto_region 15 with fail
            have hS : Hid (Blk W1.drew b 33 (encF ⟨k, n, c, r, s, a, b'⟩).toArray) := HX.out
            replace HQ : Hid (Blk W1.drew q 42 ([.int .i64 node, .bool off, .int .i64 since, .int .i64 well] : List Value).toArray) := HQ.out
            replace HG : Hid (w.grownBy W1.drew (some q)) := HG.out.trans (grow_none (Below.refl _ _).drew)
            clear HX cr cn ck
            refine wp_region_held_drew (S := fun X => Hid (Blk X b 33 (encF ⟨k, n, c, r, s, a, b'⟩).toArray)) (by kernel_rfl) hS (fun hHeld => ?_)
            (refine takeW (i := 0) (v := ?_) rfl (by kernel_rfl) (by kernel_rfl) (by kernel_rfl) (fun _ _ _ h => h) (by rfl) (by assumption) ?_ ?_; rotate_left; (intro W hW; (try dsimp only at hW); go_simp; try with_reducible rfl); (try simp only [Act.put, List.setIfInBounds_toArray, List.set_cons_zero, List.set_cons_succ]))
            (refine takeW (i := 1) (v := ?_) rfl (by kernel_rfl) (by kernel_rfl) (by kernel_rfl) (fun _ _ _ h => h) (by rfl) (by assumption) ?_ ?_; rotate_left; (intro W hW; (try dsimp only at hW); go_simp; try with_reducible rfl); (try simp only [Act.put, List.setIfInBounds_toArray, List.set_cons_zero, List.set_cons_succ]))
            (refine takeW (i := 2) (v := ?_) rfl (by kernel_rfl) (by kernel_rfl) (by kernel_rfl) (fun _ _ _ h => h) (by rfl) (by assumption) ?_ ?_; rotate_left; (intro W hW; (try dsimp only at hW); go_simp; try with_reducible rfl); (try simp only [Act.put, List.setIfInBounds_toArray, List.set_cons_zero, List.set_cons_succ]))
            (refine takeW (i := 3) (v := ?_) rfl (by kernel_rfl) (by kernel_rfl) (by kernel_rfl) (fun _ _ _ h => h) (by rfl) (by assumption) ?_ ?_; rotate_left; (intro W hW; (try dsimp only at hW); go_simp; try with_reducible rfl); (try simp only [Act.put, List.setIfInBounds_toArray, List.set_cons_zero, List.set_cons_succ]))
            (refine takeW (i := 4) rfl (by kernel_rfl) (by kernel_rfl) (by kernel_rfl) (fun _ _ _ h => h) (by rfl) (by assumption) (fun W hW => exec_load1 (v := .int .i64 n) F3 rfl rfl (hW.out.list0 (j := 1) rfl)) ?_; (try simp only [Act.put, List.setIfInBounds_toArray, List.set_cons_zero, List.set_cons_succ]))
            (refine takeW (i := 5) (v := ?_) rfl (by kernel_rfl) (by kernel_rfl) (by kernel_rfl) (fun _ _ _ h => h) (by rfl) (by assumption) ?_ ?_; rotate_left; (intro W hW; (try dsimp only at hW); go_simp; try with_reducible rfl); (try simp only [Act.put, List.setIfInBounds_toArray, List.set_cons_zero, List.set_cons_succ]))
            (refine takeW (i := 6) rfl (by kernel_rfl) (by kernel_rfl) (by kernel_rfl) (fun _ _ _ h => h) (by rfl) (by assumption) (fun W hW => exec_load1 (v := .int .i64 k) F3 rfl rfl (hW.out.list0 (j := 0) rfl)) ?_; (try simp only [Act.put, List.setIfInBounds_toArray, List.set_cons_zero, List.set_cons_succ]))
            (refine takeW (i := 7) (v := ?_) rfl (by kernel_rfl) (by kernel_rfl) (by kernel_rfl) (fun _ _ _ h => h) (by rfl) (by assumption) ?_ ?_; rotate_left; (intro W hW; (try dsimp only at hW); go_simp; try with_reducible rfl); (try simp only [Act.put, List.setIfInBounds_toArray, List.set_cons_zero, List.set_cons_succ]))
            (refine takeW (i := 8) (v := ?_) rfl (by kernel_rfl) (by kernel_rfl) (by kernel_rfl) (fun _ _ _ h => h) (by rfl) (by assumption) ?_ ?_; rotate_left; (intro W hW; (try dsimp only at hW); go_simp; try with_reducible rfl); (try simp only [Act.put, List.setIfInBounds_toArray, List.set_cons_zero, List.set_cons_succ]))
            (refine takeW (i := 9) rfl (by kernel_rfl) (by kernel_rfl) (by kernel_rfl) (fun _ _ _ h => h) (by rfl) (by assumption) (fun W hW => exec_load1 (v := .int .i64 r) F3 rfl rfl (hW.out.list0 (j := 3) rfl)) ?_; (try simp only [Act.put, List.setIfInBounds_toArray, List.set_cons_zero, List.set_cons_succ]))
            (refine takeW (i := 10) (v := ?_) rfl (by kernel_rfl) (by kernel_rfl) (by kernel_rfl) (fun _ _ _ h => h) (by rfl) (by assumption) ?_ ?_; rotate_left; (intro W hW; (try dsimp only at hW); go_simp; try with_reducible rfl); (try simp only [Act.put, List.setIfInBounds_toArray, List.set_cons_zero, List.set_cons_succ]))
            (refine takeW (i := 11) (v := ?_) rfl (by kernel_rfl) (by kernel_rfl) (by kernel_rfl) (fun _ _ _ h => h) (by rfl) (by assumption) ?_ ?_; rotate_left; (intro W hW; (try dsimp only at hW); go_simp; try with_reducible rfl); (try simp only [Act.put, List.setIfInBounds_toArray, List.set_cons_zero, List.set_cons_succ]))
            refine takeVs (i := 12) rfl (by kernel_rfl) (by rfl) (exec_store1 F3 (p := ⟨q, 0, none⟩) (v := .int .i64 n) rfl rfl rfl rfl rfl (HQ.out.list0 (j := 0) rfl) (HQ.out.frozen 0)) (Lib.hid (hHeld.out.far (p := ⟨q, 0, none⟩) HNE.out _)) ?_
            have hHeld : Hid (Blk (W1.drew.setCell ⟨q, 0, none⟩ (.int .i64 n)) b 33 (encF ⟨k, n, c, r, s, a, b'⟩).toArray) := Lib.hid (hHeld.out.far (p := ⟨q, 0, none⟩) HNE.out _)
            have HQ' : Hid (Blk (W1.drew.setCell ⟨q, 0, none⟩ (.int .i64 n)) q 42 ([.int .i64 n, .bool off, .int .i64 since, .int .i64 well] : List Value).toArray) := by show Blk _ _ _ _; have h := HQ.out.set 0 (.int .i64 n); simpa using h
            replace HQ := HQ'
            clear HQ'
            replace HG : Hid (w.grownBy (W1.drew.setCell ⟨q, 0, none⟩ (.int .i64 n)) (some q)) := HG.out.trans (grownBy_setCell _ ⟨q, 0, none⟩ _)
            (refine takeW (i := 13) (v := ?_) rfl (by kernel_rfl) (by kernel_rfl) (by kernel_rfl) (fun _ _ _ h => h) (by rfl) (by assumption) ?_ ?_; rotate_left; (intro W hW; (try dsimp only at hW); go_simp; try with_reducible rfl); (try simp only [Act.put, List.setIfInBounds_toArray, List.set_cons_zero, List.set_cons_succ]))
            (refine takeW (i := 14) (v := ?_) rfl (by kernel_rfl) (by kernel_rfl) (by kernel_rfl) (fun _ _ _ h => h) (by rfl) (by assumption) ?_ ?_; rotate_left; (intro W hW; (try dsimp only at hW); go_simp; try with_reducible rfl); (try simp only [Act.put, List.setIfInBounds_toArray, List.set_cons_zero, List.set_cons_succ]))
            refine takeVs (i := 15) rfl (by kernel_rfl) (by rfl) (exec_store1 F4 (p := ⟨q, 1, none⟩) (v := .bool false) rfl rfl rfl rfl rfl (HQ.out.list0 (j := 1) rfl) (HQ.out.frozen 1)) (Lib.hid (hHeld.out.far (p := ⟨q, 1, none⟩) HNE.out _)) ?_
            have hHeld : Hid (Blk ((W1.drew.setCell ⟨q, 0, none⟩ (.int .i64 n)).setCell ⟨q, 1, none⟩ (.bool false)) b 33 (encF ⟨k, n, c, r, s, a, b'⟩).toArray) := Lib.hid (hHeld.out.far (p := ⟨q, 1, none⟩) HNE.out _)
            have HQ' : Hid (Blk ((W1.drew.setCell ⟨q, 0, none⟩ (.int .i64 n)).setCell ⟨q, 1, none⟩ (.bool false)) q 42 ([.int .i64 n, .bool false, .int .i64 since, .int .i64 well] : List Value).toArray) := by show Blk _ _ _ _; have h := HQ.out.set 1 (.bool false); simpa using h
            replace HQ := HQ'
            clear HQ'
            replace HG : Hid (w.grownBy ((W1.drew.setCell ⟨q, 0, none⟩ (.int .i64 n)).setCell ⟨q, 1, none⟩ (.bool false)) (some q)) := HG.out.trans (grownBy_setCell _ ⟨q, 1, none⟩ _)
            (refine takeW (i := 16) (v := ?_) rfl (by kernel_rfl) (by kernel_rfl) (by kernel_rfl) (fun _ _ _ h => h) (by rfl) (by assumption) ?_ ?_; rotate_left; (intro W hW; (try dsimp only at hW); go_simp; try with_reducible rfl); (try simp only [Act.put, List.setIfInBounds_toArray, List.set_cons_zero, List.set_cons_succ]))
            (refine takeW (i := 17) (v := ?_) rfl (by kernel_rfl) (by kernel_rfl) (by kernel_rfl) (fun _ _ _ h => h) (by rfl) (by assumption) ?_ ?_; rotate_left; (intro W hW; (try dsimp only at hW); go_simp; try with_reducible rfl); (try simp only [Act.put, List.setIfInBounds_toArray, List.set_cons_zero, List.set_cons_succ]))
            refine takeVs (i := 18) rfl (by kernel_rfl) (by rfl) (exec_store1 F3 (p := ⟨q, 2, none⟩) (v := .int .i64 r) rfl rfl rfl rfl rfl (HQ.out.list0 (j := 2) rfl) (HQ.out.frozen 2)) (Lib.hid (hHeld.out.far (p := ⟨q, 2, none⟩) HNE.out _)) ?_
            have hHeld : Hid (Blk (((W1.drew.setCell ⟨q, 0, none⟩ (.int .i64 n)).setCell ⟨q, 1, none⟩ (.bool false)).setCell ⟨q, 2, none⟩ (.int .i64 r)) b 33 (encF ⟨k, n, c, r, s, a, b'⟩).toArray) := Lib.hid (hHeld.out.far (p := ⟨q, 2, none⟩) HNE.out _)
            have HQ' : Hid (Blk (((W1.drew.setCell ⟨q, 0, none⟩ (.int .i64 n)).setCell ⟨q, 1, none⟩ (.bool false)).setCell ⟨q, 2, none⟩ (.int .i64 r)) q 42 ([.int .i64 n, .bool false, .int .i64 r, .int .i64 well] : List Value).toArray) := by show Blk _ _ _ _; have h := HQ.out.set 2 (.int .i64 r); simpa using h
            replace HQ := HQ'
            clear HQ'
            replace HG : Hid (w.grownBy (((W1.drew.setCell ⟨q, 0, none⟩ (.int .i64 n)).setCell ⟨q, 1, none⟩ (.bool false)).setCell ⟨q, 2, none⟩ (.int .i64 r)) (some q)) := HG.out.trans (grownBy_setCell _ ⟨q, 2, none⟩ _)
            refine wpAnyH_done (by kernel_rfl) ?_ _
            clear hHeld
            go_wp2
            exact HT.out _ _ HNX.out HQ.out HG.out
          · have HNX : Hid (nextS ⟨node, off, since, well⟩ ⟨k, n, c, r, s, a, b'⟩ = some ⟨node, off, since, r + 3⟩) := by show _ = _; unfold nextS; simp [h1, h2, h3, h4, h5]
            have d1 : decide (0 ≤ node) = false := by simp; omega
            have e2 : (k == 2) = false := by simp; omega
            have d3 : decide (r < well) = false := by simp; omega
            have e4 : (k == 1) = false := by simp; omega
            have e5 : (k == 6) = false := by simp; omega
            go_upto_region 2 with fail
            go_quiet (fail)
            go_upto_region 12 with fail
            go_quiet (fail)
            generalize hW : World.drewN _ _ = W1 at *
            have HX : Hid (Blk W1 b 33 (encF ⟨k, n, c, r, s, a, b'⟩).toArray) := by show Blk _ _ _ _; rw [← hW]; exact HX0.out
            have HQ : Hid (Blk W1 q 42 ([.int .i64 node, .bool off, .int .i64 since, .int .i64 well] : List Value).toArray) := by show Blk _ _ _ _; rw [← hW]; exact HQ0.out
            have HG : Hid (w.grownBy W1 (some q)) := by show World.grownBy _ _ _; rw [← hW]; exact grow_none (by first | exact below_drewN' HB0.out _ | exact below_drewN' (below_drewN' HB0.out _) _ | exact below_drewN' (below_drewN' (below_drewN' HB0.out _) _) _)
            clear hW cn ck cr q0 q1 q2 q3
            have cr : W1.cell? ⟨b, 3, none⟩ = some (.int .i64 r) := HX.out.list0 rfl
            have cn : W1.cell? ⟨b, 1, none⟩ = some (.int .i64 n) := HX.out.list0 rfl
            have ck : W1.cell? ⟨b, 0, none⟩ = some (.int .i64 k) := HX.out.list0 rfl
            have hq3 : W1.cell? ⟨q, 3, none⟩ = some (.int .i64 well) := HQ.out.list0 rfl
            have hf3 : W1.frozen? ⟨q, 3, none⟩ = false := HQ.out.frozen 3
            go_wp2
            exact HT.out _ _ HNX.out (by have h := HQ.out.set 3 (.int .i64 (r + 3)); simpa [encS] using h) (HG.out.trans (grownBy_setCell _ ⟨q, 3, none⟩ _))
end Go.Proofs.Ytmflnbdajaiahaa
