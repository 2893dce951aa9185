/- The document's head: one of the first lines, read into a script. -/
import Derived.Test.YtkinhhkodaacjaaGreatDoorV4
namespace Go.Proofs.YtkinhhkodaacjaaGreatDoor
open Go.RowKit Go.Shelf
open Md

theorem results_cell2v {fn : Func} {a t : Tmp} {ty : TypeId} {n : Nat} {w : World} {P : Program} {tmps : Array Value} (h : fn.results = #[.cell a ty, .tmp t]) (hw : Wide P ty n) {b : Nat} (hp : tmps.getD a undef = .pointer (some ⟨b, 0, none⟩)) {cs : List Value} (hl : cs.length = n)
    (hc : ∀ j u, cs[j]? = some u → w.cell? ⟨b, 0 + j, none⟩ = some u) {v : Value} (hv : tmps.getD t undef = v) : (results fn tmps).run P w = .ok (.tuple #[.agg cs.toArray, v]) w := by
  subst hv
  exact results_cell2 h hw hp hl hc
theorem below_setRow {B b : Nat} {w W : World} {cs : Array Value} (h : Below B w W) (hB : B ≤ b) : Below B w (W.setRow b cs) :=
  ⟨h.os, h.tape, h.output, by have := h.size; simpa [World.setRow] using this, fun j hj => by
    simp only [World.setRow, Array.getElem?_modify, if_neg (show ¬ b = j by omega)]
    exact h.block j hj⟩
theorem Blk.farRow {b g : Nat} {t : TypeId} {cs cs' : Array Value} {W : World} (h : Blk W b t cs) (hne : b ≠ g) : Blk (W.setRow g cs') b t cs := by
  have e : (W.setRow g cs').heap[b]? = W.heap[b]? := by
    simp only [World.setRow, Array.getElem?_modify, if_neg (show ¬ g = b from fun e => hne e.symm)]
  exact e.trans h
def RHeadP (B : Nat) (x : Sc) (n : Nat) (ws : List (List UInt8)) (W : World) (e : Ending) (w' : World) : Prop :=
  Below B W w' ∧ ∃ (ok : Bool) (y : Sc), e = .returned (.tuple #[.agg (encSc y).toArray, .bool ok]) ∧ match headS x.k n ws with
    | none => ok = false
    | some k => ok = true ∧ y.k = k ∧ OwnS B w' y
theorem own_cellL0 {W : World} {B : Nat} {e : TypeId} {g n c m : Nat} {xs : List Value} (h : W.ownsRow B e 1 (.slice (some ⟨g, 0, none⟩) n c) m xs) {j : Nat} {u : Value} (hj : xs[j]? = some u) : W.cell? ⟨g, j, none⟩ = some u := by
  rcases h.2 with ⟨e0, _⟩ | ⟨g', cap', cur', e0, hb, hh, h1, h2, h3, h4⟩
  · cases e0
  · simp only [Value.slice.injEq, Option.some.injEq, Addr.mk.injEq, and_true] at e0
    obtain ⟨rfl, -, -⟩ := e0
    rw [Lib.cell_of_heap hh]
    have e2 : (cur'.toList.take (m * 1))[j]? = some u := by rw [h4]; exact hj
    rw [List.getElem?_take] at e2
    split at e2
    · simpa using e2
    · cases e2
set_option maxRecDepth 100000 in
set_option maxHeartbeats 3200000 in
theorem rhead_any (B : Nat) (x : Sc) (n : Nat) (wv : Value) (w1 : List UInt8) (ws : List (List UInt8)) (W : World) (hx : OwnS B W x) (hBs : B ≤ W.heap.size) (hw : Wds W wv (w1 :: ws)) (hl : ∀ y ∈ w1 :: ws, y.length ≤ 1000000000) (hn : n < 6) (hlen : x.ups.l.length + ws.length ≤ 1000000000) :
    Calls Tryz.prog 21 #[.agg (encSc x).toArray, .int .i64 (n : Int), wv] W (RHeadP B x n (w1 :: ws) W) := by
  obtain ⟨b6, hb6⟩ : ∃ b6, b6 = W.heap.size + 1 := ⟨_, rfl⟩
  obtain ⟨b3, hb3⟩ : ∃ b3, b3 = W.heap.size := ⟨_, rfl⟩
  obtain ⟨g8, hg8⟩ : ∃ g8, g8 = W.heap.size + 2 := ⟨_, rfl⟩
  have HFAIL : Hid (∀ (X : World) (y : Sc), Below B W X → headS x.k n (w1 :: ws) = none → RHeadP B x n (w1 :: ws) W (.returned (.tuple #[.agg (encSc y).toArray, .bool false])) (X.setRow b6 (encSc y).toArray)) := fun X y h1 h2 => ⟨below_setRow h1 (by omega), false, y, rfl, by rw [h2]⟩
  have HGOOD : Hid (∀ (X : World) (y : Sc), Below B W X → headS x.k n (w1 :: ws) = some y.k → OwnS B X y → Blk X b6 27 (encSc sc0).toArray → RHeadP B x n (w1 :: ws) W (.returned (.tuple #[.agg (encSc y).toArray, .bool true])) (X.setRow b6 (encSc y).toArray)) := fun X y h1 h2 h3 h4 => ⟨below_setRow h1 (by omega), true, y, rfl, by rw [h2]; exact ⟨rfl, rfl, h3.setRow h4⟩⟩
  have HS0 : Hid (headS x.k n (w1 :: ws) = match numsS ws with
    | none => none
    | some l => if w1 = hdW n then headV x.k n l else none) := headS_cons _ _ _ _
  generalize RHeadP B x n (w1 :: ws) W = POST at *
  generalize headS x.k n (w1 :: ws) = RES at *
  have HBb : Hid (B ≤ b3) := by show _ ≤ _; omega
  have HBs := Lib.hid hBs
  have HN6 : Hid (n < 6) := hn
  have HUL : Hid (x.ups.l.length + ws.length ≤ 1000000000) := hlen
  have HNE : Hid (b6 ≠ b3) := by show _ ≠ _; omega
  obtain ⟨W0, hW0⟩ : ∃ W0, W0 = ((W.alloc (.cells (encSc x).toArray 27)).alloc (.cells (encSc sc0).toArray 27)).alloc (.cells (headsL.map strV).toArray 9) := ⟨_, rfl⟩
  have HBE : Hid (Below W.heap.size W W0) := by rw [hW0]; exact below3 W _ _ _
  have HB30 : Hid (Blk W0 b3 27 (encSc x).toArray) := by rw [hW0, hb3]; exact ((Blk.new' rfl : Blk _ _ _ _).alloc _).alloc _
  have HB60 : Hid (Blk W0 b6 27 (encSc sc0).toArray) := by rw [hW0, hb6]; exact (Blk.new' (by simp) : Blk _ _ _ _).alloc _
  have HB80 : Hid (Blk W0 g8 9 (headsL.map strV).toArray) := by rw [hW0, hg8]; exact Blk.new' (by simp)
  have HOX0 := Lib.hid (hx.below HBE.out)
  have HW0 := Lib.hid (hw.below HBE.out)
  have HB0S : Hid (B ≤ W0.heap.size) := Nat.le_trans hBs HBE.out.size
  have HLW := Lib.hid hl
  obtain ⟨wa, kc, rfl, hwc, hwcm, -⟩ := HW0.out.shape
  obtain ⟨gw, off, rfl, hbl, hc⟩ := HW0.out.row (by simp)
  have HC0 : Hid (W0.cell? ⟨gw, off, none⟩ = some (strV w1)) := by
    have := hc 0 w1 rfl 0 _ rfl
    show _ = _
    simpa using this
  have HGL0 : Hid (gw < W0.heap.size) := hbl
  obtain ⟨z, hz⟩ : ∃ z : Int, z = (n : Int) := ⟨_, rfl⟩
  have HZ := Lib.hid hz
  have HC8 : Hid (W0.cell? ⟨g8, z.toNat, none⟩ = some (strV (hdW n))) := by
    show _ = _
    rw [show z.toNat = n by omega, HB80.out.cell, List.getElem?_toArray, headsL_at n hn]
  have HGL8 : Hid (g8 < W0.heap.size) := HB80.out.lt
  obtain ⟨v13, hrun, hrd⟩ := run_slice_from (P := Tryz.prog) (t := 47) (by kernel_rfl) (fun W => by rw [show Tryz.prog.elem 47 = 9 by kernel_rfl]; exact Tryz.sizeOf9 W) HW0.out (k := 1) (by simp) .i64
  have HRUN : Hid (∀ X, (Instr.sliceAt 47 (.slice (some ⟨gw, off, none⟩) (w1 :: ws).length kc) (some (.int .i64 1)) none none).run Tryz.prog X = .ok v13 X) := hrun
  have HWT : Hid (Wds W0 v13 ws) := Lib.hid (by have := hrd W0 HW0.out; simpa using this)
  have HCP := Lib.hid (rnumbers_any ws v13 W0 HWT.out (fun y hy => hl y (by simp [hy])) (by omega))
  obtain ⟨wn, hwn⟩ : ∃ wn, wn = (w1 :: ws).length := ⟨_, rfl⟩
  have hwn1 : 0 < wn := by rw [hwn]; simp
  rw [← hwn] at hwc HRUN ⊢
  have hz6 : z < 6 := by omega
  have hz0 : 0 ≤ z := by omega
  rw [← hz]
  have HG2 : Hid (W.heap.size + 2 = g8) := hg8.symm
  have HG1 : Hid (W.heap.size + 1 = b6) := hb6.symm
  have HG0 : Hid (W.heap.size = b3) := hb3.symm
  have HBEB := Lib.hid (HBE.out.mono hBs)
  have HW00 := Lib.hid hW0
  clear hx hBs hw hl hn hlen hrun hrd hc hbl HWT hwn hz hb6 hb3 hg8 hW0
  go_enter Tryz.func21, Tryz.ntmps21
  go_upto_region 2 with fail
  change Code.wp _ _ _ _ (((W.alloc (.cells (encSc x).toArray 27)).alloc (.cells (encSc sc0).toArray 27)).alloc (.cells (headsL.map strV).toArray 9))
  rw [← HW00.out, HG2.out, HG1.out, HG0.out]
  clear HW00 HG2 HG1 HG0
  go_wp2_with ((with_reducible show wpList _ _ _ (Oper.mk (some 15) _ _ _ _ _ :: _) _ _); refine wpList_val rfl (exec_slice rfl rfl rfl rfl (HRUN.out _)) ?_)
  refine HCP.out.mono ?_
  rintro e W1 ⟨⟨v7, b8, rfl, hg, hbad⟩, hb1⟩
  have HG := Lib.hid hg
  have HBD := Lib.hid hbad
  have HBW1 := Lib.hid (HBEB.out.trans (hb1.mono HB0S.out))
  have HB31 := Lib.hid (HB30.out.keep hb1)
  have HB61 := Lib.hid (HB60.out.keep hb1)
  have HOX1 := Lib.hid (HOX0.out.below hb1)
  have HC1 : Hid (W1.drew.cell? ⟨gw, off, none⟩ = some (strV w1) ∧ W1.drew.cell? ⟨g8, z.toNat, none⟩ = some (strV (hdW n))) := ⟨(hb1.cell HGL0.out).trans HC0.out, (hb1.cell HGL8.out).trans HC8.out⟩
  clear hg hbad hb1 HCP HRUN HC0 HC8 HGL0 HGL8 HB30 HB60 HOX0 HB80 HW0
  have HB3 : Hid (Blk W1.drew b3 27 (encSc x).toArray) := HB31.out.keep (Below.refl _ _).drew
  have HB6 : Hid (Blk W1.drew b6 27 (encSc sc0).toArray) := HB61.out.keep (Below.refl _ _).drew
  have HOX := Lib.hid HOX1.out.drew
  have HBW := Lib.hid HBW1.out.drew
  cases b8 with
  | false =>
    have HNN : Hid (numsS ws = none) := by
      show _ = _
      cases h : numsS ws with
      | none => rfl
      | some l => have := (HG.out l h).1; cases this
    have HRN : Hid (RES = none) := by show _ = _; rw [HS0.out, HNN.out]
    clear HG HBD HS0
    go_upto_region 3 with fail
    refine wp_region_held_drew (S := (fun X : World => X.cell? ⟨gw, off, none⟩ = some (strV w1) ∧ X.cell? ⟨g8, z.toNat, none⟩ = some (strV (hdW n)))) (by kernel_rfl) HC1.out (fun hHeld => ?_)
    (refine takeW (i := 0) (v := ?_) rfl (by kernel_rfl) (by kernel_rfl) (by kernel_rfl) (fun _ _ _ h => h) (by rfl) (by assumption) ?_ ?_; rotate_left; (intro W hW; (try dsimp only at hW); go_simp; try with_reducible rfl); (try simp only [Act.put, List.setIfInBounds_toArray, List.set_cons_zero, List.set_cons_succ]))
    (refine takeW (i := 1) (v := ?_) rfl (by kernel_rfl) (by kernel_rfl) (by kernel_rfl) (fun _ _ _ h => h) (by rfl) (by assumption) ?_ ?_; rotate_left; (intro W hW; (try dsimp only at hW); go_simp; try with_reducible rfl); (try simp only [Act.put, List.setIfInBounds_toArray, List.set_cons_zero, List.set_cons_succ]))
    (refine takeW (i := 2) (v := ?_) rfl (by kernel_rfl) (by kernel_rfl) (by kernel_rfl) (fun _ _ _ h => h) (by rfl) (by assumption) ?_ ?_; rotate_left; (intro W hW; (try dsimp only at hW); go_simp; try with_reducible rfl); (try simp only [Act.put, List.setIfInBounds_toArray, List.set_cons_zero, List.set_cons_succ]))
    (refine takeU (i := 3) rfl (by kernel_rfl) (by kernel_rfl) (by kernel_rfl) (fun _ _ _ h => h) (by rfl) (by assumption) ?_; (try simp only [Act.put, List.setIfInBounds_toArray, List.set_cons_zero, List.set_cons_succ]))
    (refine takeU (i := 4) rfl (by kernel_rfl) (by kernel_rfl) (by kernel_rfl) (fun _ _ _ h => h) (by rfl) (by assumption) ?_; (try simp only [Act.put, List.setIfInBounds_toArray, List.set_cons_zero, List.set_cons_succ]))
    (refine takeU (i := 5) rfl (by kernel_rfl) (by kernel_rfl) (by kernel_rfl) (fun _ _ _ h => h) (by rfl) (by assumption) ?_; (try simp only [Act.put, List.setIfInBounds_toArray, List.set_cons_zero, List.set_cons_succ]))
    (refine takeU (i := 6) rfl (by kernel_rfl) (by kernel_rfl) (by kernel_rfl) (fun _ _ _ h => h) (by rfl) (by assumption) ?_; (try simp only [Act.put, List.setIfInBounds_toArray, List.set_cons_zero, List.set_cons_succ]))
    (refine takeU (i := 7) rfl (by kernel_rfl) (by kernel_rfl) (by kernel_rfl) (fun _ _ _ h => h) (by rfl) (by assumption) ?_; (try simp only [Act.put, List.setIfInBounds_toArray, List.set_cons_zero, List.set_cons_succ]))
    (refine takeU (i := 8) rfl (by kernel_rfl) (by kernel_rfl) (by kernel_rfl) (fun _ _ _ h => h) (by rfl) (by assumption) ?_; (try simp only [Act.put, List.setIfInBounds_toArray, List.set_cons_zero, List.set_cons_succ]))
    (refine takeU (i := 9) rfl (by kernel_rfl) (by kernel_rfl) (by kernel_rfl) (fun _ _ _ h => h) (by rfl) (by assumption) ?_; (try simp only [Act.put, List.setIfInBounds_toArray, List.set_cons_zero, List.set_cons_succ]))
    (refine takeU (i := 10) rfl (by kernel_rfl) (by kernel_rfl) (by kernel_rfl) (fun _ _ _ h => h) (by rfl) (by assumption) ?_; (try simp only [Act.put, List.setIfInBounds_toArray, List.set_cons_zero, List.set_cons_succ]))
    (refine takeW (i := 11) (v := ?_) rfl (by kernel_rfl) (by kernel_rfl) (by kernel_rfl) (fun _ _ _ h => h) (by rfl) (by assumption) ?_ ?_; rotate_left; (intro W hW; (try dsimp only at hW); go_simp; try with_reducible rfl); (try simp only [Act.put, List.setIfInBounds_toArray, List.set_cons_zero, List.set_cons_succ]))
    refine wpAnyH_done (by kernel_rfl) ?_ _
    clear hHeld
    generalize W1.drew = W2 at *
    go_wp2_with (first | ((with_reducible show wpList _ _ _ (Oper.mk (some 31) _ _ _ _ _ :: _) _ _); refine wpList_loadW W27 rfl rfl (x := .tmp 3) rfl (encSc x) rfl (Blk.list HB3.out) ?_) | ((with_reducible show wpList _ _ _ (Oper.mk none (Op.store 27 _ _) _ _ _ _ :: _) _ _); refine wpList_skipped rfl (exec_storeW W27 rfl rfl rfl rfl (encSc_one _) HB6.out rfl) ?_))
    exact bodyPost_ret (results_cell2v rfl W27 rfl rfl (Blk.list (Blk.part HB6.out)) (v := .bool false) rfl) rfl (HFAIL.out _ _ HBW.out HRN.out)
  | true =>
    obtain ⟨l, hll⟩ : ∃ l, numsS ws = some l := by
      cases h : numsS ws with
      | none => have := (HBD.out h).1; cases this
      | some l => exact ⟨l, rfl⟩
    have ho := (HG.out l hll).2
    obtain ⟨la, lc, rfl, hlc, hlcm, -⟩ := owns_shape ho
    have HOL : Hid (W1.drew.ownsRow B 3 1 (.slice la l.length lc) l.length (l.map (Value.int .i64))) := ow_below (own_le ho HB0S.out) (Below.refl _ _).drew
    have HSV : Hid (RES = if w1 = hdW n then headV x.k n l else none) := by show _ = _; rw [HS0.out, hll]
    have HLL : Hid (l.length ≤ ws.length) := by
      have := congrArg List.length (numsS_iff.1 hll).1
      rw [List.length_map] at this
      show _ ≤ _; omega
    obtain ⟨nb, hnb⟩ : ∃ nb, (!decide (w1 = hdW n)) = nb := ⟨_, rfl⟩
    have HNB := Lib.hid hnb
    clear hll ho hnb HG HBD HS0 HB31 HB61 HOX1 HBW1
    go_upto_region 3 with fail
    refine wp_region_held_drew (S := (fun X : World => X.cell? ⟨gw, off, none⟩ = some (strV w1) ∧ X.cell? ⟨g8, z.toNat, none⟩ = some (strV (hdW n)))) (by kernel_rfl) HC1.out (fun hHeld => ?_)
    (refine takeW (i := 0) (v := ?_) rfl (by kernel_rfl) (by kernel_rfl) (by kernel_rfl) (fun _ _ _ h => h) (by rfl) (by assumption) ?_ ?_; rotate_left; (intro W hW; (try dsimp only at hW); go_simp; try with_reducible rfl); (try simp only [Act.put, List.setIfInBounds_toArray, List.set_cons_zero, List.set_cons_succ]))
    (refine takeW (i := 1) (v := ?_) rfl (by kernel_rfl) (by kernel_rfl) (by kernel_rfl) (fun _ _ _ h => h) (by rfl) (by assumption) ?_ ?_; rotate_left; (intro W hW; (try dsimp only at hW); go_simp; try with_reducible rfl); (try simp only [Act.put, List.setIfInBounds_toArray, List.set_cons_zero, List.set_cons_succ]))
    (refine takeW (i := 2) (v := ?_) rfl (by kernel_rfl) (by kernel_rfl) (by kernel_rfl) (fun _ _ _ h => h) (by rfl) (by assumption) ?_ ?_; rotate_left; (intro W hW; (try dsimp only at hW); go_simp; try with_reducible rfl); (try simp only [Act.put, List.setIfInBounds_toArray, List.set_cons_zero, List.set_cons_succ]))
    (refine takeW (i := 3) (v := ?_) rfl (by kernel_rfl) (by kernel_rfl) (by kernel_rfl) (fun _ _ _ h => h) (by rfl) (by assumption) ?_ ?_; rotate_left; (intro W hW; (try dsimp only at hW); go_simp; try with_reducible rfl); (try simp only [Act.put, List.setIfInBounds_toArray, List.set_cons_zero, List.set_cons_succ]))
    (refine takeW (i := 4) (v := ?_) rfl (by kernel_rfl) (by kernel_rfl) (by kernel_rfl) (fun _ _ _ h => h) (by rfl) (by assumption) ?_ ?_; rotate_left; (intro W hW; (try dsimp only at hW); go_simp; try with_reducible rfl); (try simp only [Act.put, List.setIfInBounds_toArray, List.set_cons_zero, List.set_cons_succ]))
    (refine takeW (i := 5) rfl (by kernel_rfl) (by kernel_rfl) (by kernel_rfl) (fun _ _ _ h => h) (by rfl) (by assumption) (fun W hW => exec_load1 (v := strV w1) FL9 rfl rfl hW.1) ?_; (try simp only [Act.put, List.setIfInBounds_toArray, List.set_cons_zero, List.set_cons_succ]))
    (refine takeW (i := 6) (v := ?_) rfl (by kernel_rfl) (by kernel_rfl) (by kernel_rfl) (fun _ _ _ h => h) (by rfl) (by assumption) ?_ ?_; rotate_left; (intro W hW; (try dsimp only at hW); go_simp; try with_reducible rfl); (try simp only [Act.put, List.setIfInBounds_toArray, List.set_cons_zero, List.set_cons_succ]))
    (refine takeW (i := 7) (v := ?_) rfl (by kernel_rfl) (by kernel_rfl) (by kernel_rfl) (fun _ _ _ h => h) (by rfl) (by assumption) ?_ ?_; rotate_left; (intro W hW; (try dsimp only at hW); go_simp; try with_reducible rfl); (try simp only [Act.put, List.setIfInBounds_toArray, List.set_cons_zero, List.set_cons_succ]))
    (refine takeW (i := 8) (v := ?_) rfl (by kernel_rfl) (by kernel_rfl) (by kernel_rfl) (fun _ _ _ h => h) (by rfl) (by assumption) ?_ ?_; rotate_left; (intro W hW; (try dsimp only at hW); go_simp; try with_reducible rfl); (try simp only [Act.put, List.setIfInBounds_toArray, List.set_cons_zero, List.set_cons_succ]))
    (refine takeW (i := 9) rfl (by kernel_rfl) (by kernel_rfl) (by kernel_rfl) (fun _ _ _ h => h) (by rfl) (by assumption) (fun W hW => exec_load1 (v := strV (hdW n)) FL9 rfl rfl hW.2) ?_; (try simp only [Act.put, List.setIfInBounds_toArray, List.set_cons_zero, List.set_cons_succ]))
    (refine takeW (i := 10) rfl (by kernel_rfl) (by kernel_rfl) (by kernel_rfl) (fun _ _ _ h => h) (by rfl) (by assumption) (fun W hW => exec_neB HNB.out rfl rfl rfl) ?_; (try simp only [Act.put, List.setIfInBounds_toArray, List.set_cons_zero, List.set_cons_succ]))
    (refine takeW (i := 11) (v := ?_) rfl (by kernel_rfl) (by kernel_rfl) (by kernel_rfl) (fun _ _ _ h => h) (by rfl) (by assumption) ?_ ?_; rotate_left; (intro W hW; (try dsimp only at hW); go_simp; try with_reducible rfl); (try simp only [Act.put, List.setIfInBounds_toArray, List.set_cons_zero, List.set_cons_succ]))
    refine wpAnyH_done (by kernel_rfl) ?_ _
    clear hHeld
    generalize W1.drew = W2 at *
    clear HC1
    cases nb with
    | true =>
      have HRN : Hid (RES = none) := by
        have h := HNB.out
        rw [Bool.not_eq_true', decide_eq_false_iff_not] at h
        show _ = _; rw [HSV.out, if_neg h]
      go_wp2_with (first | ((with_reducible show wpList _ _ _ (Oper.mk (some 31) _ _ _ _ _ :: _) _ _); refine wpList_loadW W27 rfl rfl (x := .tmp 3) rfl (encSc x) rfl (Blk.list HB3.out) ?_) | ((with_reducible show wpList _ _ _ (Oper.mk none (Op.store 27 _ _) _ _ _ _ :: _) _ _); refine wpList_skipped rfl (exec_storeW W27 rfl rfl rfl rfl (encSc_one _) HB6.out rfl) ?_))
      exact bodyPost_ret (results_cell2v rfl W27 rfl rfl (Blk.list (Blk.part HB6.out)) (v := .bool false) rfl) rfl (HFAIL.out _ _ HBW.out HRN.out)
    | false =>
      replace HSV : Hid (RES = headV x.k n l) := by
        have h := HNB.out
        rw [Bool.not_eq_false', decide_eq_true_eq] at h
        show _ = _; rw [HSV.out, if_pos h]
      clear HNB
      rcases (show n = 0 ∨ n = 1 ∨ n = 2 ∨ n = 3 ∨ n = 4 ∨ n = 5 by have := HN6.out; omega) with rfl | rfl | rfl | rfl | rfl | rfl
      · as_aux_lemma =>
        have hz : z = 0 := by have := HZ.out; omega
        subst hz
        by_cases h1 : l.length = 1
        · obtain ⟨v, rfl⟩ := len1 h1
          obtain ⟨g7, c7, e7, -, -, -, -, hc7⟩ := own_cellsV (xs := [.int .i64 v]) HOL.out (by simp)
          simp only [List.length_cons, List.length_nil, Nat.zero_add, Value.slice.injEq] at e7
          obtain ⟨rfl, -, rfl⟩ := e7
          have c7v : W2.cell? ⟨g7, 0, none⟩ = some (.int .i64 v) := hc7 0 _ rfl
          have d0 : W2.cell? ⟨b3, 0, none⟩ = some (.int .i64 x.rounds) := HB3.out.list0 rfl
          have f0 : W2.frozen? ⟨b3, 0, none⟩ = false := HB3.out.frozen 0
          clear hc7 h1
          go_upto_region 24 with fail
          have HB33 : Hid (Blk (W2.setCell ⟨b3, 0, none⟩ (.int .i64 v)) b3 27 (encSc { x with rounds := v }).toArray) := Lib.hid (HB3.out.setL 0 (.int .i64 v))
          have HB63 : Hid (Blk (W2.setCell ⟨b3, 0, none⟩ (.int .i64 v)) b6 27 (encSc sc0).toArray) := Lib.hid (HB6.out.far (p := ⟨b3, 0, none⟩) HNE.out _)
          have HOX3 : Hid (OwnS B (W2.setCell ⟨b3, 0, none⟩ (.int .i64 v)) { x with rounds := v }) := Lib.hid (OwnS.set (x := { x with rounds := v }) ⟨HOX.out.ups, HOX.out.offs, HOX.out.gates, HOX.out.guards, HOX.out.drifts, HOX.out.ops, HOX.out.each, HOX.out.fts⟩ HB3.out)
          have HBW3 : Hid (Below B W (W2.setCell ⟨b3, 0, none⟩ (.int .i64 v))) := Lib.hid (HBW.out.setCell (p := ⟨b3, 0, none⟩) HBb.out _)
          generalize W2.setCell ⟨b3, 0, none⟩ (.int .i64 v) = W3 at *
          go_wp2_with (first | ((with_reducible show wpList _ _ _ (Oper.mk (some 88) _ _ _ _ _ :: _) _ _); refine wpList_loadW W27 rfl rfl (x := .tmp 3) rfl (encSc { x with rounds := v }) rfl (Blk.list HB33.out) ?_) | ((with_reducible show wpList _ _ _ (Oper.mk none (Op.store 27 _ _) _ _ _ _ :: _) _ _); refine wpList_skipped rfl (exec_storeW W27 rfl rfl rfl rfl (encSc_one _) HB63.out rfl) ?_))
          exact bodyPost_ret (results_cell2v rfl W27 rfl rfl (Blk.list (Blk.part HB63.out)) (v := .bool true) rfl) rfl (HGOOD.out _ _ HBW3.out (by rw [HSV.out]; rfl) HOX3.out HB63.out)
        · have h1z : ((l.length : Int) != 1) = true := by simp; omega
          have h1y : ¬ ((l.length : Int) = 1) := by omega
          have HRN : Hid (RES = none) := by
            show _ = _
            rw [HSV.out]
            match l, h1 with
            | [], _ => rfl
            | [v], h => exact absurd rfl h
            | _ :: _ :: _, _ => rfl
          clear h1
          go_wp2_with (first | ((with_reducible show wpList _ _ _ (Oper.mk (some 40) _ _ _ _ _ :: _) _ _); refine wpList_loadW W27 rfl rfl (x := .tmp 3) rfl (encSc x) rfl (Blk.list HB3.out) ?_) | ((with_reducible show wpList _ _ _ (Oper.mk none (Op.store 27 _ _) _ _ _ _ :: _) _ _); refine wpList_skipped rfl (exec_storeW W27 rfl rfl rfl rfl (encSc_one _) HB6.out rfl) ?_))
          exact bodyPost_ret (results_cell2v rfl W27 rfl rfl (Blk.list (Blk.part HB6.out)) (v := .bool false) rfl) rfl (HFAIL.out _ _ HBW.out HRN.out)
      · as_aux_lemma =>
        have hz : z = 1 := by have := HZ.out; omega
        subst hz
        obtain ⟨q, hq⟩ : ∃ q, q = l.length := ⟨_, rfl⟩
        have HQ := Lib.hid hq
        have HQM : Hid (x.ups.l.length + q ≤ 1000000000) := by have := HUL.out; have := HLL.out; show _ ≤ _; omega
        rw [← hq] at hlc ⊢
        have HOLQ : Hid (W2.ownsRow B 3 1 (.slice la q lc) q (l.map (Value.int .i64))) := by rw [hq]; exact HOL.out
        have HBSN := Lib.hid (fun (k : Nat) (v : Int) (bl : List Bool) (h : l[k]? = some v) (hb : bitS (l.take k) = some bl) (hv : v = 0 ∨ v = 1) => (by rw [take_snoc h]; exact bitS_snoc hb hv : bitS (l.take (k + 1)) = some (bl ++ [decide (v = 1)])))
        have HBBD := Lib.hid (fun (k : Nat) (v : Int) (h : l[k]? = some v) (hv : ¬ (v = 0 ∨ v = 1)) => bitS_bad h hv)
        clear hq HOL
        go_wp2_with fail
        go_loopw [11] (fun i wr => ∃ (k : Nat) (y : Sc) (bl : List Bool), k ≤ q ∧ i = .int .i64 (k : Int) ∧ Hid (bitS (l.take k) = some bl ∧ bl.length = k) ∧ Hid (y.k = { x.k with ups := x.k.ups ++ bl }) ∧ Hid (y.ups.l.length = x.ups.l.length + k) ∧ Hid (Blk wr b3 27 (encSc y).toArray) ∧ Hid (Blk wr b6 27 (encSc sc0).toArray) ∧ Hid (OwnS B wr y) ∧ Hid (wr.ownsRow B 3 1 (.slice la q lc) q (l.map (Value.int .i64))) ∧ Hid (Below B W wr)) (fun i _ => q - (intOf i).toNat)
        case atStart => exact ⟨0, x, [], Nat.zero_le _, rfl, ⟨rfl, rfl⟩, Lib.hid (by simp), rfl, HB3, HB6, HOX, HOLQ, HBW⟩
        case round =>
          clear HB3 HB6 HOX HOLQ HBW
          obtain ⟨k, y, bl, hk, rfl, HBL, HYK, HYL, HBY, HB6, HOY, HOQ, HB⟩ := hrel
          obtain ⟨wo, rfl⟩ : ∃ wo : World, wo = wr := ⟨_, rfl⟩
          have hqm : q ≤ 1000000000 := by have := HQM.out; omega
          by_cases hlt : k < q
          · obtain ⟨v, hv⟩ : ∃ v, l[k]? = some v := ⟨_, List.getElem?_eq_getElem (by rw [← HQ.out]; exact hlt)⟩
            obtain ⟨gq, cq, eq, -, -, -, -, hcq⟩ := own_cellsV HOQ.out (by omega)
            simp only [Value.slice.injEq] at eq
            obtain ⟨rfl, -, rfl⟩ := eq
            have cv : wo.cell? ⟨gq, k, none⟩ = some (.int .i64 v) := hcq k _ (by rw [List.getElem?_map, hv]; rfl)
            have HV := Lib.hid hv
            clear hcq hv
            by_cases h01 : v = 0 ∨ v = 1
            · obtain ⟨vb, hvb⟩ : ∃ vb, vb = decide (v = 1) := ⟨_, rfl⟩
              have HBL2 : Hid (bitS (l.take (k + 1)) = some (bl ++ [vb]) ∧ (bl ++ [vb]).length = k + 1) := ⟨by rw [hvb]; exact HBSN.out k v bl HV.out HBL.out.1 h01, by simp [HBL.out.2]⟩
              have hbool : (v == 1) = vb := by rw [hvb]; by_cases h : v = 1 <;> simp [h]
              obtain ⟨n0, n1, hn0, hn1, hn01⟩ : ∃ n0 n1 : Bool, (v != 0) = n0 ∧ (v != 1) = n1 ∧ (n0 = false ∨ n1 = false) := ⟨_, _, rfl, rfl, by rcases h01 with rfl | rfl <;> simp⟩
              have HSZ : Hid (B ≤ wo.drew.heap.size) := Nat.le_trans HBs.out HB.out.size
              have hul : y.ups.l.length ≤ 1000000000 := by have := HYL.out; have := HQM.out; omega
              have HUL2 := Lib.hid hul
              have HUP : Hid (∀ o : Obj, (wo.drew.alloc o).ownsRow B 4 1 (.slice y.ups.a y.ups.l.length y.ups.c) y.ups.l.length (y.ups.l.map Value.bool)) := fun o => ow_below (ow_below HOY.out.ups (Below.refl _ _).drew) (below1 _ _)
              have HBYD : Hid (Blk wo.drew b3 27 (encSc y).toArray) := HBY.out.keep (Below.refl _ _).drew
              have HOQD : Hid (wo.drew.ownsRow B 3 1 (.slice (some ⟨gq, 0, none⟩) q lc) q (l.map (Value.int .i64))) := ow_below HOQ.out (Below.refl _ _).drew
              have HAPP : Hid (∀ (o : Obj) (a5 : Option Addr) (c5 : Nat) (W5 : World), W5.ownsRow B 4 1 (.slice a5 (y.ups.l.length + 1) c5) (y.ups.l.length + 1) (y.ups.l.map Value.bool ++ [Value.bool vb]) → (wo.drew.alloc o).grownBy W5 (Value.slice y.ups.a y.ups.l.length y.ups.c).ownBlock →
                  Blk W5 b3 27 (encSc y).toArray ∧ OwnS B (W5.setCell ⟨b3, 1, none⟩ (.slice a5 (y.ups.l.length + 1) c5)) { y with ups := ⟨a5, c5, y.ups.l ++ [vb]⟩ } ∧ Blk (W5.setCell ⟨b3, 1, none⟩ (.slice a5 (y.ups.l.length + 1) c5)) b3 27 (encSc { y with ups := ⟨a5, c5, y.ups.l ++ [vb]⟩ }).toArray ∧ (W5.setCell ⟨b3, 1, none⟩ (.slice a5 (y.ups.l.length + 1) c5)).ownsRow B 3 1 (.slice (some ⟨gq, 0, none⟩) q lc) q (l.map (Value.int .i64)) ∧ Below B W (W5.setCell ⟨b3, 1, none⟩ (.slice a5 (y.ups.l.length + 1) c5)) ∧ Blk (W5.setCell ⟨b3, 1, none⟩ (.slice a5 (y.ups.l.length + 1) c5)) b6 27 (encSc sc0).toArray ∧ W5.ownsRow B 3 1 (.slice (some ⟨gq, 0, none⟩) q lc) q (l.map (Value.int .i64))) := fun o a5 c5 W5 ho hg => by
                have hup := HUP.out o
                have hoy := (HOY.out.drew.below (below1 wo.drew o))
                have hby : Blk (wo.drew.alloc o) b3 27 (encSc y).toArray := HBYD.out.keep (below1 _ _)
                have h6 : Blk (wo.drew.alloc o) b6 27 (encSc sc0).toArray := (HB6.out.keep (Below.refl _ _).drew).keep (below1 _ _)
                have hoq : (wo.drew.alloc o).ownsRow B 3 1 (.slice (some ⟨gq, 0, none⟩) q lc) q (l.map (Value.int .i64)) := ow_below HOQD.out (below1 _ _)
                have hb5 : Blk W5 b3 27 (encSc y).toArray := hby.fr (Fr.grownO hg) (fun e => own_blk_ne hup hby (by decide) e)
                have hq5 : W5.ownsRow B 3 1 (.slice (some ⟨gq, 0, none⟩) q lc) q (l.map (Value.int .i64)) := own_fr hoq (Fr.grownO hg) (fun g hg' e => own_own hoq hup (by decide) g hg' e)
                refine ⟨hb5, (hoy.addUp hg ho).set hb5, ?_, ?_, ?_, ?_, hq5⟩
                · have := hb5.setL 1 (.slice a5 (y.ups.l.length + 1) c5)
                  have e : (encSc y).set 1 (.slice a5 (y.ups.l.length + 1) c5) = encSc { y with ups := ⟨a5, c5, y.ups.l ++ [vb]⟩ } := by simp [encSc]
                  rw [e] at this
                  exact this
                · exact own_fr hq5 (Fr.setCell _ _ _) (fun g hg' e => own_apart hq5 hb5 (by decide) g hg' e)
                · exact (((HB.out.drew.alloc HSZ.out o).grown hg (by have := HSZ.out; simp at this ⊢; omega) (fun k hk => (hup.lt k hk).1))).setCell (p := ⟨b3, 1, none⟩) HBb.out _
                · exact (h6.fr (Fr.grownO hg) (fun e => own_blk_ne hup h6 (by decide) e)).far (p := ⟨b3, 1, none⟩) HNE.out _
              have HYK2 : Hid (∀ (a5 : Option Addr) (c5 : Nat), (({ y with ups := ⟨a5, c5, y.ups.l ++ [vb]⟩ } : Sc).k = { x.k with ups := x.k.ups ++ (bl ++ [vb]) }) ∧ (({ y with ups := ⟨a5, c5, y.ups.l ++ [vb]⟩ } : Sc).ups.l.length = x.ups.l.length + (k + 1))) := fun a5 c5 => by
                have e1 := HYK.out
                refine ⟨?_, by have := HYL.out; simp; omega⟩
                have e2 : y.ups.l = x.k.ups ++ bl := congrArg Scr.ups e1
                have e3 : ({ y with ups := ⟨a5, c5, y.ups.l ++ [vb]⟩ } : Sc).k = { y.k with ups := y.ups.l ++ [vb] } := rfl
                rw [e3, e1, e2]
                simp
              clear h01 hvb
              cases n0 with
              | false =>
                as_aux_lemma =>
                have hv0 : v = 0 := by simpa using hn0
                obtain rfl : vb = false := by rw [← hbool, hv0]; rfl
                subst hv0
                clear hn0 hn1 hn01 hbool
                go_upto_region 17 with fail
                refine wp_region_held_drew (S := (fun X : World => X.ownsRow B 3 1 (.slice (some ⟨gq, 0, none⟩) q lc) q (l.map (Value.int .i64)))) (by kernel_rfl) HOQD.out (fun hHeld => ?_)
                (refine takeW (i := 0) (v := ?_) rfl (by kernel_rfl) (by kernel_rfl) (by kernel_rfl) (fun _ _ _ h => h) (by rfl) (by assumption) ?_ ?_; rotate_left; (intro W hW; (try dsimp only at hW); go_simp; try with_reducible rfl); (try simp only [Act.put, List.setIfInBounds_toArray, List.set_cons_zero, List.set_cons_succ]))
                (refine takeW (i := 2) (v := ?_) rfl (by kernel_rfl) (by kernel_rfl) (by kernel_rfl) (fun _ _ _ h => h) (by rfl) (by assumption) ?_ ?_; rotate_left; (intro W hW; (try dsimp only at hW); go_simp; try with_reducible rfl); (try simp only [Act.put, List.setIfInBounds_toArray, List.set_cons_zero, List.set_cons_succ]))
                (refine takeW (i := 3) (v := ?_) rfl (by kernel_rfl) (by kernel_rfl) (by kernel_rfl) (fun _ _ _ h => h) (by rfl) (by assumption) ?_ ?_; rotate_left; (intro W hW; (try dsimp only at hW); go_simp; try with_reducible rfl); (try simp only [Act.put, List.setIfInBounds_toArray, List.set_cons_zero, List.set_cons_succ]))
                (refine takeW (i := 4) (v := ?_) rfl (by kernel_rfl) (by kernel_rfl) (by kernel_rfl) (fun _ _ _ h => h) (by rfl) (by assumption) ?_ ?_; rotate_left; (intro W hW; (try dsimp only at hW); go_simp; try with_reducible rfl); (try simp only [Act.put, List.setIfInBounds_toArray, List.set_cons_zero, List.set_cons_succ]))
                (refine takeW (i := 5) rfl (by kernel_rfl) (by kernel_rfl) (by kernel_rfl) (fun _ _ _ h => h) (by rfl) (by assumption) (fun W hW => exec_load1 (v := .int .i64 0) FL3 rfl rfl (own_cellL0 hW (by rw [List.getElem?_map, HV.out]; rfl))) ?_; (try simp only [Act.put, List.setIfInBounds_toArray, List.set_cons_zero, List.set_cons_succ]))
                (refine takeW (i := 6) (v := ?_) rfl (by kernel_rfl) (by kernel_rfl) (by kernel_rfl) (fun _ _ _ h => h) (by rfl) (by assumption) ?_ ?_; rotate_left; (intro W hW; (try dsimp only at hW); go_simp; try with_reducible rfl); (try simp only [Act.put, List.setIfInBounds_toArray, List.set_cons_zero, List.set_cons_succ]))
                refine takeV2 (i := 1) (j := 7) rfl rfl (by kernel_rfl) (by rfl) (by rfl) (exec_load1 (v := .slice y.ups.a y.ups.l.length y.ups.c) FL22h rfl rfl (by first | exact HBYD.out.list0 rfl | exact (HBYD.out.alloc _).list0 rfl)) ((by first | exact HOQD.out | exact ow_below HOQD.out (below1 _ _))) (exec_oneB (x := false) rfl rfl) (ow_below HOQD.out (below1 _ _)) ?_ ?_
                · (try simp only [Act.put, List.setIfInBounds_toArray, List.set_cons_zero, List.set_cons_succ])
                  have hHeld : wo.drew.ownsRow B 3 1 (.slice (some ⟨gq, 0, none⟩) q lc) q (l.map (Value.int .i64)) := (by first | exact HOQD.out | exact ow_below HOQD.out (below1 _ _))
                  refine takeV (i := 7) rfl (by kernel_rfl) (by rfl) (exec_oneB (x := false) rfl rfl) (ow_below HOQD.out (below1 _ _)) ?_
                  (try simp only [Act.put, List.setIfInBounds_toArray, List.set_cons_zero, List.set_cons_succ])
                  have hHeld : (wo.drew.alloc (.cells #[.bool false] 4)).ownsRow B 3 1 (.slice (some ⟨gq, 0, none⟩) q lc) q (l.map (Value.int .i64)) := ow_below HOQD.out (below1 _ _)
                  refine takeApp (i := 8) (m := 1) E4 rfl (by kernel_rfl) (by rfl) rfl (HUP.out _) (news := [.bool false]) rfl (news_wide _ _ _) (by simp [Value.oneCell']) rfl rfl (by have := HUL2.out; omega) (by have := HSZ.out; simp at this ⊢; omega) ?_
                  intro v9 W9 ho9 hg9 hpl
                  obtain ⟨a5, c5, rfl, -⟩ := owns_shape ho9
                  have H5 := Lib.hid (HAPP.out _ a5 c5 W9 ho9 hg9)
                  clear ho9 hg9 hpl hHeld
                  refine ⟨H5.out.2.2.2.2.2.2, ?_⟩
                  (try simp only [Act.put, List.setIfInBounds_toArray, List.set_cons_zero, List.set_cons_succ])
                  have hHeld : W9.ownsRow B 3 1 (.slice (some ⟨gq, 0, none⟩) q lc) q (l.map (Value.int .i64)) := H5.out.2.2.2.2.2.2
                  (refine takeW (i := 9) (v := ?_) rfl (by kernel_rfl) (by kernel_rfl) (by kernel_rfl) (fun _ _ _ h => h) (by rfl) (by assumption) ?_ ?_; rotate_left; (intro W hW; (try dsimp only at hW); go_simp; try with_reducible rfl); (try simp only [Act.put, List.setIfInBounds_toArray, List.set_cons_zero, List.set_cons_succ]))
                  refine takeVs (i := 10) rfl (by kernel_rfl) (by rfl) (exec_store1 (v := .slice a5 (y.ups.l.length + 1) c5) FL22h rfl rfl rfl rfl rfl (H5.out.1.list0 rfl) (H5.out.1.frozen 1)) (H5.out.2.2.2.1) ?_
                  have hHeld : (W9.setCell ⟨b3, 1, none⟩ (.slice a5 (y.ups.l.length + 1) c5)).ownsRow B 3 1 (.slice (some ⟨gq, 0, none⟩) q lc) q (l.map (Value.int .i64)) := H5.out.2.2.2.1
                  refine wpAnyH_done (by kernel_rfl) ?_ _
                  clear hHeld
                  go_wp2
                  go_roundw
                  case rel => exact ⟨k + 1, by omega, by omega, { y with ups := ⟨a5, c5, y.ups.l ++ [false]⟩ }, bl ++ [false], HBL2, Lib.hid (HYK2.out a5 c5).1, Lib.hid (HYK2.out a5 c5).2, Lib.hid H5.out.2.2.1, Lib.hid H5.out.2.2.2.2.2.1, Lib.hid H5.out.2.1, Lib.hid H5.out.2.2.2.1, Lib.hid H5.out.2.2.2.2.1⟩
                  case measure => simp [intOf]; omega
                · (try simp only [Act.put, List.setIfInBounds_toArray, List.set_cons_zero, List.set_cons_succ])
                  have hHeld : (wo.drew.alloc (.cells #[.bool false] 4)).ownsRow B 3 1 (.slice (some ⟨gq, 0, none⟩) q lc) q (l.map (Value.int .i64)) := ow_below HOQD.out (below1 _ _)
                  refine takeV (i := 1) rfl (by kernel_rfl) (by rfl) (exec_load1 (v := .slice y.ups.a y.ups.l.length y.ups.c) FL22h rfl rfl (by first | exact HBYD.out.list0 rfl | exact (HBYD.out.alloc _).list0 rfl)) ((by first | exact HOQD.out | exact ow_below HOQD.out (below1 _ _))) ?_
                  (try simp only [Act.put, List.setIfInBounds_toArray, List.set_cons_zero, List.set_cons_succ])
                  have hHeld : (wo.drew.alloc (.cells #[.bool false] 4)).ownsRow B 3 1 (.slice (some ⟨gq, 0, none⟩) q lc) q (l.map (Value.int .i64)) := (by first | exact HOQD.out | exact ow_below HOQD.out (below1 _ _))
                  refine takeApp (i := 8) (m := 1) E4 rfl (by kernel_rfl) (by rfl) rfl (HUP.out _) (news := [.bool false]) rfl (news_wide _ _ _) (by simp [Value.oneCell']) rfl rfl (by have := HUL2.out; omega) (by have := HSZ.out; simp at this ⊢; omega) ?_
                  intro v9 W9 ho9 hg9 hpl
                  obtain ⟨a5, c5, rfl, -⟩ := owns_shape ho9
                  have H5 := Lib.hid (HAPP.out _ a5 c5 W9 ho9 hg9)
                  clear ho9 hg9 hpl hHeld
                  refine ⟨H5.out.2.2.2.2.2.2, ?_⟩
                  (try simp only [Act.put, List.setIfInBounds_toArray, List.set_cons_zero, List.set_cons_succ])
                  have hHeld : W9.ownsRow B 3 1 (.slice (some ⟨gq, 0, none⟩) q lc) q (l.map (Value.int .i64)) := H5.out.2.2.2.2.2.2
                  (refine takeW (i := 9) (v := ?_) rfl (by kernel_rfl) (by kernel_rfl) (by kernel_rfl) (fun _ _ _ h => h) (by rfl) (by assumption) ?_ ?_; rotate_left; (intro W hW; (try dsimp only at hW); go_simp; try with_reducible rfl); (try simp only [Act.put, List.setIfInBounds_toArray, List.set_cons_zero, List.set_cons_succ]))
                  refine takeVs (i := 10) rfl (by kernel_rfl) (by rfl) (exec_store1 (v := .slice a5 (y.ups.l.length + 1) c5) FL22h rfl rfl rfl rfl rfl (H5.out.1.list0 rfl) (H5.out.1.frozen 1)) (H5.out.2.2.2.1) ?_
                  have hHeld : (W9.setCell ⟨b3, 1, none⟩ (.slice a5 (y.ups.l.length + 1) c5)).ownsRow B 3 1 (.slice (some ⟨gq, 0, none⟩) q lc) q (l.map (Value.int .i64)) := H5.out.2.2.2.1
                  refine wpAnyH_done (by kernel_rfl) ?_ _
                  clear hHeld
                  go_wp2
                  go_roundw
                  case rel => exact ⟨k + 1, by omega, by omega, { y with ups := ⟨a5, c5, y.ups.l ++ [false]⟩ }, bl ++ [false], HBL2, Lib.hid (HYK2.out a5 c5).1, Lib.hid (HYK2.out a5 c5).2, Lib.hid H5.out.2.2.1, Lib.hid H5.out.2.2.2.2.2.1, Lib.hid H5.out.2.1, Lib.hid H5.out.2.2.2.1, Lib.hid H5.out.2.2.2.2.1⟩
                  case measure => simp [intOf]; omega
              | true =>
                as_aux_lemma =>
                have hn1' : n1 = false := by
                  rcases hn01 with h | h
                  · cases h
                  · exact h
                subst hn1'
                have hv1 : v = 1 := by simpa using hn1
                obtain rfl : vb = true := by rw [← hbool, hv1]; rfl
                subst hv1
                clear hn0 hn1 hn01 hbool
                go_upto_region 17 with fail
                refine wp_region_held_drew (S := (fun X : World => X.ownsRow B 3 1 (.slice (some ⟨gq, 0, none⟩) q lc) q (l.map (Value.int .i64)))) (by kernel_rfl) HOQD.out (fun hHeld => ?_)
                (refine takeW (i := 0) (v := ?_) rfl (by kernel_rfl) (by kernel_rfl) (by kernel_rfl) (fun _ _ _ h => h) (by rfl) (by assumption) ?_ ?_; rotate_left; (intro W hW; (try dsimp only at hW); go_simp; try with_reducible rfl); (try simp only [Act.put, List.setIfInBounds_toArray, List.set_cons_zero, List.set_cons_succ]))
                (refine takeW (i := 2) (v := ?_) rfl (by kernel_rfl) (by kernel_rfl) (by kernel_rfl) (fun _ _ _ h => h) (by rfl) (by assumption) ?_ ?_; rotate_left; (intro W hW; (try dsimp only at hW); go_simp; try with_reducible rfl); (try simp only [Act.put, List.setIfInBounds_toArray, List.set_cons_zero, List.set_cons_succ]))
                (refine takeW (i := 3) (v := ?_) rfl (by kernel_rfl) (by kernel_rfl) (by kernel_rfl) (fun _ _ _ h => h) (by rfl) (by assumption) ?_ ?_; rotate_left; (intro W hW; (try dsimp only at hW); go_simp; try with_reducible rfl); (try simp only [Act.put, List.setIfInBounds_toArray, List.set_cons_zero, List.set_cons_succ]))
                (refine takeW (i := 4) (v := ?_) rfl (by kernel_rfl) (by kernel_rfl) (by kernel_rfl) (fun _ _ _ h => h) (by rfl) (by assumption) ?_ ?_; rotate_left; (intro W hW; (try dsimp only at hW); go_simp; try with_reducible rfl); (try simp only [Act.put, List.setIfInBounds_toArray, List.set_cons_zero, List.set_cons_succ]))
                (refine takeW (i := 5) rfl (by kernel_rfl) (by kernel_rfl) (by kernel_rfl) (fun _ _ _ h => h) (by rfl) (by assumption) (fun W hW => exec_load1 (v := .int .i64 1) FL3 rfl rfl (own_cellL0 hW (by rw [List.getElem?_map, HV.out]; rfl))) ?_; (try simp only [Act.put, List.setIfInBounds_toArray, List.set_cons_zero, List.set_cons_succ]))
                (refine takeW (i := 6) (v := ?_) rfl (by kernel_rfl) (by kernel_rfl) (by kernel_rfl) (fun _ _ _ h => h) (by rfl) (by assumption) ?_ ?_; rotate_left; (intro W hW; (try dsimp only at hW); go_simp; try with_reducible rfl); (try simp only [Act.put, List.setIfInBounds_toArray, List.set_cons_zero, List.set_cons_succ]))
                refine takeV2 (i := 1) (j := 7) rfl rfl (by kernel_rfl) (by rfl) (by rfl) (exec_load1 (v := .slice y.ups.a y.ups.l.length y.ups.c) FL22h rfl rfl (by first | exact HBYD.out.list0 rfl | exact (HBYD.out.alloc _).list0 rfl)) ((by first | exact HOQD.out | exact ow_below HOQD.out (below1 _ _))) (exec_oneB (x := true) rfl rfl) (ow_below HOQD.out (below1 _ _)) ?_ ?_
                · (try simp only [Act.put, List.setIfInBounds_toArray, List.set_cons_zero, List.set_cons_succ])
                  have hHeld : wo.drew.ownsRow B 3 1 (.slice (some ⟨gq, 0, none⟩) q lc) q (l.map (Value.int .i64)) := (by first | exact HOQD.out | exact ow_below HOQD.out (below1 _ _))
                  refine takeV (i := 7) rfl (by kernel_rfl) (by rfl) (exec_oneB (x := true) rfl rfl) (ow_below HOQD.out (below1 _ _)) ?_
                  (try simp only [Act.put, List.setIfInBounds_toArray, List.set_cons_zero, List.set_cons_succ])
                  have hHeld : (wo.drew.alloc (.cells #[.bool true] 4)).ownsRow B 3 1 (.slice (some ⟨gq, 0, none⟩) q lc) q (l.map (Value.int .i64)) := ow_below HOQD.out (below1 _ _)
                  refine takeApp (i := 8) (m := 1) E4 rfl (by kernel_rfl) (by rfl) rfl (HUP.out _) (news := [.bool true]) rfl (news_wide _ _ _) (by simp [Value.oneCell']) rfl rfl (by have := HUL2.out; omega) (by have := HSZ.out; simp at this ⊢; omega) ?_
                  intro v9 W9 ho9 hg9 hpl
                  obtain ⟨a5, c5, rfl, -⟩ := owns_shape ho9
                  have H5 := Lib.hid (HAPP.out _ a5 c5 W9 ho9 hg9)
                  clear ho9 hg9 hpl hHeld
                  refine ⟨H5.out.2.2.2.2.2.2, ?_⟩
                  (try simp only [Act.put, List.setIfInBounds_toArray, List.set_cons_zero, List.set_cons_succ])
                  have hHeld : W9.ownsRow B 3 1 (.slice (some ⟨gq, 0, none⟩) q lc) q (l.map (Value.int .i64)) := H5.out.2.2.2.2.2.2
                  (refine takeW (i := 9) (v := ?_) rfl (by kernel_rfl) (by kernel_rfl) (by kernel_rfl) (fun _ _ _ h => h) (by rfl) (by assumption) ?_ ?_; rotate_left; (intro W hW; (try dsimp only at hW); go_simp; try with_reducible rfl); (try simp only [Act.put, List.setIfInBounds_toArray, List.set_cons_zero, List.set_cons_succ]))
                  refine takeVs (i := 10) rfl (by kernel_rfl) (by rfl) (exec_store1 (v := .slice a5 (y.ups.l.length + 1) c5) FL22h rfl rfl rfl rfl rfl (H5.out.1.list0 rfl) (H5.out.1.frozen 1)) (H5.out.2.2.2.1) ?_
                  have hHeld : (W9.setCell ⟨b3, 1, none⟩ (.slice a5 (y.ups.l.length + 1) c5)).ownsRow B 3 1 (.slice (some ⟨gq, 0, none⟩) q lc) q (l.map (Value.int .i64)) := H5.out.2.2.2.1
                  refine wpAnyH_done (by kernel_rfl) ?_ _
                  clear hHeld
                  go_wp2
                  go_roundw
                  case rel => exact ⟨k + 1, by omega, by omega, { y with ups := ⟨a5, c5, y.ups.l ++ [true]⟩ }, bl ++ [true], HBL2, Lib.hid (HYK2.out a5 c5).1, Lib.hid (HYK2.out a5 c5).2, Lib.hid H5.out.2.2.1, Lib.hid H5.out.2.2.2.2.2.1, Lib.hid H5.out.2.1, Lib.hid H5.out.2.2.2.1, Lib.hid H5.out.2.2.2.2.1⟩
                  case measure => simp [intOf]; omega
                · (try simp only [Act.put, List.setIfInBounds_toArray, List.set_cons_zero, List.set_cons_succ])
                  have hHeld : (wo.drew.alloc (.cells #[.bool true] 4)).ownsRow B 3 1 (.slice (some ⟨gq, 0, none⟩) q lc) q (l.map (Value.int .i64)) := ow_below HOQD.out (below1 _ _)
                  refine takeV (i := 1) rfl (by kernel_rfl) (by rfl) (exec_load1 (v := .slice y.ups.a y.ups.l.length y.ups.c) FL22h rfl rfl (by first | exact HBYD.out.list0 rfl | exact (HBYD.out.alloc _).list0 rfl)) ((by first | exact HOQD.out | exact ow_below HOQD.out (below1 _ _))) ?_
                  (try simp only [Act.put, List.setIfInBounds_toArray, List.set_cons_zero, List.set_cons_succ])
                  have hHeld : (wo.drew.alloc (.cells #[.bool true] 4)).ownsRow B 3 1 (.slice (some ⟨gq, 0, none⟩) q lc) q (l.map (Value.int .i64)) := (by first | exact HOQD.out | exact ow_below HOQD.out (below1 _ _))
                  refine takeApp (i := 8) (m := 1) E4 rfl (by kernel_rfl) (by rfl) rfl (HUP.out _) (news := [.bool true]) rfl (news_wide _ _ _) (by simp [Value.oneCell']) rfl rfl (by have := HUL2.out; omega) (by have := HSZ.out; simp at this ⊢; omega) ?_
                  intro v9 W9 ho9 hg9 hpl
                  obtain ⟨a5, c5, rfl, -⟩ := owns_shape ho9
                  have H5 := Lib.hid (HAPP.out _ a5 c5 W9 ho9 hg9)
                  clear ho9 hg9 hpl hHeld
                  refine ⟨H5.out.2.2.2.2.2.2, ?_⟩
                  (try simp only [Act.put, List.setIfInBounds_toArray, List.set_cons_zero, List.set_cons_succ])
                  have hHeld : W9.ownsRow B 3 1 (.slice (some ⟨gq, 0, none⟩) q lc) q (l.map (Value.int .i64)) := H5.out.2.2.2.2.2.2
                  (refine takeW (i := 9) (v := ?_) rfl (by kernel_rfl) (by kernel_rfl) (by kernel_rfl) (fun _ _ _ h => h) (by rfl) (by assumption) ?_ ?_; rotate_left; (intro W hW; (try dsimp only at hW); go_simp; try with_reducible rfl); (try simp only [Act.put, List.setIfInBounds_toArray, List.set_cons_zero, List.set_cons_succ]))
                  refine takeVs (i := 10) rfl (by kernel_rfl) (by rfl) (exec_store1 (v := .slice a5 (y.ups.l.length + 1) c5) FL22h rfl rfl rfl rfl rfl (H5.out.1.list0 rfl) (H5.out.1.frozen 1)) (H5.out.2.2.2.1) ?_
                  have hHeld : (W9.setCell ⟨b3, 1, none⟩ (.slice a5 (y.ups.l.length + 1) c5)).ownsRow B 3 1 (.slice (some ⟨gq, 0, none⟩) q lc) q (l.map (Value.int .i64)) := H5.out.2.2.2.1
                  refine wpAnyH_done (by kernel_rfl) ?_ _
                  clear hHeld
                  go_wp2
                  go_roundw
                  case rel => exact ⟨k + 1, by omega, by omega, { y with ups := ⟨a5, c5, y.ups.l ++ [true]⟩ }, bl ++ [true], HBL2, Lib.hid (HYK2.out a5 c5).1, Lib.hid (HYK2.out a5 c5).2, Lib.hid H5.out.2.2.1, Lib.hid H5.out.2.2.2.2.2.1, Lib.hid H5.out.2.1, Lib.hid H5.out.2.2.2.1, Lib.hid H5.out.2.2.2.2.1⟩
                  case measure => simp [intOf]; omega
            · have HRN : Hid (RES = none) := by
                show _ = _
                rw [HSV.out]
                show (bitS l).map _ = none
                rw [HBBD.out k v HV.out h01]
                rfl
              have hn0 : (v != 0) = true := by simp; omega
              have hn1 : (v != 1) = true := by simp; omega
              have hv0 : ¬ v = 0 := fun e => h01 (.inl e)
              have hv1 : ¬ v = 1 := fun e => h01 (.inr e)
              clear h01
              go_wp2_with (first | ((with_reducible show wpList _ _ _ (Oper.mk (some 65) _ _ _ _ _ :: _) _ _); refine wpList_loadW W27 rfl rfl (x := .tmp 3) rfl (encSc y) rfl (Blk.list HBY.out) ?_) | ((with_reducible show wpList _ _ _ (Oper.mk none (Op.store 27 _ _) _ _ _ _ :: _) _ _); refine wpList_skipped rfl (exec_storeW W27 rfl rfl rfl rfl (encSc_one _) HB6.out rfl) ?_))
              exact bodyPost_ret (results_cell2v rfl W27 rfl rfl (Blk.list (Blk.part HB6.out)) (v := .bool false) rfl) rfl (HFAIL.out _ _ HB.out HRN.out)
          · obtain rfl : k = q := by omega
            have HRS : Hid (RES = some y.k) := by
              have h1 := HBL.out.1
              rw [List.take_of_length_le (by rw [← HQ.out]; exact Nat.le_refl _)] at h1
              show _ = _
              rw [HSV.out, HYK.out]
              show (bitS l).map _ = _
              rw [h1]
              rfl
            clear HBL HYK HYL
            go_wp2_with (first | ((with_reducible show wpList _ _ _ (Oper.mk (some 88) _ _ _ _ _ :: _) _ _); refine wpList_loadW W27 rfl rfl (x := .tmp 3) rfl (encSc y) rfl (Blk.list HBY.out) ?_) | ((with_reducible show wpList _ _ _ (Oper.mk none (Op.store 27 _ _) _ _ _ _ :: _) _ _); refine wpList_skipped rfl (exec_storeW W27 rfl rfl rfl rfl (encSc_one _) HB6.out rfl) ?_))
            exact bodyPost_ret (results_cell2v rfl W27 rfl rfl (Blk.list (Blk.part HB6.out)) (v := .bool true) rfl) rfl (HGOOD.out _ _ HB.out HRS.out HOY.out HB6.out)
      · as_aux_lemma =>
        have hz : z = 2 := by have := HZ.out; omega
        subst hz
        have d5 : W2.cell? ⟨b3, 2, none⟩ = some (.slice x.offs.a x.offs.l.length x.offs.c) := HB3.out.list0 rfl
        have f5 : W2.frozen? ⟨b3, 2, none⟩ = false := HB3.out.frozen 2
        go_upto_region 24 with fail
        have HB33 : Hid (Blk (W2.setCell ⟨b3, 2, none⟩ (.slice la l.length lc)) b3 27 (encSc { x with offs := ⟨la, lc, l⟩ }).toArray) := Lib.hid (HB3.out.setL 2 (.slice la l.length lc))
        have HB63 : Hid (Blk (W2.setCell ⟨b3, 2, none⟩ (.slice la l.length lc)) b6 27 (encSc sc0).toArray) := Lib.hid (HB6.out.far (p := ⟨b3, 2, none⟩) HNE.out _)
        have HOX3 : Hid (OwnS B (W2.setCell ⟨b3, 2, none⟩ (.slice la l.length lc)) { x with offs := ⟨la, lc, l⟩ }) := Lib.hid (OwnS.set (x := { x with offs := ⟨la, lc, l⟩ }) ⟨HOX.out.ups, HOL.out, HOX.out.gates, HOX.out.guards, HOX.out.drifts, HOX.out.ops, HOX.out.each, HOX.out.fts⟩ HB3.out)
        have HBW3 : Hid (Below B W (W2.setCell ⟨b3, 2, none⟩ (.slice la l.length lc))) := Lib.hid (HBW.out.setCell (p := ⟨b3, 2, none⟩) HBb.out _)
        generalize W2.setCell ⟨b3, 2, none⟩ (.slice la l.length lc) = W3 at *
        go_wp2_with (first | ((with_reducible show wpList _ _ _ (Oper.mk (some 88) _ _ _ _ _ :: _) _ _); refine wpList_loadW W27 rfl rfl (x := .tmp 3) rfl (encSc { x with offs := ⟨la, lc, l⟩ }) rfl (Blk.list HB33.out) ?_) | ((with_reducible show wpList _ _ _ (Oper.mk none (Op.store 27 _ _) _ _ _ _ :: _) _ _); refine wpList_skipped rfl (exec_storeW W27 rfl rfl rfl rfl (encSc_one _) HB63.out rfl) ?_))
        exact bodyPost_ret (results_cell2v rfl W27 rfl rfl (Blk.list (Blk.part HB63.out)) (v := .bool true) rfl) rfl (HGOOD.out _ _ HBW3.out (by rw [HSV.out]; rfl) HOX3.out HB63.out)
      · as_aux_lemma =>
        have hz : z = 3 := by have := HZ.out; omega
        subst hz
        have d5 : W2.cell? ⟨b3, 3, none⟩ = some (.slice x.gates.a x.gates.l.length x.gates.c) := HB3.out.list0 rfl
        have f5 : W2.frozen? ⟨b3, 3, none⟩ = false := HB3.out.frozen 3
        go_upto_region 24 with fail
        have HB33 : Hid (Blk (W2.setCell ⟨b3, 3, none⟩ (.slice la l.length lc)) b3 27 (encSc { x with gates := ⟨la, lc, l⟩ }).toArray) := Lib.hid (HB3.out.setL 3 (.slice la l.length lc))
        have HB63 : Hid (Blk (W2.setCell ⟨b3, 3, none⟩ (.slice la l.length lc)) b6 27 (encSc sc0).toArray) := Lib.hid (HB6.out.far (p := ⟨b3, 3, none⟩) HNE.out _)
        have HOX3 : Hid (OwnS B (W2.setCell ⟨b3, 3, none⟩ (.slice la l.length lc)) { x with gates := ⟨la, lc, l⟩ }) := Lib.hid (OwnS.set (x := { x with gates := ⟨la, lc, l⟩ }) ⟨HOX.out.ups, HOX.out.offs, HOL.out, HOX.out.guards, HOX.out.drifts, HOX.out.ops, HOX.out.each, HOX.out.fts⟩ HB3.out)
        have HBW3 : Hid (Below B W (W2.setCell ⟨b3, 3, none⟩ (.slice la l.length lc))) := Lib.hid (HBW.out.setCell (p := ⟨b3, 3, none⟩) HBb.out _)
        generalize W2.setCell ⟨b3, 3, none⟩ (.slice la l.length lc) = W3 at *
        go_wp2_with (first | ((with_reducible show wpList _ _ _ (Oper.mk (some 88) _ _ _ _ _ :: _) _ _); refine wpList_loadW W27 rfl rfl (x := .tmp 3) rfl (encSc { x with gates := ⟨la, lc, l⟩ }) rfl (Blk.list HB33.out) ?_) | ((with_reducible show wpList _ _ _ (Oper.mk none (Op.store 27 _ _) _ _ _ _ :: _) _ _); refine wpList_skipped rfl (exec_storeW W27 rfl rfl rfl rfl (encSc_one _) HB63.out rfl) ?_))
        exact bodyPost_ret (results_cell2v rfl W27 rfl rfl (Blk.list (Blk.part HB63.out)) (v := .bool true) rfl) rfl (HGOOD.out _ _ HBW3.out (by rw [HSV.out]; rfl) HOX3.out HB63.out)
      · as_aux_lemma =>
        have hz : z = 4 := by have := HZ.out; omega
        subst hz
        have d5 : W2.cell? ⟨b3, 4, none⟩ = some (.slice x.guards.a x.guards.l.length x.guards.c) := HB3.out.list0 rfl
        have f5 : W2.frozen? ⟨b3, 4, none⟩ = false := HB3.out.frozen 4
        go_upto_region 24 with fail
        have HB33 : Hid (Blk (W2.setCell ⟨b3, 4, none⟩ (.slice la l.length lc)) b3 27 (encSc { x with guards := ⟨la, lc, l⟩ }).toArray) := Lib.hid (HB3.out.setL 4 (.slice la l.length lc))
        have HB63 : Hid (Blk (W2.setCell ⟨b3, 4, none⟩ (.slice la l.length lc)) b6 27 (encSc sc0).toArray) := Lib.hid (HB6.out.far (p := ⟨b3, 4, none⟩) HNE.out _)
        have HOX3 : Hid (OwnS B (W2.setCell ⟨b3, 4, none⟩ (.slice la l.length lc)) { x with guards := ⟨la, lc, l⟩ }) := Lib.hid (OwnS.set (x := { x with guards := ⟨la, lc, l⟩ }) ⟨HOX.out.ups, HOX.out.offs, HOX.out.gates, HOL.out, HOX.out.drifts, HOX.out.ops, HOX.out.each, HOX.out.fts⟩ HB3.out)
        have HBW3 : Hid (Below B W (W2.setCell ⟨b3, 4, none⟩ (.slice la l.length lc))) := Lib.hid (HBW.out.setCell (p := ⟨b3, 4, none⟩) HBb.out _)
        generalize W2.setCell ⟨b3, 4, none⟩ (.slice la l.length lc) = W3 at *
        go_wp2_with (first | ((with_reducible show wpList _ _ _ (Oper.mk (some 88) _ _ _ _ _ :: _) _ _); refine wpList_loadW W27 rfl rfl (x := .tmp 3) rfl (encSc { x with guards := ⟨la, lc, l⟩ }) rfl (Blk.list HB33.out) ?_) | ((with_reducible show wpList _ _ _ (Oper.mk none (Op.store 27 _ _) _ _ _ _ :: _) _ _); refine wpList_skipped rfl (exec_storeW W27 rfl rfl rfl rfl (encSc_one _) HB63.out rfl) ?_))
        exact bodyPost_ret (results_cell2v rfl W27 rfl rfl (Blk.list (Blk.part HB63.out)) (v := .bool true) rfl) rfl (HGOOD.out _ _ HBW3.out (by rw [HSV.out]; rfl) HOX3.out HB63.out)
      · as_aux_lemma =>
        have hz : z = 5 := by have := HZ.out; omega
        subst hz
        have d5 : W2.cell? ⟨b3, 5, none⟩ = some (.slice x.drifts.a x.drifts.l.length x.drifts.c) := HB3.out.list0 rfl
        have f5 : W2.frozen? ⟨b3, 5, none⟩ = false := HB3.out.frozen 5
        go_upto_region 24 with fail
        have HB33 : Hid (Blk (W2.setCell ⟨b3, 5, none⟩ (.slice la l.length lc)) b3 27 (encSc { x with drifts := ⟨la, lc, l⟩ }).toArray) := Lib.hid (HB3.out.setL 5 (.slice la l.length lc))
        have HB63 : Hid (Blk (W2.setCell ⟨b3, 5, none⟩ (.slice la l.length lc)) b6 27 (encSc sc0).toArray) := Lib.hid (HB6.out.far (p := ⟨b3, 5, none⟩) HNE.out _)
        have HOX3 : Hid (OwnS B (W2.setCell ⟨b3, 5, none⟩ (.slice la l.length lc)) { x with drifts := ⟨la, lc, l⟩ }) := Lib.hid (OwnS.set (x := { x with drifts := ⟨la, lc, l⟩ }) ⟨HOX.out.ups, HOX.out.offs, HOX.out.gates, HOX.out.guards, HOL.out, HOX.out.ops, HOX.out.each, HOX.out.fts⟩ HB3.out)
        have HBW3 : Hid (Below B W (W2.setCell ⟨b3, 5, none⟩ (.slice la l.length lc))) := Lib.hid (HBW.out.setCell (p := ⟨b3, 5, none⟩) HBb.out _)
        generalize W2.setCell ⟨b3, 5, none⟩ (.slice la l.length lc) = W3 at *
        go_wp2_with (first | ((with_reducible show wpList _ _ _ (Oper.mk (some 88) _ _ _ _ _ :: _) _ _); refine wpList_loadW W27 rfl rfl (x := .tmp 3) rfl (encSc { x with drifts := ⟨la, lc, l⟩ }) rfl (Blk.list HB33.out) ?_) | ((with_reducible show wpList _ _ _ (Oper.mk none (Op.store 27 _ _) _ _ _ _ :: _) _ _); refine wpList_skipped rfl (exec_storeW W27 rfl rfl rfl rfl (encSc_one _) HB63.out rfl) ?_))
        exact bodyPost_ret (results_cell2v rfl W27 rfl rfl (Blk.list (Blk.part HB63.out)) (v := .bool true) rfl) rfl (HGOOD.out _ _ HBW3.out (by rw [HSV.out]; rfl) HOX3.out HB63.out)
end Go.Proofs.YtkinhhkodaacjaaGreatDoor
