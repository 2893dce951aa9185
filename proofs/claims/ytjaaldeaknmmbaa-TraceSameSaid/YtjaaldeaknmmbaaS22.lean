/- The program's same: snaps. -/
import Derived.Test.YtjaaldeaknmmbaaS21
namespace Go.Proofs.Ytjaaldeaknmmbaa
open Go.RowKit Go.Shelf

theorem encN_one (x : Sn) : ∀ u ∈ encN x, u.oneCell' = true := fun u hu => encS_one x u (List.mem_of_mem_drop hu)
def zN : Array Value := #[.int .i64 0, .int .i64 0, .int .i64 0, .int .i64 0, .int .i64 0, .int .i64 0, .int .i64 0, .int .i64 0, .int .i64 0, .int .i64 0, .int .i64 0, .int .i64 0, .int .i64 0, .int .i64 0, .int .i64 0, .bool false, .int .i64 0, .int .i64 0, .slice none 0 0, .slice none 0 0, .int .i64 0, .int .i64 0]
theorem exec_alloc39 {w : World} {o : Oper} {a : Act} (ho : o.op = .alloc 39) : (execOp a.eval o).run Try.prog w = .ok (.value (.pointer (some ⟨w.heap.size, 0, none⟩))) (w.alloc (.cells zN 39)) := by
  unfold execOp zN
  simp only [ho]
  go_simp
theorem Blk.row {w : World} {b : Nat} {t : TypeId} {old : Array Value} (h : Blk w b t old) (cs : Array Value) : Blk (w.setRow b cs) b t cs := setRow_heap w b old cs t (0, 0) h
theorem Blk.rowFar {w : World} {b g : Nat} {t : TypeId} {cs : Array Value} (h : Blk w b t cs) (hne : b ≠ g) (ds : Array Value) : Blk (w.setRow g ds) b t cs := (setRow_other w g b ds hne).trans h

set_option maxRecDepth 100000 in
set_option maxHeartbeats 6400000 in
theorem sameS_any (x y : Sx) (w : World) (hx : GoodX w x) (hy : GoodX w y) :
    Calls Try.prog 34 #[.agg (encS x.s).toArray, .agg (encS y.s).toArray] w (SamePost (decide (SameS x y)) w) := by
  have HP : Hid (∀ b w', b = decide (SameS x y) → Below w.heap.size w w' → SamePost (decide (SameS x y)) w (.returned (.bool b)) w') := fun b w' hb h => by rw [← hb]; exact ⟨rfl, h⟩
  have HSH : Hid (SameS x y = (x.s.r = y.s.r ∧ SameN x y)) := rfl
  have hb2 : Below w.heap.size w ((w.alloc (.cells (encS x.s).toArray 41)).alloc (.cells (encS y.s).toArray 41)) := below2 w _ _
  have HBX : Hid (Blk ((w.alloc (.cells (encS x.s).toArray 41)).alloc (.cells (encS y.s).toArray 41)) w.heap.size 41 (encS x.s).toArray) := (Blk.new' rfl : Blk _ _ _ _).alloc _
  have HBY : Hid (Blk ((w.alloc (.cells (encS x.s).toArray 41)).alloc (.cells (encS y.s).toArray 41)) (w.heap.size + 1) 41 (encS y.s).toArray) := Blk.new' (by simp)
  have HX := Lib.hid (hx.below hb2)
  have HY := Lib.hid (hy.below hb2)
  have hsz : ((w.alloc (.cells (encS x.s).toArray 41)).alloc (.cells (encS y.s).toArray 41)).heap.size = w.heap.size + 2 := by simp
  clear hx hy
  go_enter Try.func34, Try.ntmps34
  go_upto_region 1 with fail
  generalize ((w.alloc (.cells (encS x.s).toArray 41)).alloc (.cells (encS y.s).toArray 41)) = w2 at *
  have HB2 := Lib.hid hb2
  have z1 : w.heap.size < w2.heap.size := by omega
  have z2 : w.heap.size + 1 < w2.heap.size := by omega
  clear hsz hb2
  have a0 : w2.cell? ⟨w.heap.size, 0, none⟩ = some (.int .i64 x.s.r) := HBX.out.list0 rfl
  have b0 : w2.cell? ⟨w.heap.size + 1, 0, none⟩ = some (.int .i64 y.s.r) := HBY.out.list0 rfl
  go_cut [5, 6] from 5 to 10 (fun p q wx => ∃ bx by', p = .pointer (some ⟨bx, 0, none⟩) ∧ q = .pointer (some ⟨by', 0, none⟩) ∧ Hid (Blk wx bx 39 (encN x.s).toArray) ∧ Hid (Blk wx by' 39 (encN y.s).toArray) ∧ Hid (Below w2.heap.size w2 wx) ∧ Hid (Below w.heap.size w wx))
  case first =>
    refine wp_region_held_drew (S := fun X => Below w2.heap.size w2 X) (by kernel_rfl) (Below.refl _ _).drew (fun hHeld => ?_)
    (refine takeW (i := 0) (v := ?_) rfl (by kernel_rfl) (by kernel_rfl) (by kernel_rfl) (fun _ _ _ h => h) (by rfl) (by assumption) ?_ ?_; rotate_left; (intro W hW; (try dsimp only at hW); go_simp; try with_reducible rfl); (try simp only [Act.put, List.setIfInBounds_toArray, List.set_cons_zero, List.set_cons_succ]))
    (refine takeW (i := 1) rfl (by kernel_rfl) (by kernel_rfl) (by kernel_rfl) (fun _ _ _ h => h) (by rfl) (by assumption) (fun W hW => exec_loadW W39 rfl rfl rfl ((HBX.out.keep hW).sub (s_n _))) ?_; (try simp only [Act.put, List.setIfInBounds_toArray, List.set_cons_zero, List.set_cons_succ]))
    (refine takeW (i := 2) (v := ?_) rfl (by kernel_rfl) (by kernel_rfl) (by kernel_rfl) (fun _ _ _ h => h) (by rfl) (by assumption) ?_ ?_; rotate_left; (intro W hW; (try dsimp only at hW); go_simp; try with_reducible rfl); (try simp only [Act.put, List.setIfInBounds_toArray, List.set_cons_zero, List.set_cons_succ]))
    (refine takeW (i := 3) rfl (by kernel_rfl) (by kernel_rfl) (by kernel_rfl) (fun _ _ _ h => h) (by rfl) (by assumption) (fun W hW => exec_loadW W39 rfl rfl rfl ((HBY.out.keep hW).sub (s_n _))) ?_; (try simp only [Act.put, List.setIfInBounds_toArray, List.set_cons_zero, List.set_cons_succ]))
    refine takeV2 (i := 4) (j := 5) rfl rfl (by kernel_rfl) (by rfl) (by rfl) (exec_alloc39 rfl) (hHeld.alloc hHeld.size _) (exec_alloc39 rfl) (hHeld.alloc hHeld.size _) ?_ ?_
    · (try simp only [Act.put, List.setIfInBounds_toArray, List.set_cons_zero, List.set_cons_succ])
      have hHeld : Below w2.heap.size w2 (w2.drew.alloc (.cells zN 39)) := hHeld.alloc hHeld.size _
      refine takeV (i := 5) rfl (by kernel_rfl) (by rfl) (exec_alloc39 rfl) (hHeld.alloc hHeld.size _) ?_
      (try simp only [Act.put, List.setIfInBounds_toArray, List.set_cons_zero, List.set_cons_succ])
      have hHeld : Below w2.heap.size w2 ((w2.drew.alloc (.cells zN 39)).alloc (.cells zN 39)) := hHeld.alloc hHeld.size _
      obtain ⟨px, hpx⟩ : ∃ p, p = w2.drew.heap.size := ⟨_, rfl⟩
      obtain ⟨py, hpy⟩ : ∃ p, p = (w2.drew.alloc (.cells zN 39)).heap.size := ⟨_, rfl⟩
      have HPX : Hid (Blk ((w2.drew.alloc (.cells zN 39)).alloc (.cells zN 39)) px 39 zN) := by show Blk _ _ _ _; rw [hpx]; exact (Blk.new' rfl : Blk _ _ _ _).alloc _
      have HPY : Hid (Blk ((w2.drew.alloc (.cells zN 39)).alloc (.cells zN 39)) py 39 zN) := by show Blk _ _ _ _; rw [hpy]; exact Blk.new' rfl
      have hne : px ≠ py := by rw [hpx, hpy]; simp
      have hlx : w2.heap.size ≤ px := by rw [hpx]; simp
      have hly : w2.heap.size ≤ py := by rw [hpy]; simp
      rw [← hpx, ← hpy]
      refine takeVs (i := 6) rfl (by kernel_rfl) (by rfl) (exec_storeW W39 rfl rfl rfl rfl (encN_one _) HPX.out rfl) (below_setRow hHeld hlx _) ?_
      replace HPY := Lib.hid (HPY.out.rowFar hne.symm (encN x.s).toArray)
      replace HPX := Lib.hid (HPX.out.row (encN x.s).toArray)
      have hHeld2 := below_setRow hHeld hlx (encN x.s).toArray
      clear hHeld
      generalize (((w2.drew.alloc (.cells zN 39)).alloc (.cells zN 39))).setRow px (encN x.s).toArray = w5 at *
      refine takeVs (i := 7) rfl (by kernel_rfl) (by rfl) (exec_storeW W39 rfl rfl rfl rfl (encN_one _) HPY.out rfl) (below_setRow hHeld2 hly _) ?_
      replace HPX := Lib.hid (HPX.out.rowFar hne (encN y.s).toArray)
      replace HPY := Lib.hid (HPY.out.row (encN y.s).toArray)
      have hHeld3 := below_setRow hHeld2 hly (encN y.s).toArray
      clear hHeld2
      generalize w5.setRow py (encN y.s).toArray = w6 at *
      have HB6 : Hid (Below w.heap.size w w6) := HB2.out.trans (hHeld3.mono (by omega))
      skip
      refine wpAnyH_done (by kernel_rfl) ?_ _
      go_wp2
      go_meet
      exact ⟨px, py, rfl, rfl, HPX, HPY, hHeld3, HB6⟩
    · (try simp only [Act.put, List.setIfInBounds_toArray, List.set_cons_zero, List.set_cons_succ])
      have hHeld : Below w2.heap.size w2 (w2.drew.alloc (.cells zN 39)) := hHeld.alloc hHeld.size _
      refine takeV (i := 4) rfl (by kernel_rfl) (by rfl) (exec_alloc39 rfl) (hHeld.alloc hHeld.size _) ?_
      (try simp only [Act.put, List.setIfInBounds_toArray, List.set_cons_zero, List.set_cons_succ])
      have hHeld : Below w2.heap.size w2 ((w2.drew.alloc (.cells zN 39)).alloc (.cells zN 39)) := hHeld.alloc hHeld.size _
      obtain ⟨px, hpx⟩ : ∃ p, p = (w2.drew.alloc (.cells zN 39)).heap.size := ⟨_, rfl⟩
      obtain ⟨py, hpy⟩ : ∃ p, p = w2.drew.heap.size := ⟨_, rfl⟩
      have HPX : Hid (Blk ((w2.drew.alloc (.cells zN 39)).alloc (.cells zN 39)) px 39 zN) := by show Blk _ _ _ _; rw [hpx]; exact Blk.new' rfl
      have HPY : Hid (Blk ((w2.drew.alloc (.cells zN 39)).alloc (.cells zN 39)) py 39 zN) := by show Blk _ _ _ _; rw [hpy]; exact (Blk.new' rfl : Blk _ _ _ _).alloc _
      have hne : px ≠ py := by rw [hpx, hpy]; simp
      have hlx : w2.heap.size ≤ px := by rw [hpx]; simp
      have hly : w2.heap.size ≤ py := by rw [hpy]; simp
      rw [← hpx, ← hpy]
      refine takeVs (i := 6) rfl (by kernel_rfl) (by rfl) (exec_storeW W39 rfl rfl rfl rfl (encN_one _) HPX.out rfl) (below_setRow hHeld hlx _) ?_
      replace HPY := Lib.hid (HPY.out.rowFar hne.symm (encN x.s).toArray)
      replace HPX := Lib.hid (HPX.out.row (encN x.s).toArray)
      have hHeld2 := below_setRow hHeld hlx (encN x.s).toArray
      clear hHeld
      generalize (((w2.drew.alloc (.cells zN 39)).alloc (.cells zN 39))).setRow px (encN x.s).toArray = w5 at *
      refine takeVs (i := 7) rfl (by kernel_rfl) (by rfl) (exec_storeW W39 rfl rfl rfl rfl (encN_one _) HPY.out rfl) (below_setRow hHeld2 hly _) ?_
      replace HPX := Lib.hid (HPX.out.rowFar hne (encN y.s).toArray)
      replace HPY := Lib.hid (HPY.out.row (encN y.s).toArray)
      have hHeld3 := below_setRow hHeld2 hly (encN y.s).toArray
      clear hHeld2
      generalize w5.setRow py (encN y.s).toArray = w6 at *
      have HB6 : Hid (Below w.heap.size w w6) := HB2.out.trans (hHeld3.mono (by omega))
      skip
      refine wpAnyH_done (by kernel_rfl) ?_ _
      go_wp2
      go_meet
      exact ⟨px, py, rfl, rfl, HPX, HPY, hHeld3, HB6⟩
  case rest =>
    obtain ⟨bx, by', rfl, rfl, HNX, HNY, HA3, HB3⟩ := hcut
    rename World => w3
    clear a0 b0
    have a0 := keepCell HA3.out (HBX.out.list0 rfl : w2.cell? ⟨w.heap.size, 0, none⟩ = some (.int .i64 x.s.r))
    have b0 := keepCell HA3.out (HBY.out.list0 rfl : w2.cell? ⟨w.heap.size + 1, 0, none⟩ = some (.int .i64 y.s.r))
    have hs3 := HA3.out.size
    have y1 := HNX.out.lt
    have y2 := HNY.out.lt
    have hcon := sameH_any x y w3 (HX.out.below HA3.out) (HY.out.below HA3.out)
    clear HBX HBY HA3 HX HY HB2
    have c0 : w3.cell? ⟨bx, 0, none⟩ = some (.int .i64 x.s.i) := HNX.out.list0 rfl
    have d0 : w3.cell? ⟨by', 0, none⟩ = some (.int .i64 y.s.i) := HNY.out.list0 rfl
    have c1 : w3.cell? ⟨bx, 1, none⟩ = some (.int .i64 x.s.s) := HNX.out.list0 rfl
    have d1 : w3.cell? ⟨by', 1, none⟩ = some (.int .i64 y.s.s) := HNY.out.list0 rfl
    have c2 : w3.cell? ⟨bx, 14, none⟩ = some (.int .i64 x.s.tm) := HNX.out.list0 rfl
    have d2 : w3.cell? ⟨by', 14, none⟩ = some (.int .i64 y.s.tm) := HNY.out.list0 rfl
    have c3 : w3.cell? ⟨bx, 15, none⟩ = some (.bool x.s.bg) := HNX.out.list0 rfl
    have d3 : w3.cell? ⟨by', 15, none⟩ = some (.bool y.s.bg) := HNY.out.list0 rfl
    have c4 : w3.cell? ⟨bx, 16, none⟩ = some (.int .i64 x.s.su) := HNX.out.list0 rfl
    have d4 : w3.cell? ⟨by', 16, none⟩ = some (.int .i64 y.s.su) := HNY.out.list0 rfl
    by_cases h1 : x.s.r = y.s.r
    · have Hh1 := Lib.hid h1
      have e1 : (x.s.r == y.s.r) = true := by simpa using h1
      clear h1
      by_cases h2 : x.s.i = y.s.i
      · have Hh2 := Lib.hid h2
        have e2 : (x.s.i == y.s.i) = true := by simpa using h2
        clear h2
        by_cases h3 : x.s.s = y.s.s
        · have Hh3 := Lib.hid h3
          have e3 : (x.s.s == y.s.s) = true := by simpa using h3
          clear h3
          by_cases h4 : x.s.c = y.s.c
          · have Hh4 := Lib.hid h4
            have e4 : decide (x.s.c = y.s.c) = true := decide_eq_true h4
            clear h4
            by_cases h5 : x.s.vs = y.s.vs
            · have Hh5 := Lib.hid h5
              have e5 : decide (x.s.vs = y.s.vs) = true := decide_eq_true h5
              clear h5
              by_cases h6 : x.s.tm = y.s.tm
              · have Hh6 := Lib.hid h6
                have e6 : (x.s.tm == y.s.tm) = true := by simpa using h6
                clear h6
                by_cases h7 : x.s.bg = y.s.bg
                · have Hh7 := Lib.hid h7
                  have e7 : (x.s.bg == y.s.bg) = true := by simpa using h7
                  clear h7
                  by_cases h8 : x.s.su = y.s.su
                  · have Hh8 := Lib.hid h8
                    have e8 : (x.s.su == y.s.su) = true := by simpa using h8
                    clear h8
                    have HD : Hid (decide (SameH x y) = decide (SameS x y)) := by show _ = _; rw [Bool.eq_iff_iff, decide_eq_true_iff, decide_eq_true_iff, HSH.out]; exact ⟨fun h => ⟨Hh1.out, Hh2.out, Hh3.out, Hh4.out, Hh5.out, Hh6.out, Hh7.out, Hh8.out, h⟩, fun h => h.2.2.2.2.2.2.2.2⟩
                    rw [HD.out] at hcon
                    go_wp2_with (first | ((with_reducible show wpList _ _ _ (Oper.mk (some 32) _ _ _ _ _ :: _) _ _); refine wpList_loadW W31 rfl rfl (x := .tmp 31) rfl (encC x.s.c) rfl (HNX.out.sub (n_c _)) ?_) | ((with_reducible show wpList _ _ _ (Oper.mk (some 34) _ _ _ _ _ :: _) _ _); refine wpList_loadW W31 rfl rfl (x := .tmp 33) rfl (encC y.s.c) rfl (HNY.out.sub (n_c _)) ?_) | ((with_reducible show wpList _ _ _ (Oper.mk (some 35) _ _ _ _ _ :: _) _ _); refine wpList_val rfl (exec_eqlC rfl rfl rfl) ?_; go_must (rw [e4])) | ((with_reducible show wpList _ _ _ (Oper.mk (some 39) _ _ _ _ _ :: _) _ _); refine wpList_loadW W33 rfl rfl (x := .tmp 38) rfl (encV x.s.vs) rfl (HNX.out.sub (n_v _)) ?_) | ((with_reducible show wpList _ _ _ (Oper.mk (some 41) _ _ _ _ _ :: _) _ _); refine wpList_loadW W33 rfl rfl (x := .tmp 40) rfl (encV y.s.vs) rfl (HNY.out.sub (n_v _)) ?_) | ((with_reducible show wpList _ _ _ (Oper.mk (some 42) _ _ _ _ _ :: _) _ _); refine wpList_val rfl (exec_eqlV rfl rfl rfl) ?_; go_must (rw [e5])) | ((with_reducible show wpList _ _ _ (Oper.mk (some 67) _ _ _ _ _ :: _) _ _); refine wpList_loadW W37 rfl rfl (x := .tmp 66) rfl (encH x.s) rfl (HNX.out.sub (n_h _)) ?_) | ((with_reducible show wpList _ _ _ (Oper.mk (some 69) _ _ _ _ _ :: _) _ _); refine wpList_loadW W37 rfl rfl (x := .tmp 68) rfl (encH y.s) rfl (HNY.out.sub (n_h _)) ?_) | (go_at_call 50; refine hcon.mono ?_; go_must (rintro e w4 ⟨rfl, hb⟩; have HB4 := Lib.hid (HB3.out.trans (hb.mono (by omega))); clear hb)))
                    go_ret
                    exact HP.out _ _ rfl HB4.out
                  · have e8 : (x.s.su == y.s.su) = false := by simpa using h8
                    have HF : Hid (false = decide (SameS x y)) := by show _ = _; rw [eq_comm, decide_eq_false_iff_not, HSH.out]; exact fun h => h8 h.2.2.2.2.2.2.2.1
                    clear h8
                    go_wp2_with (first | ((with_reducible show wpList _ _ _ (Oper.mk (some 32) _ _ _ _ _ :: _) _ _); refine wpList_loadW W31 rfl rfl (x := .tmp 31) rfl (encC x.s.c) rfl (HNX.out.sub (n_c _)) ?_) | ((with_reducible show wpList _ _ _ (Oper.mk (some 34) _ _ _ _ _ :: _) _ _); refine wpList_loadW W31 rfl rfl (x := .tmp 33) rfl (encC y.s.c) rfl (HNY.out.sub (n_c _)) ?_) | ((with_reducible show wpList _ _ _ (Oper.mk (some 35) _ _ _ _ _ :: _) _ _); refine wpList_val rfl (exec_eqlC rfl rfl rfl) ?_; go_must (rw [e4])) | ((with_reducible show wpList _ _ _ (Oper.mk (some 39) _ _ _ _ _ :: _) _ _); refine wpList_loadW W33 rfl rfl (x := .tmp 38) rfl (encV x.s.vs) rfl (HNX.out.sub (n_v _)) ?_) | ((with_reducible show wpList _ _ _ (Oper.mk (some 41) _ _ _ _ _ :: _) _ _); refine wpList_loadW W33 rfl rfl (x := .tmp 40) rfl (encV y.s.vs) rfl (HNY.out.sub (n_v _)) ?_) | ((with_reducible show wpList _ _ _ (Oper.mk (some 42) _ _ _ _ _ :: _) _ _); refine wpList_val rfl (exec_eqlV rfl rfl rfl) ?_; go_must (rw [e5])))
                    go_ret
                    exact HP.out false _ HF.out HB3.out
                · have e7 : (x.s.bg == y.s.bg) = false := by simpa using h7
                  have HF : Hid (false = decide (SameS x y)) := by show _ = _; rw [eq_comm, decide_eq_false_iff_not, HSH.out]; exact fun h => h7 h.2.2.2.2.2.2.1
                  clear h7
                  go_wp2_with (first | ((with_reducible show wpList _ _ _ (Oper.mk (some 32) _ _ _ _ _ :: _) _ _); refine wpList_loadW W31 rfl rfl (x := .tmp 31) rfl (encC x.s.c) rfl (HNX.out.sub (n_c _)) ?_) | ((with_reducible show wpList _ _ _ (Oper.mk (some 34) _ _ _ _ _ :: _) _ _); refine wpList_loadW W31 rfl rfl (x := .tmp 33) rfl (encC y.s.c) rfl (HNY.out.sub (n_c _)) ?_) | ((with_reducible show wpList _ _ _ (Oper.mk (some 35) _ _ _ _ _ :: _) _ _); refine wpList_val rfl (exec_eqlC rfl rfl rfl) ?_; go_must (rw [e4])) | ((with_reducible show wpList _ _ _ (Oper.mk (some 39) _ _ _ _ _ :: _) _ _); refine wpList_loadW W33 rfl rfl (x := .tmp 38) rfl (encV x.s.vs) rfl (HNX.out.sub (n_v _)) ?_) | ((with_reducible show wpList _ _ _ (Oper.mk (some 41) _ _ _ _ _ :: _) _ _); refine wpList_loadW W33 rfl rfl (x := .tmp 40) rfl (encV y.s.vs) rfl (HNY.out.sub (n_v _)) ?_) | ((with_reducible show wpList _ _ _ (Oper.mk (some 42) _ _ _ _ _ :: _) _ _); refine wpList_val rfl (exec_eqlV rfl rfl rfl) ?_; go_must (rw [e5])))
                  go_ret
                  exact HP.out false _ HF.out HB3.out
              · have e6 : (x.s.tm == y.s.tm) = false := by simpa using h6
                have HF : Hid (false = decide (SameS x y)) := by show _ = _; rw [eq_comm, decide_eq_false_iff_not, HSH.out]; exact fun h => h6 h.2.2.2.2.2.1
                clear h6
                go_wp2_with (first | ((with_reducible show wpList _ _ _ (Oper.mk (some 32) _ _ _ _ _ :: _) _ _); refine wpList_loadW W31 rfl rfl (x := .tmp 31) rfl (encC x.s.c) rfl (HNX.out.sub (n_c _)) ?_) | ((with_reducible show wpList _ _ _ (Oper.mk (some 34) _ _ _ _ _ :: _) _ _); refine wpList_loadW W31 rfl rfl (x := .tmp 33) rfl (encC y.s.c) rfl (HNY.out.sub (n_c _)) ?_) | ((with_reducible show wpList _ _ _ (Oper.mk (some 35) _ _ _ _ _ :: _) _ _); refine wpList_val rfl (exec_eqlC rfl rfl rfl) ?_; go_must (rw [e4])) | ((with_reducible show wpList _ _ _ (Oper.mk (some 39) _ _ _ _ _ :: _) _ _); refine wpList_loadW W33 rfl rfl (x := .tmp 38) rfl (encV x.s.vs) rfl (HNX.out.sub (n_v _)) ?_) | ((with_reducible show wpList _ _ _ (Oper.mk (some 41) _ _ _ _ _ :: _) _ _); refine wpList_loadW W33 rfl rfl (x := .tmp 40) rfl (encV y.s.vs) rfl (HNY.out.sub (n_v _)) ?_) | ((with_reducible show wpList _ _ _ (Oper.mk (some 42) _ _ _ _ _ :: _) _ _); refine wpList_val rfl (exec_eqlV rfl rfl rfl) ?_; go_must (rw [e5])))
                go_ret
                exact HP.out false _ HF.out HB3.out
            · have e5 : decide (x.s.vs = y.s.vs) = false := decide_eq_false h5
              have HF : Hid (false = decide (SameS x y)) := by show _ = _; rw [eq_comm, decide_eq_false_iff_not, HSH.out]; exact fun h => h5 h.2.2.2.2.1
              clear h5
              go_wp2_with (first | ((with_reducible show wpList _ _ _ (Oper.mk (some 32) _ _ _ _ _ :: _) _ _); refine wpList_loadW W31 rfl rfl (x := .tmp 31) rfl (encC x.s.c) rfl (HNX.out.sub (n_c _)) ?_) | ((with_reducible show wpList _ _ _ (Oper.mk (some 34) _ _ _ _ _ :: _) _ _); refine wpList_loadW W31 rfl rfl (x := .tmp 33) rfl (encC y.s.c) rfl (HNY.out.sub (n_c _)) ?_) | ((with_reducible show wpList _ _ _ (Oper.mk (some 35) _ _ _ _ _ :: _) _ _); refine wpList_val rfl (exec_eqlC rfl rfl rfl) ?_; go_must (rw [e4])) | ((with_reducible show wpList _ _ _ (Oper.mk (some 39) _ _ _ _ _ :: _) _ _); refine wpList_loadW W33 rfl rfl (x := .tmp 38) rfl (encV x.s.vs) rfl (HNX.out.sub (n_v _)) ?_) | ((with_reducible show wpList _ _ _ (Oper.mk (some 41) _ _ _ _ _ :: _) _ _); refine wpList_loadW W33 rfl rfl (x := .tmp 40) rfl (encV y.s.vs) rfl (HNY.out.sub (n_v _)) ?_) | ((with_reducible show wpList _ _ _ (Oper.mk (some 42) _ _ _ _ _ :: _) _ _); refine wpList_val rfl (exec_eqlV rfl rfl rfl) ?_; go_must (rw [e5])))
              go_ret
              exact HP.out false _ HF.out HB3.out
          · have e4 : decide (x.s.c = y.s.c) = false := decide_eq_false h4
            have HF : Hid (false = decide (SameS x y)) := by show _ = _; rw [eq_comm, decide_eq_false_iff_not, HSH.out]; exact fun h => h4 h.2.2.2.1
            clear h4
            go_wp2_with (first | ((with_reducible show wpList _ _ _ (Oper.mk (some 32) _ _ _ _ _ :: _) _ _); refine wpList_loadW W31 rfl rfl (x := .tmp 31) rfl (encC x.s.c) rfl (HNX.out.sub (n_c _)) ?_) | ((with_reducible show wpList _ _ _ (Oper.mk (some 34) _ _ _ _ _ :: _) _ _); refine wpList_loadW W31 rfl rfl (x := .tmp 33) rfl (encC y.s.c) rfl (HNY.out.sub (n_c _)) ?_) | ((with_reducible show wpList _ _ _ (Oper.mk (some 35) _ _ _ _ _ :: _) _ _); refine wpList_val rfl (exec_eqlC rfl rfl rfl) ?_; go_must (rw [e4])))
            go_ret
            exact HP.out false _ HF.out HB3.out
        · have e3 : (x.s.s == y.s.s) = false := by simpa using h3
          have HF : Hid (false = decide (SameS x y)) := by show _ = _; rw [eq_comm, decide_eq_false_iff_not, HSH.out]; exact fun h => h3 h.2.2.1
          clear h3
          go_wp2
          go_ret
          exact HP.out false _ HF.out HB3.out
      · have e2 : (x.s.i == y.s.i) = false := by simpa using h2
        have HF : Hid (false = decide (SameS x y)) := by show _ = _; rw [eq_comm, decide_eq_false_iff_not, HSH.out]; exact fun h => h2 h.2.1
        clear h2
        go_wp2
        go_ret
        exact HP.out false _ HF.out HB3.out
    · have e1 : (x.s.r == y.s.r) = false := by simpa using h1
      have HF : Hid (false = decide (SameS x y)) := by show _ = _; rw [eq_comm, decide_eq_false_iff_not, HSH.out]; exact fun h => h1 h.1
      clear h1
      go_wp2
      go_ret
      exact HP.out false _ HF.out HB3.out
end Go.Proofs.Ytjaaldeaknmmbaa
