/- Contract: Check of lists, of the program. -/
import Derived.Test.YtimcljlbjnhpnaaM6
namespace Go.Proofs.Ytimcljlbjnhpnaa
open Go.RowKit Go.Shelf
open Md

theorem boxKeep {w W W' : World} {b : Nat} {t : TypeId} {cs : Array Value} (h : Blk W b t cs ∧ Below w.heap.size w W) (hb : Below W.heap.size W W') : Blk W' b t cs ∧ Below w.heap.size w W' :=
  ⟨h.1.keep hb, h.2.trans (hb.mono h.2.size)⟩

set_option maxRecDepth 100000 in
set_option maxHeartbeats 6400000 in
theorem mcheck_any (m : Me) (w : World) (h : GoodMe w m) : Calls Try.prog 41 #[mev m] w fun e w' => e = .returned (.int .i64 (errM m)) ∧ Below w.heap.size w w' := by
  have hco : ∀ W, Below w.heap.size w W → _ := fun W hW => counts_any m W (h.below hW)
  have HCO : Hid (okCounts m = (decide (4 ≤ m.nodes) && decide (m.nodes ≤ 8) && decide (1 ≤ m.ml.length) && decide (m.ml.length ≤ 4) && decide ((m.cold.l.length : Int) = m.nodes) && decide (2 ≤ trues m.cold.l))) := rfl
  have HCN : Hid (∀ W g, Below w.heap.size w W → (m.cold.l.length : Int) = m.nodes → Blk W g 25 (mec m) → _) := fun W g hW hcl hB => containsMo_any m g hcl W (h.below hW) hB
  have HLE : Hid (∀ W, Below w.heap.size w W → 4 ≤ m.nodes → m.nodes ≤ 8 → 0 ≤ m.drift → m.drift ≤ 64 → 0 ≤ m.delay → m.delay ≤ 64 → 0 ≤ m.win → m.win ≤ 1048576 → 0 ≤ m.gap → m.gap ≤ 1048576 → _) := fun W hW a b c d e f g h' i j => mleast_any m W (h.below hW) a b c d e f g h' i j
  have HOK : Hid (okM m = (okCounts m && m.ml.all (okMode m) && (decide (0 ≤ m.drift) && decide (m.drift ≤ 64) && decide (0 ≤ m.delay) && decide (m.delay ≤ 64) && decide (m.win ≤ 1048576) && decide (m.gap ≤ 1048576) && decide (m.slot ≤ 16777216)) &&
    (decide (16 * m.nodes * m.drift + 16 ≤ m.win) && decide (2 * m.win + 2 * m.delay + 4 ≤ m.gap) && decide (2 * m.gap + maxAir m ≤ m.slot)))) := rfl
  have HER : Hid (errM m = if okM m then 0 else 70) := rfl
  have hair := airTo_bd m m.ml.length
  rw [show airTo m m.ml.length = maxAir m from rfl] at hair
  have HND := Lib.hid (@nd_bd m.nodes m.drift)
  obtain ⟨nodes, slot, gap, win, drift, delay, ⟨ca, cc, cl⟩, ma, mc, ml⟩ := m
  unfold mev at *
  unfold mec at HCN
  simp only at *
  generalize maxAir _ = A at *
  generalize okCounts _ = c at *
  generalize ml.all _ = q2 at *
  generalize okM _ = ok at *
  generalize errM _ = z at *
  have HNO : Hid (ok = false → z = 70) := fun h => by rw [HER.out, h]; rfl
  have HYES : Hid (ok = true → z = 0) := fun h => by rw [HER.out, h]; rfl
  have HJ : Hid (Blk (w.alloc (.cells #[.int .i64 nodes, .int .i64 slot, .int .i64 gap, .int .i64 win, .int .i64 drift, .int .i64 delay, .slice ca cl.length cc, .slice ma ml.length mc] 25)) w.heap.size 25 #[.int .i64 nodes, .int .i64 slot, .int .i64 gap, .int .i64 win, .int .i64 drift, .int .i64 delay, .slice ca cl.length cc, .slice ma ml.length mc] ∧ Below w.heap.size w (w.alloc (.cells #[.int .i64 nodes, .int .i64 slot, .int .i64 gap, .int .i64 win, .int .i64 drift, .int .i64 delay, .slice ca cl.length cc, .slice ma ml.length mc] 25))) := ⟨Blk.new' rfl, below1 w _⟩
  clear h HER
  go_enter Try.func41, Try.ntmps41
  go_wp2_with fail
  refine (hco _ HJ.out.2).mono ?_
  rintro e w1 ⟨rfl, hb⟩
  replace HJ := Lib.hid (boxKeep HJ.out hb)
  clear hb hco
  obtain ⟨m0, m1, m2, m3, m4, m5, m6, m7⟩ := HJ.out.1.eight
  cases c
  · go_wp2
    go_ret
    exact ⟨ret_int (HNO.out (by rw [HOK.out]; rfl)).symm, HJ.out.2⟩
  have hco := HCO.out
  have hn : 4 ≤ nodes ∧ nodes ≤ 8 ∧ (cl.length : Int) = nodes := by
    have := hco.symm
    simp only [Bool.and_eq_true, decide_eq_true_eq] at this
    exact ⟨this.1.1.1.1.1, this.1.1.1.1.2, this.1.2⟩
  obtain ⟨hn0, hn1, hn2⟩ := hn
  have HN2 := Lib.hid hn2
  clear hco hn2 HCO
  go_wp2_with fail
  refine (HCN.out _ _ HJ.out.2 HN2.out HJ.out.1).mono ?_
  rintro e w2 ⟨rfl, hb⟩
  clear m0 m1 m2 m3 m4 m5 m6 m7
  replace HJ := Lib.hid (boxKeep HJ.out hb)
  clear hb HCN
  obtain ⟨m0, m1, m2, m3, m4, m5, m6, m7⟩ := HJ.out.1.eight
  cases q2
  · go_wp2
    go_ret
    exact ⟨ret_int (HNO.out (by rw [HOK.out]; rfl)).symm, HJ.out.2⟩
  by_cases hd : 0 ≤ drift ∧ drift ≤ 64
  rotate_left
  · have q : (decide (0 ≤ drift) && decide (drift ≤ 64)) = false := by simp; omega
    have HW := Lib.hid (fun W => within7_any drift 0 64 W)
    rw [q] at HW
    have HN := Lib.hid hd
    clear q hd
    go_wp2_with fail
    refine (HW.out _).mono ?_
    rintro e w' ⟨rfl, rfl⟩
    go_wp2
    go_ret
    exact ⟨ret_int (HNO.out (by have := HN.out; rw [HOK.out]; simp only [Bool.true_and, Bool.and_eq_false_iff, decide_eq_false_iff_not]; omega)).symm, HJ.out.2⟩
  obtain ⟨hda, hdb⟩ := hd
  have q : (decide (0 ≤ drift) && decide (drift ≤ 64)) = true := by simp; omega
  have HWd := Lib.hid (fun W => within7_any drift 0 64 W)
  rw [q] at HWd
  clear q
  go_wp2_with fail
  refine (HWd.out _).mono ?_
  rintro e w' ⟨rfl, rfl⟩
  by_cases he : 0 ≤ delay ∧ delay ≤ 64
  rotate_left
  · have q : (decide (0 ≤ delay) && decide (delay ≤ 64)) = false := by simp; omega
    have HW := Lib.hid (fun W => within7_any delay 0 64 W)
    rw [q] at HW
    have HN := Lib.hid he
    clear q he
    go_wp2_with fail
    refine (HW.out _).mono ?_
    rintro e w' ⟨rfl, rfl⟩
    go_wp2
    go_ret
    exact ⟨ret_int (HNO.out (by have := HN.out; rw [HOK.out]; simp only [Bool.true_and, Bool.and_eq_false_iff, decide_eq_false_iff_not]; omega)).symm, HJ.out.2⟩
  obtain ⟨hea, heb⟩ := he
  have q : (decide (0 ≤ delay) && decide (delay ≤ 64)) = true := by simp; omega
  have HWe := Lib.hid (fun W => within7_any delay 0 64 W)
  rw [q] at HWe
  clear q
  go_wp2_with fail
  refine (HWe.out _).mono ?_
  rintro e w' ⟨rfl, rfl⟩
  by_cases hw : 0 ≤ win ∧ win ≤ 1048576
  rotate_left
  · have q : (decide (0 ≤ win) && decide (win ≤ 1048576)) = false := by simp; omega
    have HW := Lib.hid (fun W => within7_any win 0 1048576 W)
    rw [q] at HW
    have HN := Lib.hid hw
    clear q hw
    go_wp2_with fail
    refine (HW.out _).mono ?_
    rintro e w' ⟨rfl, rfl⟩
    go_wp2
    go_ret
    exact ⟨ret_int (HNO.out (by have := HN.out; rw [HOK.out]; simp only [Bool.true_and, Bool.and_eq_false_iff, decide_eq_false_iff_not]; have hg9 := HND.out (by omega) (by omega) (by omega) (by omega); generalize 16 * nodes * drift = ND at *; omega)).symm, HJ.out.2⟩
  obtain ⟨hwa, hwb⟩ := hw
  have q : (decide (0 ≤ win) && decide (win ≤ 1048576)) = true := by simp; omega
  have HWw := Lib.hid (fun W => within7_any win 0 1048576 W)
  rw [q] at HWw
  clear q
  go_wp2_with fail
  refine (HWw.out _).mono ?_
  rintro e w' ⟨rfl, rfl⟩
  by_cases hg : 0 ≤ gap ∧ gap ≤ 1048576
  rotate_left
  · have q : (decide (0 ≤ gap) && decide (gap ≤ 1048576)) = false := by simp; omega
    have HW := Lib.hid (fun W => within7_any gap 0 1048576 W)
    rw [q] at HW
    have HN := Lib.hid hg
    clear q hg
    go_wp2_with fail
    refine (HW.out _).mono ?_
    rintro e w' ⟨rfl, rfl⟩
    go_wp2
    go_ret
    exact ⟨ret_int (HNO.out (by have := HN.out; rw [HOK.out]; simp only [Bool.true_and, Bool.and_eq_false_iff, decide_eq_false_iff_not]; have hg9 := HND.out (by omega) (by omega) (by omega) (by omega); generalize 16 * nodes * drift = ND at *; omega)).symm, HJ.out.2⟩
  obtain ⟨hga, hgb⟩ := hg
  have q : (decide (0 ≤ gap) && decide (gap ≤ 1048576)) = true := by simp; omega
  have HWg := Lib.hid (fun W => within7_any gap 0 1048576 W)
  rw [q] at HWg
  clear q
  go_wp2_with fail
  refine (HWg.out _).mono ?_
  rintro e w' ⟨rfl, rfl⟩
  by_cases hs : 0 ≤ slot ∧ slot ≤ 16777216
  rotate_left
  · have q : (decide (0 ≤ slot) && decide (slot ≤ 16777216)) = false := by simp; omega
    have HW := Lib.hid (fun W => within7_any slot 0 16777216 W)
    rw [q] at HW
    have HN := Lib.hid hs
    clear q hs
    go_wp2_with fail
    refine (HW.out _).mono ?_
    rintro e w' ⟨rfl, rfl⟩
    go_wp2
    go_ret
    exact ⟨ret_int (HNO.out (by have := HN.out; rw [HOK.out]; simp only [Bool.true_and, Bool.and_eq_false_iff, decide_eq_false_iff_not]; have hg9 := HND.out (by omega) (by omega) (by omega) (by omega); generalize 16 * nodes * drift = ND at *; omega)).symm, HJ.out.2⟩
  obtain ⟨hsa, hsb⟩ := hs
  have q : (decide (0 ≤ slot) && decide (slot ≤ 16777216)) = true := by simp; omega
  have HWs := Lib.hid (fun W => within7_any slot 0 16777216 W)
  rw [q] at HWs
  clear q
  go_wp2_with fail
  refine (HWs.out _).mono ?_
  rintro e w' ⟨rfl, rfl⟩
  have hnd := HND.out hn0 hn1 hda hdb
  have hle := HLE.out _ HJ.out.2 hn0 hn1 hda hdb hea heb hwa hwb hga hgb
  clear HLE HND HWd HWe HWw HWg HWs
  generalize 16 * nodes * drift = ND at *
  go_wp2_with fail
  refine hle.mono ?_
  rintro e w3 ⟨rfl, hb⟩
  clear m0 m1 m2 m3 m4 m5 m6 m7
  replace HJ := Lib.hid (boxKeep HJ.out hb)
  clear hb hle
  obtain ⟨m0, m1, m2, m3, m4, m5, m6, m7⟩ := HJ.out.1.eight
  by_cases k1 : win < ND + 16
  · go_wp2
    go_ret
    exact ⟨ret_int (HNO.out (by rw [HOK.out]; simp only [Bool.true_and, Bool.and_eq_false_iff, decide_eq_false_iff_not]; omega)).symm, HJ.out.2⟩
  by_cases k2 : gap < 2 * win + 2 * delay + 4
  · go_wp2
    go_ret
    exact ⟨ret_int (HNO.out (by rw [HOK.out]; simp only [Bool.true_and, Bool.and_eq_false_iff, decide_eq_false_iff_not]; omega)).symm, HJ.out.2⟩
  by_cases k3 : slot < 2 * gap + A
  · go_wp2
    go_ret
    exact ⟨ret_int (HNO.out (by rw [HOK.out]; simp only [Bool.true_and, Bool.and_eq_false_iff, decide_eq_false_iff_not]; omega)).symm, HJ.out.2⟩
  go_wp2
  go_ret
  exact ⟨ret_int (HYES.out (by rw [HOK.out]; simp only [Bool.true_and, Bool.and_eq_true, decide_eq_true_eq]; omega)).symm, HJ.out.2⟩
end Go.Proofs.Ytimcljlbjnhpnaa
