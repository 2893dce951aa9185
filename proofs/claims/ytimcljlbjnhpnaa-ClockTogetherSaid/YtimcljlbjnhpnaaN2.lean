/- Contracts: Slot, Send, Window of clocks, of the program and of the document. -/
import Derived.Test.YtimcljlbjnhpnaaN1
namespace Go.Proofs.Ytimcljlbjnhpnaa
open Go.RowKit Go.Shelf
open Md

theorem three_boxes {w W W' : World} {b b' b2 : Nat} {t t' t2 : TypeId} {cs cs' cs2 : Array Value} (h : Blk W b t cs ∧ Blk W b' t' cs' ∧ Blk W b2 t2 cs2 ∧ Below w.heap.size w W) (hb : Below W.heap.size W W') :
    Blk W' b t cs ∧ Blk W' b' t' cs' ∧ Blk W' b2 t2 cs2 ∧ Below w.heap.size w W' :=
  ⟨h.1.keep hb, h.2.1.keep hb, h.2.2.1.keep hb, h.2.2.2.trans (hb.mono h.2.2.2.size)⟩
theorem errC_ok {m : Me} {c : Ck} (h : errC m c = 0) : okM m = true ∧ 0 ≤ c.st ∧ c.st ≤ 1099494850560 ∧ 0 ≤ c.sl ∧ c.sl ≤ 1048576 ∧ c.dl.length ≤ 8 ∧ ∀ d ∈ c.dl, -m.win ≤ d ∧ d ≤ m.win := by
  unfold errC at h
  by_cases h1 : okM m = true
  · rw [if_pos h1] at h
    by_cases h2 : okMay m.win c = true
    · unfold okMay at h2
      simp only [Bool.and_eq_true, decide_eq_true_eq, Bool.not_eq_true', List.any_eq_false] at h2
      refine ⟨h1, h2.1.1.1.1.1, h2.1.1.1.1.2, h2.1.1.1.2, h2.1.1.2, h2.1.2, fun d hd => ?_⟩
      have := h2.2 d hd
      simp only [Fta.far, Bool.or_eq_true, decide_eq_true_eq] at this
      omega
    · rw [if_neg h2] at h; omega
  · rw [if_neg h1] at h; omega
def sendV (m : Me) (c : Ck) : Int := if errC m c = 0 then c.st + m.gap else 0
def slotV (m : Me) (c : Ck) : Int × Int := if errC m c = 0 then (c.st, c.st + m.slot) else (0, 0)
def winV (m : Me) (c : Ck) : Int × Int := if errC m c = 0 then (max (c.st + m.gap + m.delay - m.win) 0, c.st + m.gap + m.delay + m.win + 1) else (0, 0)

set_option maxRecDepth 100000 in
set_option maxHeartbeats 3200000 in
theorem send_any (m : Me) (c : Ck) (w : World) (h : GoodMe w m) (hc : GoodCk w c) :
    Calls Try.prog 12 #[mev m, clv c] w fun e w' => e = .returned (.tuple #[.int .i64 (sendV m c), .int .i64 (errC m c)]) ∧ Below w.heap.size w w' := by
  have HV : Hid (sendV m c = if errC m c = 0 then c.st + m.gap else 0) := rfl
  generalize sendV _ _ = v at *
  have hcc : ∀ W, Below w.heap.size w W → _ := fun W hW => ccheck_any m c W (h.below hW) (hc.below hW)
  have HOK := Lib.hid (@errC_ok m c)
  obtain ⟨nodes, slot, gap, win, drift, delay, ⟨ca, cc, cl⟩, ma, mc, ml⟩ := m
  obtain ⟨st, sl, da, dc, dl⟩ := c
  unfold mev clv at *
  simp only at *
  generalize hec : errC _ _ = ec at *
  have HEC := Lib.hid hec
  clear hec
  have HJ : Hid (Blk ((w.alloc (.cells #[.int .i64 nodes, .int .i64 slot, .int .i64 gap, .int .i64 win, .int .i64 drift, .int .i64 delay, .slice ca cl.length cc, .slice ma ml.length mc] 25)).alloc (.cells #[.int .i64 st, .int .i64 sl, .slice da dl.length dc] 28)) w.heap.size 25 #[.int .i64 nodes, .int .i64 slot, .int .i64 gap, .int .i64 win, .int .i64 drift, .int .i64 delay, .slice ca cl.length cc, .slice ma ml.length mc] ∧ Blk ((w.alloc (.cells #[.int .i64 nodes, .int .i64 slot, .int .i64 gap, .int .i64 win, .int .i64 drift, .int .i64 delay, .slice ca cl.length cc, .slice ma ml.length mc] 25)).alloc (.cells #[.int .i64 st, .int .i64 sl, .slice da dl.length dc] 28)) (w.heap.size + 1) 28 #[.int .i64 st, .int .i64 sl, .slice da dl.length dc] ∧ Below w.heap.size w ((w.alloc (.cells #[.int .i64 nodes, .int .i64 slot, .int .i64 gap, .int .i64 win, .int .i64 drift, .int .i64 delay, .slice ca cl.length cc, .slice ma ml.length mc] 25)).alloc (.cells #[.int .i64 st, .int .i64 sl, .slice da dl.length dc] 28))) :=
    ⟨(Blk.new' rfl).alloc _, Blk.new' (by simp), below2 w _ _⟩
  go_enter Try.func12, Try.ntmps12
  go_wp2_with fail
  refine (hcc _ HJ.out.2.2).mono ?_
  rintro e w1 ⟨rfl, hb⟩
  replace HJ := Lib.hid (two_boxes HJ.out hb)
  clear hb hcc
  obtain ⟨m0, m1, m2, m3, m4, m5, m6, m7⟩ := HJ.out.1.eight; obtain ⟨c0, c1, c2⟩ := HJ.out.2.1.three; have hz0 := HJ.out.1.lt; have hz1 := HJ.out.2.1.lt
  by_cases he : ec = 0
  rotate_left
  · have hne : (ec != 0) = true := by simpa using he
    have hv : v = 0 := by rw [HV.out, if_neg he]
    subst hv
    clear he
    go_wp2
    go_ret2
    exact ⟨rfl, HJ.out.2.2⟩
  subst he
  have hk := HOK.out rfl
  obtain ⟨hM, s0, s1, l0, l1, d8, hdv⟩ := hk
  obtain ⟨⟨n0, n1⟩, ⟨dr0, dr1⟩, ⟨de0, de1⟩, ⟨wi0, wi1⟩, ⟨ga0, ga1⟩, ⟨so0, so1⟩, _⟩ := okM_bd hM
  simp only at n0 n1 dr0 dr1 de0 de1 wi0 wi1 ga0 ga1 so0 so1
  clear hM hdv
  have hv : v = st + gap := by rw [HV.out, if_pos rfl]
  subst hv
  go_wp2
  go_ret2
  exact ⟨rfl, HJ.out.2.2⟩

set_option maxRecDepth 100000 in
set_option maxHeartbeats 3200000 in
theorem rsend_any (m : Me) (c : Ck) (w : World) (h : GoodMe w m) (hc : GoodCk w c) :
    Calls Try.prog 23 #[mev m, clv c] w fun e w' => e = .returned (.tuple #[.int .i64 (sendV m c), .int .i64 (errC m c)]) ∧ Below w.heap.size w w' := by
  have HV : Hid (sendV m c = if errC m c = 0 then c.st + m.gap else 0) := rfl
  generalize sendV _ _ = v at *
  have hcc : ∀ W, Below w.heap.size w W → _ := fun W hW => rccheck_any m c W (h.below hW) (hc.below hW)
  have HOK := Lib.hid (@errC_ok m c)
  obtain ⟨nodes, slot, gap, win, drift, delay, ⟨ca, cc, cl⟩, ma, mc, ml⟩ := m
  obtain ⟨st, sl, da, dc, dl⟩ := c
  unfold mev clv at *
  simp only at *
  generalize hec : errC _ _ = ec at *
  have HEC := Lib.hid hec
  clear hec
  have HJ : Hid (Blk ((w.alloc (.cells #[.int .i64 nodes, .int .i64 slot, .int .i64 gap, .int .i64 win, .int .i64 drift, .int .i64 delay, .slice ca cl.length cc, .slice ma ml.length mc] 25)).alloc (.cells #[.int .i64 st, .int .i64 sl, .slice da dl.length dc] 28)) w.heap.size 25 #[.int .i64 nodes, .int .i64 slot, .int .i64 gap, .int .i64 win, .int .i64 drift, .int .i64 delay, .slice ca cl.length cc, .slice ma ml.length mc] ∧ Blk ((w.alloc (.cells #[.int .i64 nodes, .int .i64 slot, .int .i64 gap, .int .i64 win, .int .i64 drift, .int .i64 delay, .slice ca cl.length cc, .slice ma ml.length mc] 25)).alloc (.cells #[.int .i64 st, .int .i64 sl, .slice da dl.length dc] 28)) (w.heap.size + 1) 28 #[.int .i64 st, .int .i64 sl, .slice da dl.length dc] ∧ Below w.heap.size w ((w.alloc (.cells #[.int .i64 nodes, .int .i64 slot, .int .i64 gap, .int .i64 win, .int .i64 drift, .int .i64 delay, .slice ca cl.length cc, .slice ma ml.length mc] 25)).alloc (.cells #[.int .i64 st, .int .i64 sl, .slice da dl.length dc] 28))) :=
    ⟨(Blk.new' rfl).alloc _, Blk.new' (by simp), below2 w _ _⟩
  go_enter Try.func23, Try.ntmps23
  go_wp2_with fail
  refine (hcc _ HJ.out.2.2).mono ?_
  rintro e w1 ⟨rfl, hb⟩
  replace HJ := Lib.hid (two_boxes HJ.out hb)
  clear hb hcc
  obtain ⟨m0, m1, m2, m3, m4, m5, m6, m7⟩ := HJ.out.1.eight; obtain ⟨c0, c1, c2⟩ := HJ.out.2.1.three; have hz0 := HJ.out.1.lt; have hz1 := HJ.out.2.1.lt
  by_cases he : ec = 0
  rotate_left
  · have hne : (ec != 0) = true := by simpa using he
    have hv : v = 0 := by rw [HV.out, if_neg he]
    subst hv
    clear he
    go_wp2
    go_ret2
    exact ⟨rfl, HJ.out.2.2⟩
  subst he
  have hk := HOK.out rfl
  obtain ⟨hM, s0, s1, l0, l1, d8, hdv⟩ := hk
  obtain ⟨⟨n0, n1⟩, ⟨dr0, dr1⟩, ⟨de0, de1⟩, ⟨wi0, wi1⟩, ⟨ga0, ga1⟩, ⟨so0, so1⟩, _⟩ := okM_bd hM
  simp only at n0 n1 dr0 dr1 de0 de1 wi0 wi1 ga0 ga1 so0 so1
  clear hM hdv
  have hv : v = st + gap := by rw [HV.out, if_pos rfl]
  subst hv
  go_wp2
  go_ret2
  exact ⟨rfl, HJ.out.2.2⟩

set_option maxRecDepth 100000 in
set_option maxHeartbeats 3200000 in
theorem slot_any (m : Me) (c : Ck) (w : World) (h : GoodMe w m) (hc : GoodCk w c) :
    Calls Try.prog 14 #[mev m, clv c] w fun e w' => e = .returned (.tuple #[.agg #[.int .i64 (slotV m c).1, .int .i64 (slotV m c).2], .int .i64 (errC m c)]) ∧ Below w.heap.size w w' := by
  have HV : Hid (slotV m c = if errC m c = 0 then (c.st, c.st + m.slot) else (0, 0)) := rfl
  generalize slotV _ _ = v at *
  have hcc : ∀ W, Below w.heap.size w W → _ := fun W hW => ccheck_any m c W (h.below hW) (hc.below hW)
  have HOK := Lib.hid (@errC_ok m c)
  obtain ⟨nodes, slot, gap, win, drift, delay, ⟨ca, cc, cl⟩, ma, mc, ml⟩ := m
  obtain ⟨st, sl, da, dc, dl⟩ := c
  unfold mev clv at *
  simp only at *
  generalize hec : errC _ _ = ec at *
  have HEC := Lib.hid hec
  clear hec
  have HJ : Hid (Blk (((w.alloc (.cells #[.int .i64 nodes, .int .i64 slot, .int .i64 gap, .int .i64 win, .int .i64 drift, .int .i64 delay, .slice ca cl.length cc, .slice ma ml.length mc] 25)).alloc (.cells #[.int .i64 st, .int .i64 sl, .slice da dl.length dc] 28)).alloc (.cells #[.int .i64 0, .int .i64 0] 37)) w.heap.size 25 #[.int .i64 nodes, .int .i64 slot, .int .i64 gap, .int .i64 win, .int .i64 drift, .int .i64 delay, .slice ca cl.length cc, .slice ma ml.length mc] ∧ Blk (((w.alloc (.cells #[.int .i64 nodes, .int .i64 slot, .int .i64 gap, .int .i64 win, .int .i64 drift, .int .i64 delay, .slice ca cl.length cc, .slice ma ml.length mc] 25)).alloc (.cells #[.int .i64 st, .int .i64 sl, .slice da dl.length dc] 28)).alloc (.cells #[.int .i64 0, .int .i64 0] 37)) (w.heap.size + 1) 28 #[.int .i64 st, .int .i64 sl, .slice da dl.length dc] ∧ Blk (((w.alloc (.cells #[.int .i64 nodes, .int .i64 slot, .int .i64 gap, .int .i64 win, .int .i64 drift, .int .i64 delay, .slice ca cl.length cc, .slice ma ml.length mc] 25)).alloc (.cells #[.int .i64 st, .int .i64 sl, .slice da dl.length dc] 28)).alloc (.cells #[.int .i64 0, .int .i64 0] 37)) (w.heap.size + 1 + 1) 37 #[.int .i64 0, .int .i64 0] ∧ Below w.heap.size w (((w.alloc (.cells #[.int .i64 nodes, .int .i64 slot, .int .i64 gap, .int .i64 win, .int .i64 drift, .int .i64 delay, .slice ca cl.length cc, .slice ma ml.length mc] 25)).alloc (.cells #[.int .i64 st, .int .i64 sl, .slice da dl.length dc] 28)).alloc (.cells #[.int .i64 0, .int .i64 0] 37))) :=
    ⟨((Blk.new' rfl).alloc _).alloc _, (Blk.new' (by simp)).alloc _, Blk.new' (by simp), below3 w _ _ _⟩
  go_enter Try.func14, Try.ntmps14
  go_wp2_with fail
  refine (hcc _ HJ.out.2.2.2).mono ?_
  rintro e w1 ⟨rfl, hb⟩
  replace HJ := Lib.hid (three_boxes HJ.out hb)
  clear hb hcc
  obtain ⟨m0, m1, m2, m3, m4, m5, m6, m7⟩ := HJ.out.1.eight; obtain ⟨c0, c1, c2⟩ := HJ.out.2.1.three; have hz0 := HJ.out.1.lt; have hz1 := HJ.out.2.1.lt
  by_cases he : ec = 0
  rotate_left
  · have hne : (ec != 0) = true := by simpa using he
    have hv : v = (0, 0) := by rw [HV.out, if_neg he]
    subst hv
    clear he
    have DR := HJ.out.2.2.1; obtain ⟨p0, p1⟩ := DR.two; have f0 := DR.frozen 0; have f1 := DR.frozen 1
    go_wp2
    exact bodyPost_ret (v := .tuple #[.agg #[.int .i64 0, .int .i64 0], .int .i64 ec]) (by simp [results, Try.results14, go_sem, ((DR.set 0 (.int .i64 0)).set 1 (.int .i64 0)).cell 0, ((DR.set 0 (.int .i64 0)).set 1 (.int .i64 0)).cell 1]) rfl ⟨rfl, (HJ.out.2.2.2.setCell (p := ⟨w.heap.size + 1 + 1, 0, none⟩) (by simp <;> omega) _).setCell (p := ⟨w.heap.size + 1 + 1, 1, none⟩) (by simp <;> omega) _⟩
  subst he
  have hv : v = (st, st + slot) := by rw [HV.out, if_pos rfl]
  subst hv
  have hk := HOK.out rfl
  obtain ⟨hM, s0, s1, l0, l1, d8, hdv⟩ := hk
  obtain ⟨⟨n0, n1⟩, ⟨dr0, dr1⟩, ⟨de0, de1⟩, ⟨wi0, wi1⟩, ⟨ga0, ga1⟩, ⟨so0, so1⟩, _⟩ := okM_bd hM
  simp only at n0 n1 dr0 dr1 de0 de1 wi0 wi1 ga0 ga1 so0 so1
  clear hM hdv
  have DR := HJ.out.2.2.1; obtain ⟨p0, p1⟩ := DR.two; have f0 := DR.frozen 0; have f1 := DR.frozen 1
  go_wp2
  exact bodyPost_ret (v := .tuple #[.agg #[.int .i64 st, .int .i64 (st + slot)], .int .i64 0]) (by simp [results, Try.results14, go_sem, ((DR.set 0 (.int .i64 st)).set 1 (.int .i64 (st + slot))).cell 0, ((DR.set 0 (.int .i64 st)).set 1 (.int .i64 (st + slot))).cell 1]) rfl ⟨rfl, (HJ.out.2.2.2.setCell (p := ⟨w.heap.size + 1 + 1, 0, none⟩) (by simp <;> omega) _).setCell (p := ⟨w.heap.size + 1 + 1, 1, none⟩) (by simp <;> omega) _⟩

set_option maxRecDepth 100000 in
set_option maxHeartbeats 3200000 in
theorem rslot_any (m : Me) (c : Ck) (w : World) (h : GoodMe w m) (hc : GoodCk w c) :
    Calls Try.prog 17 #[mev m, clv c] w fun e w' => e = .returned (.tuple #[.agg #[.int .i64 (slotV m c).1, .int .i64 (slotV m c).2], .int .i64 (errC m c)]) ∧ Below w.heap.size w w' := by
  have HV : Hid (slotV m c = if errC m c = 0 then (c.st, c.st + m.slot) else (0, 0)) := rfl
  generalize slotV _ _ = v at *
  have hcc : ∀ W, Below w.heap.size w W → _ := fun W hW => rccheck_any m c W (h.below hW) (hc.below hW)
  have HOK := Lib.hid (@errC_ok m c)
  obtain ⟨nodes, slot, gap, win, drift, delay, ⟨ca, cc, cl⟩, ma, mc, ml⟩ := m
  obtain ⟨st, sl, da, dc, dl⟩ := c
  unfold mev clv at *
  simp only at *
  generalize hec : errC _ _ = ec at *
  have HEC := Lib.hid hec
  clear hec
  have HJ : Hid (Blk (((w.alloc (.cells #[.int .i64 nodes, .int .i64 slot, .int .i64 gap, .int .i64 win, .int .i64 drift, .int .i64 delay, .slice ca cl.length cc, .slice ma ml.length mc] 25)).alloc (.cells #[.int .i64 st, .int .i64 sl, .slice da dl.length dc] 28)).alloc (.cells #[.int .i64 0, .int .i64 0] 37)) w.heap.size 25 #[.int .i64 nodes, .int .i64 slot, .int .i64 gap, .int .i64 win, .int .i64 drift, .int .i64 delay, .slice ca cl.length cc, .slice ma ml.length mc] ∧ Blk (((w.alloc (.cells #[.int .i64 nodes, .int .i64 slot, .int .i64 gap, .int .i64 win, .int .i64 drift, .int .i64 delay, .slice ca cl.length cc, .slice ma ml.length mc] 25)).alloc (.cells #[.int .i64 st, .int .i64 sl, .slice da dl.length dc] 28)).alloc (.cells #[.int .i64 0, .int .i64 0] 37)) (w.heap.size + 1) 28 #[.int .i64 st, .int .i64 sl, .slice da dl.length dc] ∧ Blk (((w.alloc (.cells #[.int .i64 nodes, .int .i64 slot, .int .i64 gap, .int .i64 win, .int .i64 drift, .int .i64 delay, .slice ca cl.length cc, .slice ma ml.length mc] 25)).alloc (.cells #[.int .i64 st, .int .i64 sl, .slice da dl.length dc] 28)).alloc (.cells #[.int .i64 0, .int .i64 0] 37)) (w.heap.size + 1 + 1) 37 #[.int .i64 0, .int .i64 0] ∧ Below w.heap.size w (((w.alloc (.cells #[.int .i64 nodes, .int .i64 slot, .int .i64 gap, .int .i64 win, .int .i64 drift, .int .i64 delay, .slice ca cl.length cc, .slice ma ml.length mc] 25)).alloc (.cells #[.int .i64 st, .int .i64 sl, .slice da dl.length dc] 28)).alloc (.cells #[.int .i64 0, .int .i64 0] 37))) :=
    ⟨((Blk.new' rfl).alloc _).alloc _, (Blk.new' (by simp)).alloc _, Blk.new' (by simp), below3 w _ _ _⟩
  go_enter Try.func17, Try.ntmps17
  go_wp2_with fail
  refine (hcc _ HJ.out.2.2.2).mono ?_
  rintro e w1 ⟨rfl, hb⟩
  replace HJ := Lib.hid (three_boxes HJ.out hb)
  clear hb hcc
  obtain ⟨m0, m1, m2, m3, m4, m5, m6, m7⟩ := HJ.out.1.eight; obtain ⟨c0, c1, c2⟩ := HJ.out.2.1.three; have hz0 := HJ.out.1.lt; have hz1 := HJ.out.2.1.lt
  by_cases he : ec = 0
  rotate_left
  · have hne : (ec != 0) = true := by simpa using he
    have hv : v = (0, 0) := by rw [HV.out, if_neg he]
    subst hv
    clear he
    have DR := HJ.out.2.2.1; obtain ⟨p0, p1⟩ := DR.two; have f0 := DR.frozen 0; have f1 := DR.frozen 1
    go_wp2
    exact bodyPost_ret (v := .tuple #[.agg #[.int .i64 0, .int .i64 0], .int .i64 ec]) (by simp [results, Try.results17, go_sem, ((DR.set 0 (.int .i64 0)).set 1 (.int .i64 0)).cell 0, ((DR.set 0 (.int .i64 0)).set 1 (.int .i64 0)).cell 1]) rfl ⟨rfl, (HJ.out.2.2.2.setCell (p := ⟨w.heap.size + 1 + 1, 0, none⟩) (by simp <;> omega) _).setCell (p := ⟨w.heap.size + 1 + 1, 1, none⟩) (by simp <;> omega) _⟩
  subst he
  have hv : v = (st, st + slot) := by rw [HV.out, if_pos rfl]
  subst hv
  have hk := HOK.out rfl
  obtain ⟨hM, s0, s1, l0, l1, d8, hdv⟩ := hk
  obtain ⟨⟨n0, n1⟩, ⟨dr0, dr1⟩, ⟨de0, de1⟩, ⟨wi0, wi1⟩, ⟨ga0, ga1⟩, ⟨so0, so1⟩, _⟩ := okM_bd hM
  simp only at n0 n1 dr0 dr1 de0 de1 wi0 wi1 ga0 ga1 so0 so1
  clear hM hdv
  have DR := HJ.out.2.2.1; obtain ⟨p0, p1⟩ := DR.two; have f0 := DR.frozen 0; have f1 := DR.frozen 1
  go_wp2
  exact bodyPost_ret (v := .tuple #[.agg #[.int .i64 st, .int .i64 (st + slot)], .int .i64 0]) (by simp [results, Try.results17, go_sem, ((DR.set 0 (.int .i64 st)).set 1 (.int .i64 (st + slot))).cell 0, ((DR.set 0 (.int .i64 st)).set 1 (.int .i64 (st + slot))).cell 1]) rfl ⟨rfl, (HJ.out.2.2.2.setCell (p := ⟨w.heap.size + 1 + 1, 0, none⟩) (by simp <;> omega) _).setCell (p := ⟨w.heap.size + 1 + 1, 1, none⟩) (by simp <;> omega) _⟩

theorem expect_any (m : Me) (c : Ck) (w : World) (he : errC m c = 0) :
    Calls Try.prog 36 #[mev m, clv c] w fun e w' => e = .returned (.int .i64 (c.st + m.gap + m.delay)) ∧ Below w.heap.size w w' := by
  obtain ⟨hM, s0, s1, l0, l1, d8, hdv⟩ := errC_ok he
  obtain ⟨⟨n0, n1⟩, ⟨dr0, dr1⟩, ⟨de0, de1⟩, ⟨wi0, wi1⟩, ⟨ga0, ga1⟩, ⟨so0, so1⟩, _⟩ := okM_bd hM
  clear hM hdv he
  obtain ⟨nodes, slot, gap, win, drift, delay, ⟨ca, cc, cl⟩, ma, mc, ml⟩ := m
  obtain ⟨st, sl, da, dc, dl⟩ := c
  unfold mev clv
  simp only at *
  go_enter Try.func36, Try.ntmps36
  go_wp2
  go_ret
  exact ⟨ret_int (by omega), below2 w _ _⟩

set_option maxRecDepth 100000 in
set_option maxHeartbeats 3200000 in
theorem window_any (m : Me) (c : Ck) (w : World) (h : GoodMe w m) (hc : GoodCk w c) :
    Calls Try.prog 13 #[mev m, clv c] w fun e w' => e = .returned (.tuple #[.agg #[.int .i64 (winV m c).1, .int .i64 (winV m c).2], .int .i64 (errC m c)]) ∧ Below w.heap.size w w' := by
  have HV : Hid (winV m c = if errC m c = 0 then (max (c.st + m.gap + m.delay - m.win) 0, c.st + m.gap + m.delay + m.win + 1) else (0, 0)) := rfl
  generalize winV _ _ = v at *
  have HEX := Lib.hid (fun he W => expect_any m c W he)
  have hcc : ∀ W, Below w.heap.size w W → _ := fun W hW => ccheck_any m c W (h.below hW) (hc.below hW)
  have HOK := Lib.hid (@errC_ok m c)
  obtain ⟨nodes, slot, gap, win, drift, delay, ⟨ca, cc, cl⟩, ma, mc, ml⟩ := m
  obtain ⟨st, sl, da, dc, dl⟩ := c
  unfold mev clv at *
  simp only at *
  generalize hec : errC _ _ = ec at *
  have HEC := Lib.hid hec
  clear hec
  have HJ : Hid (Blk (((w.alloc (.cells #[.int .i64 nodes, .int .i64 slot, .int .i64 gap, .int .i64 win, .int .i64 drift, .int .i64 delay, .slice ca cl.length cc, .slice ma ml.length mc] 25)).alloc (.cells #[.int .i64 st, .int .i64 sl, .slice da dl.length dc] 28)).alloc (.cells #[.int .i64 0, .int .i64 0] 37)) w.heap.size 25 #[.int .i64 nodes, .int .i64 slot, .int .i64 gap, .int .i64 win, .int .i64 drift, .int .i64 delay, .slice ca cl.length cc, .slice ma ml.length mc] ∧ Blk (((w.alloc (.cells #[.int .i64 nodes, .int .i64 slot, .int .i64 gap, .int .i64 win, .int .i64 drift, .int .i64 delay, .slice ca cl.length cc, .slice ma ml.length mc] 25)).alloc (.cells #[.int .i64 st, .int .i64 sl, .slice da dl.length dc] 28)).alloc (.cells #[.int .i64 0, .int .i64 0] 37)) (w.heap.size + 1) 28 #[.int .i64 st, .int .i64 sl, .slice da dl.length dc] ∧ Blk (((w.alloc (.cells #[.int .i64 nodes, .int .i64 slot, .int .i64 gap, .int .i64 win, .int .i64 drift, .int .i64 delay, .slice ca cl.length cc, .slice ma ml.length mc] 25)).alloc (.cells #[.int .i64 st, .int .i64 sl, .slice da dl.length dc] 28)).alloc (.cells #[.int .i64 0, .int .i64 0] 37)) (w.heap.size + 1 + 1) 37 #[.int .i64 0, .int .i64 0] ∧ Below w.heap.size w (((w.alloc (.cells #[.int .i64 nodes, .int .i64 slot, .int .i64 gap, .int .i64 win, .int .i64 drift, .int .i64 delay, .slice ca cl.length cc, .slice ma ml.length mc] 25)).alloc (.cells #[.int .i64 st, .int .i64 sl, .slice da dl.length dc] 28)).alloc (.cells #[.int .i64 0, .int .i64 0] 37))) :=
    ⟨((Blk.new' rfl).alloc _).alloc _, (Blk.new' (by simp)).alloc _, Blk.new' (by simp), below3 w _ _ _⟩
  go_enter Try.func13, Try.ntmps13
  go_wp2_with fail
  refine (hcc _ HJ.out.2.2.2).mono ?_
  rintro e w1 ⟨rfl, hb⟩
  replace HJ := Lib.hid (three_boxes HJ.out hb)
  clear hb hcc
  obtain ⟨m0, m1, m2, m3, m4, m5, m6, m7⟩ := HJ.out.1.eight; obtain ⟨c0, c1, c2⟩ := HJ.out.2.1.three; have hz0 := HJ.out.1.lt; have hz1 := HJ.out.2.1.lt
  by_cases he : ec = 0
  rotate_left
  · have hne : (ec != 0) = true := by simpa using he
    have hv : v = (0, 0) := by rw [HV.out, if_neg he]
    subst hv
    clear he
    have DR := HJ.out.2.2.1; obtain ⟨p0, p1⟩ := DR.two; have f0 := DR.frozen 0; have f1 := DR.frozen 1
    go_wp2
    exact bodyPost_ret (v := .tuple #[.agg #[.int .i64 0, .int .i64 0], .int .i64 ec]) (by simp [results, Try.results13, go_sem, ((DR.set 0 (.int .i64 0)).set 1 (.int .i64 0)).cell 0, ((DR.set 0 (.int .i64 0)).set 1 (.int .i64 0)).cell 1]) rfl ⟨rfl, (HJ.out.2.2.2.setCell (p := ⟨w.heap.size + 1 + 1, 0, none⟩) (by simp <;> omega) _).setCell (p := ⟨w.heap.size + 1 + 1, 1, none⟩) (by simp <;> omega) _⟩
  subst he
  have hv : v = (max (st + gap + delay - win) 0, st + gap + delay + win + 1) := by rw [HV.out, if_pos rfl]
  subst hv
  have hk := HOK.out rfl
  obtain ⟨hM, s0, s1, l0, l1, d8, hdv⟩ := hk
  obtain ⟨⟨n0, n1⟩, ⟨dr0, dr1⟩, ⟨de0, de1⟩, ⟨wi0, wi1⟩, ⟨ga0, ga1⟩, ⟨so0, so1⟩, _⟩ := okM_bd hM
  simp only at n0 n1 dr0 dr1 de0 de1 wi0 wi1 ga0 ga1 so0 so1
  clear hM hdv
  have hex := HEX.out rfl
  go_upto_region 4 with fail
  have H1 : w1.drew.cell? ⟨w.heap.size, 0, none⟩ = some (.int .i64 nodes) ∧ w1.drew.cell? ⟨w.heap.size, 1, none⟩ = some (.int .i64 slot) ∧ w1.drew.cell? ⟨w.heap.size, 2, none⟩ = some (.int .i64 gap) ∧ w1.drew.cell? ⟨w.heap.size, 3, none⟩ = some (.int .i64 win) ∧ w1.drew.cell? ⟨w.heap.size, 4, none⟩ = some (.int .i64 drift) ∧ w1.drew.cell? ⟨w.heap.size, 5, none⟩ = some (.int .i64 delay) ∧ w1.drew.cell? ⟨w.heap.size, 6, none⟩ = some (.slice ca cl.length cc) ∧ w1.drew.cell? ⟨w.heap.size, 7, none⟩ = some (.slice ma ml.length mc) ∧ w1.drew.cell? ⟨w.heap.size + 1, 0, none⟩ = some (.int .i64 st) ∧ w1.drew.cell? ⟨w.heap.size + 1, 1, none⟩ = some (.int .i64 sl) ∧ w1.drew.cell? ⟨w.heap.size + 1, 2, none⟩ = some (.slice da dl.length dc) ∧ Below w1.heap.size w1 w1.drew := ⟨m0, m1, m2, m3, m4, m5, m6, m7, c0, c1, c2, (Below.refl _ _).drew⟩
  clear m0 m1 m2 m3 m4 m5 m6 m7 c0 c1 c2 hz0 hz1
  refine wp_region_held_drew (S := (fun W => W.cell? ⟨w.heap.size, 0, none⟩ = some (.int .i64 nodes) ∧ W.cell? ⟨w.heap.size, 1, none⟩ = some (.int .i64 slot) ∧ W.cell? ⟨w.heap.size, 2, none⟩ = some (.int .i64 gap) ∧ W.cell? ⟨w.heap.size, 3, none⟩ = some (.int .i64 win) ∧ W.cell? ⟨w.heap.size, 4, none⟩ = some (.int .i64 drift) ∧ W.cell? ⟨w.heap.size, 5, none⟩ = some (.int .i64 delay) ∧ W.cell? ⟨w.heap.size, 6, none⟩ = some (.slice ca cl.length cc) ∧ W.cell? ⟨w.heap.size, 7, none⟩ = some (.slice ma ml.length mc) ∧ W.cell? ⟨w.heap.size + 1, 0, none⟩ = some (.int .i64 st) ∧ W.cell? ⟨w.heap.size + 1, 1, none⟩ = some (.int .i64 sl) ∧ W.cell? ⟨w.heap.size + 1, 2, none⟩ = some (.slice da dl.length dc) ∧ Below w1.heap.size w1 W)) (by kernel_rfl) (by assumption) (fun hHeld => ?_)
  generalize w1.drew = Wd at *
  (refine takeW (i := 0) (v := ?_) rfl (by kernel_rfl) (by kernel_rfl) (by kernel_rfl) (fun _ _ _ h => h) (by rfl) (by assumption) ?_ ?_; rotate_left; (intro W hW; (try dsimp only at hW); go_simp; try with_reducible rfl); (try simp only [Act.put, List.setIfInBounds_toArray, List.set_cons_zero, List.set_cons_succ]))
  (refine takeW (i := 1) (v := ?_) rfl (by kernel_rfl) (by kernel_rfl) (by kernel_rfl) (fun _ _ _ h => h) (by rfl) (by assumption) ?_ ?_; rotate_left; (intro W hW; (try dsimp only at hW); go_simp; try with_reducible rfl); (try simp only [Act.put, List.setIfInBounds_toArray, List.set_cons_zero, List.set_cons_succ]))
  (refine takeW (i := 3) (v := ?_) rfl (by kernel_rfl) (by kernel_rfl) (by kernel_rfl) (fun _ _ _ h => h) (by rfl) (by assumption) ?_ ?_; rotate_left; (intro W hW; (try dsimp only at hW); go_simp; try with_reducible rfl); (try simp only [Act.put, List.setIfInBounds_toArray, List.set_cons_zero, List.set_cons_succ]))
  (refine takeW (i := 4) (v := ?_) rfl (by kernel_rfl) (by kernel_rfl) (by kernel_rfl) (fun _ _ _ h => h) (by rfl) (by assumption) ?_ ?_; rotate_left; (intro W hW; (try dsimp only at hW); go_simp; try with_reducible rfl); (try simp only [Act.put, List.setIfInBounds_toArray, List.set_cons_zero, List.set_cons_succ]))
  (refine takeC (i := 2) rfl (by kernel_rfl) (by rfl) (fun K hK => ?_); go_simp; (refine (hex _).mono ?_; rintro e W2 ⟨rfl, hb⟩; have hs : W2.cell? ⟨w.heap.size, 0, none⟩ = some (.int .i64 nodes) ∧ W2.cell? ⟨w.heap.size, 1, none⟩ = some (.int .i64 slot) ∧ W2.cell? ⟨w.heap.size, 2, none⟩ = some (.int .i64 gap) ∧ W2.cell? ⟨w.heap.size, 3, none⟩ = some (.int .i64 win) ∧ W2.cell? ⟨w.heap.size, 4, none⟩ = some (.int .i64 drift) ∧ W2.cell? ⟨w.heap.size, 5, none⟩ = some (.int .i64 delay) ∧ W2.cell? ⟨w.heap.size, 6, none⟩ = some (.slice ca cl.length cc) ∧ W2.cell? ⟨w.heap.size, 7, none⟩ = some (.slice ma ml.length mc) ∧ W2.cell? ⟨w.heap.size + 1, 0, none⟩ = some (.int .i64 st) ∧ W2.cell? ⟨w.heap.size + 1, 1, none⟩ = some (.int .i64 sl) ∧ W2.cell? ⟨w.heap.size + 1, 2, none⟩ = some (.slice da dl.length dc) ∧ Below w1.heap.size w1 W2 := ⟨keepCell hb hHeld.1, keepCell hb hHeld.2.1, keepCell hb hHeld.2.2.1, keepCell hb hHeld.2.2.2.1, keepCell hb hHeld.2.2.2.2.1, keepCell hb hHeld.2.2.2.2.2.1, keepCell hb hHeld.2.2.2.2.2.2.1, keepCell hb hHeld.2.2.2.2.2.2.2.1, keepCell hb hHeld.2.2.2.2.2.2.2.2.1, keepCell hb hHeld.2.2.2.2.2.2.2.2.2.1, keepCell hb hHeld.2.2.2.2.2.2.2.2.2.2.1, hHeld.2.2.2.2.2.2.2.2.2.2.2.trans (hb.mono hHeld.2.2.2.2.2.2.2.2.2.2.2.size)⟩; clear hb); refine hK.out _ _ hs (fun hHeld => ?_); clear hK K; (try simp only [Act.put, List.setIfInBounds_toArray, List.set_cons_zero, List.set_cons_succ]))
  (refine takeW (i := 5) (v := ?_) rfl (by kernel_rfl) (by kernel_rfl) (by kernel_rfl) (fun _ _ _ h => h) (by rfl) (by assumption) ?_ ?_; rotate_left; (intro W hW; (try dsimp only at hW); go_simp; try with_reducible rfl); (try simp only [Act.put, List.setIfInBounds_toArray, List.set_cons_zero, List.set_cons_succ]))
  (refine takeW (i := 6) (v := ?_) rfl (by kernel_rfl) (by kernel_rfl) (by kernel_rfl) (fun _ _ _ h => h) (by rfl) (by assumption) ?_ ?_; rotate_left; (intro W hW; (try dsimp only at hW); go_simp; try with_reducible rfl); (try simp only [Act.put, List.setIfInBounds_toArray, List.set_cons_zero, List.set_cons_succ]))
  refine wpAnyH_done (by kernel_rfl) ?_ _
  skip
  replace HJ := Lib.hid (three_boxes HJ.out hHeld.2.2.2.2.2.2.2.2.2.2.2)
  clear hHeld hex
  obtain ⟨m0, m1, m2, m3, m4, m5, m6, m7⟩ := HJ.out.1.eight; obtain ⟨c0, c1, c2⟩ := HJ.out.2.1.three; have hz0 := HJ.out.1.lt; have hz1 := HJ.out.2.1.lt
  have DR := HJ.out.2.2.1; obtain ⟨p0, p1⟩ := DR.two; have f0 := DR.frozen 0; have f1 := DR.frozen 1
  go_wp2
  exact bodyPost_ret (v := .tuple #[.agg #[.int .i64 (max (st + gap + delay - win) 0), .int .i64 (st + gap + delay + win + 1)], .int .i64 0]) (by simp [results, Try.results13, go_sem, ((DR.set 0 (.int .i64 (max (st + gap + delay - win) 0))).set 1 (.int .i64 (st + gap + delay + win + 1))).cell 0, ((DR.set 0 (.int .i64 (max (st + gap + delay - win) 0))).set 1 (.int .i64 (st + gap + delay + win + 1))).cell 1]) rfl ⟨rfl, (HJ.out.2.2.2.setCell (p := ⟨w.heap.size + 1 + 1, 0, none⟩) (by simp <;> omega) _).setCell (p := ⟨w.heap.size + 1 + 1, 1, none⟩) (by simp <;> omega) _⟩

set_option maxRecDepth 100000 in
set_option maxHeartbeats 3200000 in
theorem rwindow_any (m : Me) (c : Ck) (w : World) (h : GoodMe w m) (hc : GoodCk w c) :
    Calls Try.prog 22 #[mev m, clv c] w fun e w' => e = .returned (.tuple #[.agg #[.int .i64 (winV m c).1, .int .i64 (winV m c).2], .int .i64 (errC m c)]) ∧ Below w.heap.size w w' := by
  have HV : Hid (winV m c = if errC m c = 0 then (max (c.st + m.gap + m.delay - m.win) 0, c.st + m.gap + m.delay + m.win + 1) else (0, 0)) := rfl
  generalize winV _ _ = v at *
  have hcc : ∀ W, Below w.heap.size w W → _ := fun W hW => rccheck_any m c W (h.below hW) (hc.below hW)
  have HOK := Lib.hid (@errC_ok m c)
  obtain ⟨nodes, slot, gap, win, drift, delay, ⟨ca, cc, cl⟩, ma, mc, ml⟩ := m
  obtain ⟨st, sl, da, dc, dl⟩ := c
  unfold mev clv at *
  simp only at *
  generalize hec : errC _ _ = ec at *
  have HEC := Lib.hid hec
  clear hec
  have HJ : Hid (Blk (((w.alloc (.cells #[.int .i64 nodes, .int .i64 slot, .int .i64 gap, .int .i64 win, .int .i64 drift, .int .i64 delay, .slice ca cl.length cc, .slice ma ml.length mc] 25)).alloc (.cells #[.int .i64 st, .int .i64 sl, .slice da dl.length dc] 28)).alloc (.cells #[.int .i64 0, .int .i64 0] 37)) w.heap.size 25 #[.int .i64 nodes, .int .i64 slot, .int .i64 gap, .int .i64 win, .int .i64 drift, .int .i64 delay, .slice ca cl.length cc, .slice ma ml.length mc] ∧ Blk (((w.alloc (.cells #[.int .i64 nodes, .int .i64 slot, .int .i64 gap, .int .i64 win, .int .i64 drift, .int .i64 delay, .slice ca cl.length cc, .slice ma ml.length mc] 25)).alloc (.cells #[.int .i64 st, .int .i64 sl, .slice da dl.length dc] 28)).alloc (.cells #[.int .i64 0, .int .i64 0] 37)) (w.heap.size + 1) 28 #[.int .i64 st, .int .i64 sl, .slice da dl.length dc] ∧ Blk (((w.alloc (.cells #[.int .i64 nodes, .int .i64 slot, .int .i64 gap, .int .i64 win, .int .i64 drift, .int .i64 delay, .slice ca cl.length cc, .slice ma ml.length mc] 25)).alloc (.cells #[.int .i64 st, .int .i64 sl, .slice da dl.length dc] 28)).alloc (.cells #[.int .i64 0, .int .i64 0] 37)) (w.heap.size + 1 + 1) 37 #[.int .i64 0, .int .i64 0] ∧ Below w.heap.size w (((w.alloc (.cells #[.int .i64 nodes, .int .i64 slot, .int .i64 gap, .int .i64 win, .int .i64 drift, .int .i64 delay, .slice ca cl.length cc, .slice ma ml.length mc] 25)).alloc (.cells #[.int .i64 st, .int .i64 sl, .slice da dl.length dc] 28)).alloc (.cells #[.int .i64 0, .int .i64 0] 37))) :=
    ⟨((Blk.new' rfl).alloc _).alloc _, (Blk.new' (by simp)).alloc _, Blk.new' (by simp), below3 w _ _ _⟩
  go_enter Try.func22, Try.ntmps22
  go_wp2_with fail
  refine (hcc _ HJ.out.2.2.2).mono ?_
  rintro e w1 ⟨rfl, hb⟩
  replace HJ := Lib.hid (three_boxes HJ.out hb)
  clear hb hcc
  obtain ⟨m0, m1, m2, m3, m4, m5, m6, m7⟩ := HJ.out.1.eight; obtain ⟨c0, c1, c2⟩ := HJ.out.2.1.three; have hz0 := HJ.out.1.lt; have hz1 := HJ.out.2.1.lt
  by_cases he : ec = 0
  rotate_left
  · have hne : (ec != 0) = true := by simpa using he
    have hv : v = (0, 0) := by rw [HV.out, if_neg he]
    subst hv
    clear he
    have DR := HJ.out.2.2.1; obtain ⟨p0, p1⟩ := DR.two; have f0 := DR.frozen 0; have f1 := DR.frozen 1
    go_wp2
    exact bodyPost_ret (v := .tuple #[.agg #[.int .i64 0, .int .i64 0], .int .i64 ec]) (by simp [results, Try.results22, go_sem, ((DR.set 0 (.int .i64 0)).set 1 (.int .i64 0)).cell 0, ((DR.set 0 (.int .i64 0)).set 1 (.int .i64 0)).cell 1]) rfl ⟨rfl, (HJ.out.2.2.2.setCell (p := ⟨w.heap.size + 1 + 1, 0, none⟩) (by simp <;> omega) _).setCell (p := ⟨w.heap.size + 1 + 1, 1, none⟩) (by simp <;> omega) _⟩
  subst he
  have hv : v = (max (st + gap + delay - win) 0, st + gap + delay + win + 1) := by rw [HV.out, if_pos rfl]
  subst hv
  have hk := HOK.out rfl
  obtain ⟨hM, s0, s1, l0, l1, d8, hdv⟩ := hk
  obtain ⟨⟨n0, n1⟩, ⟨dr0, dr1⟩, ⟨de0, de1⟩, ⟨wi0, wi1⟩, ⟨ga0, ga1⟩, ⟨so0, so1⟩, _⟩ := okM_bd hM
  simp only at n0 n1 dr0 dr1 de0 de1 wi0 wi1 ga0 ga1 so0 so1
  clear hM hdv
  have DR := HJ.out.2.2.1; obtain ⟨p0, p1⟩ := DR.two; have f0 := DR.frozen 0; have f1 := DR.frozen 1
  go_wp2
  exact bodyPost_ret (v := .tuple #[.agg #[.int .i64 (max (st + gap + delay - win) 0), .int .i64 (st + gap + delay + win + 1)], .int .i64 0]) (by simp [results, Try.results22, go_sem, ((DR.set 0 (.int .i64 (max (st + gap + delay - win) 0))).set 1 (.int .i64 (st + gap + delay + win + 1))).cell 0, ((DR.set 0 (.int .i64 (max (st + gap + delay - win) 0))).set 1 (.int .i64 (st + gap + delay + win + 1))).cell 1]) rfl ⟨rfl, (HJ.out.2.2.2.setCell (p := ⟨w.heap.size + 1 + 1, 0, none⟩) (by simp <;> omega) _).setCell (p := ⟨w.heap.size + 1 + 1, 1, none⟩) (by simp <;> omega) _⟩
end Go.Proofs.Ytimcljlbjnhpnaa
