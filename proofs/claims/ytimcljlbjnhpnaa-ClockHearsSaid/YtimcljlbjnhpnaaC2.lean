/- ClockHears: the walk. -/
import Derived.Test.YtimcljlbjnhpnaaC1
import Derived.Laws.Closers25b
namespace Go.Proofs.Ytimcljlbjnhpnaa
open Go.RowKit Go.Shelf
open Md

theorem wrap_bd (n : Int) : I64 (IntKind.i64.wrap n) := by
  have h := wrap_within .i64 n
  have e1 : IntKind.i64.min = -9223372036854775808 := by decide
  have e2 : IntKind.i64.max = 9223372036854775807 := by decide
  rw [e1, e2] at h
  exact h
set_option maxRecDepth 100000 in
set_option maxHeartbeats 6400000 in
theorem hears_walk (m : Me) (c : Ck) (ap : Int) (w : World) (h : GoodMe w m) (hc : GoodCk w c) (hap : I64 ap) :
    Calls Try.prog 4 #[mev m, clv c, .int .i64 ap] w fun e w' => e = .returned (.bool true) ∧ Below w.heap.size w w' := by
  have hpr : ∀ W, Below w.heap.size w W → _ := fun W hW => precision_any m W (h.below hW)
  have hse : ∀ W, Below w.heap.size w W → _ := fun W hW => send_any m c W (h.below hW) (hc.below hW)
  have hwi : ∀ ot, I64 ot → ∀ W, Below w.heap.size w W → _ := fun ot ho W hW => window_any m ⟨ot, c.sl, c.da, c.dc, c.dl⟩ W (h.below hW) ⟨hc.1.below hW, ho, hc.2.2⟩
  have hsl : ∀ ot, I64 ot → ∀ W, Below w.heap.size w W → _ := fun ot ho W hW => slot_any m ⟨ot, c.sl, c.da, c.dc, c.dl⟩ W (h.below hW) ⟨hc.1.below hW, ho, hc.2.2⟩
  have hma : ∀ W, Below w.heap.size w W → _ := fun W hW => rmaxAir_any m W (h.below hW)
  have HST := Lib.hid hc.2.1
  have HOK := Lib.hid (@errC_ok m c)
  have HOM := Lib.hid (@errM_ok m)
  have HPV : Hid (precV m = if errM m = 0 then 14 * m.nodes * m.drift + 8 else 0) := rfl
  have HSV : Hid (sendV m c = if errC m c = 0 then c.st + m.gap else 0) := rfl
  obtain ⟨nodes, slot, gap, win, drift, delay, ⟨ca, cc, cl⟩, ma, mc, ml⟩ := m
  obtain ⟨st, sl, da, dc, dl⟩ := c
  unfold mev clv at *
  simp only at *
  generalize sendV _ _ = sv at *
  generalize precV _ = far at *
  generalize hec : errC _ _ = ec at *
  generalize hem : errM _ = em at *
  have HEC := Lib.hid hec
  have HEM := Lib.hid hem
  clear h hc hec hem
  have HJ : Hid (Blk ((w.alloc (.cells #[.int .i64 nodes, .int .i64 slot, .int .i64 gap, .int .i64 win, .int .i64 drift, .int .i64 delay, .slice ca cl.length cc, .slice ma ml.length mc] 25)).alloc (.cells #[.int .i64 st, .int .i64 sl, .slice da dl.length dc] 28)) w.heap.size 25 #[.int .i64 nodes, .int .i64 slot, .int .i64 gap, .int .i64 win, .int .i64 drift, .int .i64 delay, .slice ca cl.length cc, .slice ma ml.length mc] ∧ Blk ((w.alloc (.cells #[.int .i64 nodes, .int .i64 slot, .int .i64 gap, .int .i64 win, .int .i64 drift, .int .i64 delay, .slice ca cl.length cc, .slice ma ml.length mc] 25)).alloc (.cells #[.int .i64 st, .int .i64 sl, .slice da dl.length dc] 28)) (w.heap.size + 1) 28 #[.int .i64 st, .int .i64 sl, .slice da dl.length dc] ∧ Below w.heap.size w ((w.alloc (.cells #[.int .i64 nodes, .int .i64 slot, .int .i64 gap, .int .i64 win, .int .i64 drift, .int .i64 delay, .slice ca cl.length cc, .slice ma ml.length mc] 25)).alloc (.cells #[.int .i64 st, .int .i64 sl, .slice da dl.length dc] 28))) :=
    ⟨(Blk.new' rfl).alloc _, Blk.new' (by simp), below2 w _ _⟩
  go_enter Try.func4, Try.ntmps4
  go_wp2_with fail
  refine (hpr _ HJ.out.2.2).mono ?_
  rintro e w1 ⟨rfl, hb⟩
  replace HJ := Lib.hid (two_boxes HJ.out hb)
  clear hb hpr
  obtain ⟨m0, m1, m2, m3, m4, m5, m6, m7⟩ := HJ.out.1.eight; obtain ⟨c0, c1, c2⟩ := HJ.out.2.1.three; have hz0 := HJ.out.1.lt; have hz1 := HJ.out.2.1.lt
  go_wp2_with fail
  refine (begun_any _).mono ?_
  rintro e w2 ⟨rfl, hb⟩
  clear m0 m1 m2 m3 m4 m5 m6 m7 c0 c1 c2 hz0 hz1
  replace HJ := Lib.hid (two_boxes HJ.out hb)
  clear hb
  obtain ⟨m0, m1, m2, m3, m4, m5, m6, m7⟩ := HJ.out.1.eight; obtain ⟨c0, c1, c2⟩ := HJ.out.2.1.three; have hz0 := HJ.out.1.lt; have hz1 := HJ.out.2.1.lt
  by_cases he : em = 0
  rotate_left
  · have hne : (em != 0) = true := by simpa using he
    clear he
    go_wp2_with fail
    refine (begun_any _).mono ?_
    rintro e w3 ⟨rfl, hb⟩
    go_wp2
    go_ret
    exact ⟨rfl, bt HJ.out.2.2 hb⟩
  subst he
  have hM := HOM.out rfl
  have hk := okM_bd hM
  simp only at hk
  obtain ⟨⟨n0, n1⟩, ⟨dr0, dr1⟩, ⟨de0, de1⟩, ⟨wi0, wi1⟩, ⟨ga0, ga1⟩, ⟨so0, so1⟩, hwn, hgp, hsp, _⟩ := hk
  have hma0 := airTo_bd ⟨nodes, slot, gap, win, drift, delay, ⟨ca, cc, cl⟩, ma, mc, ml⟩ ml.length
  rw [show airTo _ ml.length = maxAir ⟨nodes, slot, gap, win, drift, delay, ⟨ca, cc, cl⟩, ma, mc, ml⟩ from rfl] at hma0
  have hfar : far = 14 * nodes * drift + 8 := by rw [HPV.out, if_pos rfl]
  clear hM HPV HOM
  have hfb : 8 ≤ far ∧ far ≤ win ∧ far ≤ 7176 := by
    have hnd := nd_bd n0 n1 dr0 dr1
    have e1 : 14 * nodes * drift = 14 * (nodes * drift) := Int.mul_assoc _ _ _
    have e2 : 16 * nodes * drift = 16 * (nodes * drift) := Int.mul_assoc _ _ _
    omega
  clear hfar hwn
  generalize hA : maxAir _ = A at *
  have hbig : w.heap.size + 1 < w2.heap.size := HJ.out.2.1.lt
  go_upto_region 5 with fail
  clear m0 m1 m2 m3 m4 m5 m6 m7 c0 c1 c2 hz0 hz1
  have HD0 : Hid (Blk (w2.alloc (.cells #[.int .i64 st, .int .i64 sl, .slice da dl.length dc] 28)) w2.heap.size 28 #[.int .i64 st, .int .i64 sl, .slice da dl.length dc] ∧ Blk (w2.alloc (.cells #[.int .i64 st, .int .i64 sl, .slice da dl.length dc] 28)) w.heap.size 25 #[.int .i64 nodes, .int .i64 slot, .int .i64 gap, .int .i64 win, .int .i64 drift, .int .i64 delay, .slice ca cl.length cc, .slice ma ml.length mc] ∧ Blk (w2.alloc (.cells #[.int .i64 st, .int .i64 sl, .slice da dl.length dc] 28)) (w.heap.size + 1) 28 #[.int .i64 st, .int .i64 sl, .slice da dl.length dc] ∧ Below w.heap.size w (w2.alloc (.cells #[.int .i64 st, .int .i64 sl, .slice da dl.length dc] 28))) :=
    ⟨Blk.new' rfl, HJ.out.1.alloc _, HJ.out.2.1.alloc _, HJ.out.2.2.alloc HJ.out.2.2.size _⟩
  clear HJ
  generalize w2.heap.size = b9 at *
  generalize w2.alloc (.cells #[.int .i64 st, .int .i64 sl, .slice da dl.length dc] 28) = w3 at *
  have HD1 : Hid (Blk w3.drew b9 28 #[.int .i64 st, .int .i64 sl, .slice da dl.length dc] ∧ Blk w3.drew w.heap.size 25 #[.int .i64 nodes, .int .i64 slot, .int .i64 gap, .int .i64 win, .int .i64 drift, .int .i64 delay, .slice ca cl.length cc, .slice ma ml.length mc] ∧ Blk w3.drew (w.heap.size + 1) 28 #[.int .i64 st, .int .i64 sl, .slice da dl.length dc] ∧ Below w.heap.size w w3.drew) := ⟨HD0.out.1.keep (Below.refl _ w3).drew, HD0.out.2.1.keep (Below.refl _ w3).drew, HD0.out.2.2.1.keep (Below.refl _ w3).drew, HD0.out.2.2.2.drew⟩
  clear HD0
  have H1 : w3.drew.cell? ⟨w.heap.size + 1, 0, none⟩ = some (.int .i64 st) ∧ b9 < w3.drew.heap.size := ⟨HD1.out.2.2.1.cell 0, HD1.out.1.lt⟩
  have hw1 : IntKind.i64.wrap (far + 1) = far + 1 := IntWalk.i64_in _ (by omega)
  have hne : far + 1 ≠ 0 := by omega
  have hne1 : far + 1 ≠ -1 := by omega
  refine wp_region_held_drew (S := (fun W => W.cell? ⟨w.heap.size + 1, 0, none⟩ = some (.int .i64 st) ∧ b9 < W.heap.size)) (by kernel_rfl) (by assumption) (fun hHeld => ?_)
  generalize w3.drew = Wd at *
  (refine takeW (i := 0) (v := ?_) rfl (by kernel_rfl) (by kernel_rfl) (by kernel_rfl) (fun _ _ _ h => h) (by rfl) (by assumption) ?_ ?_; rotate_left; (intro W hW; (try dsimp only at hW); go_simp; try with_reducible rfl); (try simp only [Act.put, List.setIfInBounds_toArray, List.set_cons_zero, List.set_cons_succ]))
  (refine takeW (i := 1) (v := ?_) rfl (by kernel_rfl) (by kernel_rfl) (by kernel_rfl) (fun _ _ _ h => h) (by rfl) (by assumption) ?_ ?_; rotate_left; (intro W hW; (try dsimp only at hW); go_simp; try with_reducible rfl); (try simp only [Act.put, List.setIfInBounds_toArray, List.set_cons_zero, List.set_cons_succ]))
  (refine takeW (i := 2) (v := ?_) rfl (by kernel_rfl) (by kernel_rfl) (by kernel_rfl) (fun _ _ _ h => h) (by rfl) (by assumption) ?_ ?_; rotate_left; (intro W hW; (try dsimp only at hW); go_simp; try with_reducible rfl); (try simp only [Act.put, List.setIfInBounds_toArray, List.set_cons_zero, List.set_cons_succ]))
  (refine takeW (i := 3) (v := ?_) rfl (by kernel_rfl) (by kernel_rfl) (by kernel_rfl) (fun _ _ _ h => h) (by rfl) (by assumption) ?_ ?_; rotate_left; (intro W hW; (try dsimp only at hW); go_simp; try with_reducible rfl); (try simp only [Act.put, List.setIfInBounds_toArray, List.set_cons_zero, List.set_cons_succ]))
  (refine takeW (i := 4) (v := ?_) rfl (by kernel_rfl) (by kernel_rfl) (by kernel_rfl) (fun _ _ _ h => h) (by rfl) (by assumption) ?_ ?_; rotate_left; (intro W hW; (try dsimp only at hW); go_simp; try with_reducible rfl); (try simp only [Act.put, List.setIfInBounds_toArray, List.set_cons_zero, List.set_cons_succ]))
  (refine takeW (i := 5) (v := ?_) rfl (by kernel_rfl) (by kernel_rfl) (by kernel_rfl) (fun _ _ _ h => h) (by rfl) (by assumption) ?_ ?_; rotate_left; (intro W hW; (try dsimp only at hW); go_simp; try with_reducible rfl); (try simp only [Act.put, List.setIfInBounds_toArray, List.set_cons_zero, List.set_cons_succ]))
  (refine takeW (i := 6) (v := ?_) rfl (by kernel_rfl) (by kernel_rfl) (by kernel_rfl) (fun _ _ _ h => h) (by rfl) (by assumption) ?_ ?_; rotate_left; (intro W hW; (try dsimp only at hW); go_simp; try with_reducible rfl); (try simp only [Act.put, List.setIfInBounds_toArray, List.set_cons_zero, List.set_cons_succ]))
  (refine takeW (i := 7) (v := ?_) rfl (by kernel_rfl) (by kernel_rfl) (by kernel_rfl) (fun _ _ _ h => h) (by rfl) (by assumption) ?_ ?_; rotate_left; (intro W hW; (try dsimp only at hW); go_simp; try with_reducible rfl); (try simp only [Act.put, List.setIfInBounds_toArray, List.set_cons_zero, List.set_cons_succ]))
  (refine takeC (i := 8) rfl (by kernel_rfl) (by rfl) (fun K hK => ?_); obtain ⟨d0, d1, d2⟩ := HD1.out.1.three; have f0 := HD1.out.1.frozen 0; go_simp; (have hs : (Wd.setCell ⟨b9, 0, none⟩ (.int .i64 (IntKind.i64.wrap (st + ap.tmod (far + 1))))).cell? ⟨w.heap.size + 1, 0, none⟩ = some (.int .i64 st) ∧ b9 < (Wd.setCell ⟨b9, 0, none⟩ (.int .i64 (IntKind.i64.wrap (st + ap.tmod (far + 1))))).heap.size := ⟨(HD1.out.2.2.1.far (p := ⟨b9, 0, none⟩) (by simp; omega) _).cell 0, by simpa [World.setCell] using hHeld.2⟩); refine hK.out _ _ hs (fun hHeld => ?_); clear hK K; (try simp only [Act.put, List.setIfInBounds_toArray, List.set_cons_zero, List.set_cons_succ]))
  refine wpAnyH_done (by kernel_rfl) ?_ _
  skip
  clear hw1 hne hne1 H1 d0 d1 d2 f0
  have hr : -far ≤ ap.tmod (far + 1) ∧ ap.tmod (far + 1) ≤ far := by
    have a := Int.tmod_lt_of_pos ap (b := far + 1) (by omega)
    have b := Int.lt_tmod_of_pos ap (b := far + 1) (by omega)
    omega
  have hob := wrap_bd (st + ap.tmod (far + 1))
  have HOT : Hid (0 ≤ st → st ≤ 1099494850560 → IntKind.i64.wrap (st + ap.tmod (far + 1)) = st + ap.tmod (far + 1)) := fun h1 h2 => IntWalk.i64_in _ (by omega)
  generalize ap.tmod (far + 1) = r at *
  generalize IntKind.i64.wrap (st + r) = ot at *
  have HJ : Hid (Blk (Wd.setCell ⟨b9, 0, none⟩ (.int .i64 ot)) w.heap.size 25 #[.int .i64 nodes, .int .i64 slot, .int .i64 gap, .int .i64 win, .int .i64 drift, .int .i64 delay, .slice ca cl.length cc, .slice ma ml.length mc] ∧ Blk (Wd.setCell ⟨b9, 0, none⟩ (.int .i64 ot)) (w.heap.size + 1) 28 #[.int .i64 st, .int .i64 sl, .slice da dl.length dc] ∧ Blk (Wd.setCell ⟨b9, 0, none⟩ (.int .i64 ot)) b9 28 #[.int .i64 ot, .int .i64 sl, .slice da dl.length dc] ∧ Below w.heap.size w (Wd.setCell ⟨b9, 0, none⟩ (.int .i64 ot))) :=
    ⟨HD1.out.2.1.far (by simp; omega) _, HD1.out.2.2.1.far (by simp; omega) _, by simpa using HD1.out.1.set 0 (.int .i64 ot), HD1.out.2.2.2.setCell (by simp; omega) _⟩
  clear HD1 hHeld
  generalize Wd.setCell ⟨b9, 0, none⟩ (.int .i64 ot) = w5 at *
  have hwi := hwi ot hob
  have hsl := hsl ot hob
  clear HEC
  have HWV : Hid (winV ⟨nodes, slot, gap, win, drift, delay, ⟨ca, cc, cl⟩, ma, mc, ml⟩ ⟨ot, sl, da, dc, dl⟩ = if errC ⟨nodes, slot, gap, win, drift, delay, ⟨ca, cc, cl⟩, ma, mc, ml⟩ ⟨ot, sl, da, dc, dl⟩ = 0 then (max (ot + gap + delay - win) 0, ot + gap + delay + win + 1) else (0, 0)) := rfl
  have HLV : Hid (slotV ⟨nodes, slot, gap, win, drift, delay, ⟨ca, cc, cl⟩, ma, mc, ml⟩ ⟨ot, sl, da, dc, dl⟩ = if errC ⟨nodes, slot, gap, win, drift, delay, ⟨ca, cc, cl⟩, ma, mc, ml⟩ ⟨ot, sl, da, dc, dl⟩ = 0 then (ot, ot + slot) else (0, 0)) := rfl
  generalize winV _ _ = wv at *
  generalize slotV _ _ = lv at *
  generalize errC _ _ = oe at *
  obtain ⟨x0, x1⟩ := wv
  obtain ⟨y0, y1⟩ := lv
  simp only at hwi hsl
  obtain ⟨m0, m1, m2, m3, m4, m5, m6, m7⟩ := HJ.out.1.eight; obtain ⟨c0, c1, c2⟩ := HJ.out.2.1.three; obtain ⟨d0, d1, d2⟩ := HJ.out.2.2.1.three; have hz0 := HJ.out.1.lt; have hz1 := HJ.out.2.1.lt; have hz2 := HJ.out.2.2.1.lt
  go_wp2_with fail
  refine (hse _ HJ.out.2.2.2).mono ?_
  rintro e w6 ⟨rfl, hb⟩
  clear m0 m1 m2 m3 m4 m5 m6 m7 c0 c1 c2 d0 d1 d2 hz0 hz1 hz2
  replace HJ := Lib.hid (three_boxes HJ.out hb)
  clear hb hse
  obtain ⟨m0, m1, m2, m3, m4, m5, m6, m7⟩ := HJ.out.1.eight; obtain ⟨c0, c1, c2⟩ := HJ.out.2.1.three; obtain ⟨d0, d1, d2⟩ := HJ.out.2.2.1.three; have hz0 := HJ.out.1.lt; have hz1 := HJ.out.2.1.lt; have hz2 := HJ.out.2.2.1.lt
  go_wp2_with fail
  refine (hwi _ HJ.out.2.2.2).mono ?_
  rintro e w7 ⟨rfl, hb⟩
  clear m0 m1 m2 m3 m4 m5 m6 m7 c0 c1 c2 d0 d1 d2 hz0 hz1 hz2
  replace HJ := Lib.hid (three_boxes HJ.out hb)
  clear hb hwi
  replace HJ := Lib.hid (three_boxes HJ.out (below1 w7 (.cells #[.int .i64 x0, .int .i64 x1] 37)))
  have HX : Hid (Blk (w7.alloc (.cells #[.int .i64 x0, .int .i64 x1] 37)) w7.heap.size 37 #[.int .i64 x0, .int .i64 x1]) := (Blk.new' rfl : Blk _ _ _ _)
  obtain ⟨m0, m1, m2, m3, m4, m5, m6, m7⟩ := HJ.out.1.eight; obtain ⟨c0, c1, c2⟩ := HJ.out.2.1.three; obtain ⟨d0, d1, d2⟩ := HJ.out.2.2.1.three; have hz0 := HJ.out.1.lt; have hz1 := HJ.out.2.1.lt; have hz2 := HJ.out.2.2.1.lt
  go_upto_region 8 with fail
  clear m0 m1 m2 m3 m4 m5 m6 m7 c0 c1 c2 d0 d1 d2 hz0 hz1 hz2
  generalize w7.heap.size = b11 at *
  generalize w7.alloc (.cells #[.int .i64 x0, .int .i64 x1] 37) = w8 at *
  obtain ⟨m0, m1, m2, m3, m4, m5, m6, m7⟩ := HJ.out.1.eight; obtain ⟨c0, c1, c2⟩ := HJ.out.2.1.three; obtain ⟨d0, d1, d2⟩ := HJ.out.2.2.1.three; have hz0 := HJ.out.1.lt; have hz1 := HJ.out.2.1.lt; have hz2 := HJ.out.2.2.1.lt
  go_wp2_with fail
  refine (hsl _ HJ.out.2.2.2).mono ?_
  rintro e w9 ⟨rfl, hb⟩
  clear m0 m1 m2 m3 m4 m5 m6 m7 c0 c1 c2 d0 d1 d2 hz0 hz1 hz2
  replace HX := Lib.hid (HX.out.keep hb)
  replace HJ := Lib.hid (three_boxes HJ.out hb)
  clear hb hsl
  replace HX := Lib.hid (HX.out.alloc (.cells #[.int .i64 y0, .int .i64 y1] 37))
  replace HJ := Lib.hid (three_boxes HJ.out (below1 w9 (.cells #[.int .i64 y0, .int .i64 y1] 37)))
  have HY : Hid (Blk (w9.alloc (.cells #[.int .i64 y0, .int .i64 y1] 37)) w9.heap.size 37 #[.int .i64 y0, .int .i64 y1]) := (Blk.new' rfl : Blk _ _ _ _)
  obtain ⟨m0, m1, m2, m3, m4, m5, m6, m7⟩ := HJ.out.1.eight; obtain ⟨c0, c1, c2⟩ := HJ.out.2.1.three; obtain ⟨d0, d1, d2⟩ := HJ.out.2.2.1.three; have hz0 := HJ.out.1.lt; have hz1 := HJ.out.2.1.lt; have hz2 := HJ.out.2.2.1.lt
  go_upto_region 9 with fail
  clear m0 m1 m2 m3 m4 m5 m6 m7 c0 c1 c2 d0 d1 d2 hz0 hz1 hz2
  generalize w9.heap.size = b13 at *
  generalize w9.alloc (.cells #[.int .i64 y0, .int .i64 y1] 37) = w10 at *
  obtain ⟨m0, m1, m2, m3, m4, m5, m6, m7⟩ := HJ.out.1.eight; obtain ⟨c0, c1, c2⟩ := HJ.out.2.1.three; obtain ⟨d0, d1, d2⟩ := HJ.out.2.2.1.three; have hz0 := HJ.out.1.lt; have hz1 := HJ.out.2.1.lt; have hz2 := HJ.out.2.2.1.lt
  by_cases hall : ec = 0 ∧ oe = 0
  rotate_left
  · by_cases h1 : ec = 0
    · have h2 : ¬ oe = 0 := fun h => hall ⟨h1, h⟩
      subst h1
      clear hall
      go_wp2
      go_ret
      exact ⟨rfl, HJ.out.2.2.2⟩
    · clear hall
      go_wp2
      go_ret
      exact ⟨rfl, HJ.out.2.2.2⟩
  obtain ⟨rfl, rfl⟩ := hall
  obtain ⟨_, s0, s1, _⟩ := HOK.out rfl
  have hot := HOT.out s0 s1
  have hsv : sv = st + gap := by rw [HSV.out, if_pos rfl]
  have hwv := HWV.out
  have hlv := HLV.out
  rw [if_pos rfl] at hwv hlv
  simp only [Prod.mk.injEq] at hwv hlv
  have hq1 : x0 ≤ st + gap + delay := by omega
  have hq2 : st + gap + delay < x1 := by omega
  have hq3 : y0 ≤ st + gap + delay := by omega
  have hq4 : st + gap + delay + A ≤ y1 := by omega
  clear hwv hlv HWV HLV HSV HOK HOT hot hgp hsp
  subst hsv
  go_upto_region 12 with fail
  have H1 : w10.drew.cell? ⟨w.heap.size, 0, none⟩ = some (.int .i64 nodes) ∧ w10.drew.cell? ⟨w.heap.size, 1, none⟩ = some (.int .i64 slot) ∧ w10.drew.cell? ⟨w.heap.size, 2, none⟩ = some (.int .i64 gap) ∧ w10.drew.cell? ⟨w.heap.size, 3, none⟩ = some (.int .i64 win) ∧ w10.drew.cell? ⟨w.heap.size, 4, none⟩ = some (.int .i64 drift) ∧ w10.drew.cell? ⟨w.heap.size, 5, none⟩ = some (.int .i64 delay) ∧ w10.drew.cell? ⟨w.heap.size, 6, none⟩ = some (.slice ca cl.length cc) ∧ w10.drew.cell? ⟨w.heap.size, 7, none⟩ = some (.slice ma ml.length mc) ∧ w10.drew.cell? ⟨b11, 0, none⟩ = some (.int .i64 x0) ∧ w10.drew.cell? ⟨b11, 1, none⟩ = some (.int .i64 x1) ∧ w10.drew.cell? ⟨b13, 0, none⟩ = some (.int .i64 y0) ∧ w10.drew.cell? ⟨b13, 1, none⟩ = some (.int .i64 y1) ∧ Below w10.heap.size w10 w10.drew := ⟨m0, m1, m2, m3, m4, m5, m6, m7, HX.out.cell 0, HX.out.cell 1, HY.out.cell 0, HY.out.cell 1, (Below.refl _ _).drew⟩
  clear m0 m1 m2 m3 m4 m5 m6 m7 c0 c1 c2 d0 d1 d2 hz0 hz1 hz2
  have hd1 : decide (x0 ≤ st + gap + delay) = true := by simpa using hq1
  have hd2 : decide (st + gap + delay < x1) = true := by simpa using hq2
  have hd3 : decide (y0 ≤ st + gap + delay) = true := by simpa using hq3
  have hd4 : decide (st + gap + delay + A ≤ y1) = true := by simpa using hq4
  have hw1 : IntKind.i64.wrap (st + gap + delay + A) = st + gap + delay + A := IntWalk.i64_in _ (by omega)
  refine wp_region_held_drew (S := (fun W => W.cell? ⟨w.heap.size, 0, none⟩ = some (.int .i64 nodes) ∧ W.cell? ⟨w.heap.size, 1, none⟩ = some (.int .i64 slot) ∧ W.cell? ⟨w.heap.size, 2, none⟩ = some (.int .i64 gap) ∧ W.cell? ⟨w.heap.size, 3, none⟩ = some (.int .i64 win) ∧ W.cell? ⟨w.heap.size, 4, none⟩ = some (.int .i64 drift) ∧ W.cell? ⟨w.heap.size, 5, none⟩ = some (.int .i64 delay) ∧ W.cell? ⟨w.heap.size, 6, none⟩ = some (.slice ca cl.length cc) ∧ W.cell? ⟨w.heap.size, 7, none⟩ = some (.slice ma ml.length mc) ∧ W.cell? ⟨b11, 0, none⟩ = some (.int .i64 x0) ∧ W.cell? ⟨b11, 1, none⟩ = some (.int .i64 x1) ∧ W.cell? ⟨b13, 0, none⟩ = some (.int .i64 y0) ∧ W.cell? ⟨b13, 1, none⟩ = some (.int .i64 y1) ∧ Below w10.heap.size w10 W)) (by kernel_rfl) (by assumption) (fun hHeld => ?_)
  generalize w10.drew = Wd2 at *
  (refine takeW (i := 0) (v := ?_) rfl (by kernel_rfl) (by kernel_rfl) (by kernel_rfl) (fun _ _ _ h => h) (by rfl) (by assumption) ?_ ?_; rotate_left; (intro W hW; (try dsimp only at hW); go_simp; try with_reducible rfl); (try simp only [Act.put, List.setIfInBounds_toArray, List.set_cons_zero, List.set_cons_succ]))
  (refine takeW (i := 1) (v := ?_) rfl (by kernel_rfl) (by kernel_rfl) (by kernel_rfl) (fun _ _ _ h => h) (by rfl) (by assumption) ?_ ?_; rotate_left; (intro W hW; (try dsimp only at hW); go_simp; try with_reducible rfl); (try simp only [Act.put, List.setIfInBounds_toArray, List.set_cons_zero, List.set_cons_succ]))
  (refine takeW (i := 2) (v := ?_) rfl (by kernel_rfl) (by kernel_rfl) (by kernel_rfl) (fun _ _ _ h => h) (by rfl) (by assumption) ?_ ?_; rotate_left; (intro W hW; (try dsimp only at hW); go_simp; try with_reducible rfl); (try simp only [Act.put, List.setIfInBounds_toArray, List.set_cons_zero, List.set_cons_succ]))
  (refine takeW (i := 3) (v := ?_) rfl (by kernel_rfl) (by kernel_rfl) (by kernel_rfl) (fun _ _ _ h => h) (by rfl) (by assumption) ?_ ?_; rotate_left; (intro W hW; (try dsimp only at hW); go_simp; try with_reducible rfl); (try simp only [Act.put, List.setIfInBounds_toArray, List.set_cons_zero, List.set_cons_succ]))
  (refine takeW (i := 4) (v := ?_) rfl (by kernel_rfl) (by kernel_rfl) (by kernel_rfl) (fun _ _ _ h => h) (by rfl) (by assumption) ?_ ?_; rotate_left; (intro W hW; (try dsimp only at hW); go_simp; try with_reducible rfl); (try simp only [Act.put, List.setIfInBounds_toArray, List.set_cons_zero, List.set_cons_succ]))
  first
    | (refine takeW (i := 5) (v := ?_) rfl (by kernel_rfl) (by kernel_rfl) (by kernel_rfl) (fun _ _ _ h => h) (by rfl) (by assumption) ?_ ?_; rotate_left; (intro W hW; (try dsimp only at hW); go_simp; try with_reducible rfl); (try simp only [Act.put, List.setIfInBounds_toArray, List.set_cons_zero, List.set_cons_succ]))
    | (refine takeU (i := 5) rfl (by kernel_rfl) (by kernel_rfl) (by kernel_rfl) (fun _ _ _ h => h) (by rfl) (by assumption) ?_; (try simp only [Act.put, List.setIfInBounds_toArray, List.set_cons_zero, List.set_cons_succ]))
  first
    | (refine takeW (i := 6) (v := ?_) rfl (by kernel_rfl) (by kernel_rfl) (by kernel_rfl) (fun _ _ _ h => h) (by rfl) (by assumption) ?_ ?_; rotate_left; (intro W hW; (try dsimp only at hW); go_simp; try with_reducible rfl); (try simp only [Act.put, List.setIfInBounds_toArray, List.set_cons_zero, List.set_cons_succ]))
    | (refine takeU (i := 6) rfl (by kernel_rfl) (by kernel_rfl) (by kernel_rfl) (fun _ _ _ h => h) (by rfl) (by assumption) ?_; (try simp only [Act.put, List.setIfInBounds_toArray, List.set_cons_zero, List.set_cons_succ]))
  first
    | (refine takeW (i := 7) (v := ?_) rfl (by kernel_rfl) (by kernel_rfl) (by kernel_rfl) (fun _ _ _ h => h) (by rfl) (by assumption) ?_ ?_; rotate_left; (intro W hW; (try dsimp only at hW); go_simp; try with_reducible rfl); (try simp only [Act.put, List.setIfInBounds_toArray, List.set_cons_zero, List.set_cons_succ]))
    | (refine takeU (i := 7) rfl (by kernel_rfl) (by kernel_rfl) (by kernel_rfl) (fun _ _ _ h => h) (by rfl) (by assumption) ?_; (try simp only [Act.put, List.setIfInBounds_toArray, List.set_cons_zero, List.set_cons_succ]))
  first
    | (refine takeW (i := 8) (v := ?_) rfl (by kernel_rfl) (by kernel_rfl) (by kernel_rfl) (fun _ _ _ h => h) (by rfl) (by assumption) ?_ ?_; rotate_left; (intro W hW; (try dsimp only at hW); go_simp; try with_reducible rfl); (try simp only [Act.put, List.setIfInBounds_toArray, List.set_cons_zero, List.set_cons_succ]))
    | (refine takeU (i := 8) rfl (by kernel_rfl) (by kernel_rfl) (by kernel_rfl) (fun _ _ _ h => h) (by rfl) (by assumption) ?_; (try simp only [Act.put, List.setIfInBounds_toArray, List.set_cons_zero, List.set_cons_succ]))
  (refine takeW (i := 9) (v := ?_) rfl (by kernel_rfl) (by kernel_rfl) (by kernel_rfl) (fun _ _ _ h => h) (by rfl) (by assumption) ?_ ?_; rotate_left; (intro W hW; (try dsimp only at hW); go_simp; try with_reducible rfl); (try simp only [Act.put, List.setIfInBounds_toArray, List.set_cons_zero, List.set_cons_succ]))
  (refine takeW (i := 10) (v := ?_) rfl (by kernel_rfl) (by kernel_rfl) (by kernel_rfl) (fun _ _ _ h => h) (by rfl) (by assumption) ?_ ?_; rotate_left; (intro W hW; (try dsimp only at hW); go_simp; try with_reducible rfl); (try simp only [Act.put, List.setIfInBounds_toArray, List.set_cons_zero, List.set_cons_succ]))
  first
    | (refine takeW (i := 11) (v := ?_) rfl (by kernel_rfl) (by kernel_rfl) (by kernel_rfl) (fun _ _ _ h => h) (by rfl) (by assumption) ?_ ?_; rotate_left; (intro W hW; (try dsimp only at hW); go_simp; try with_reducible rfl); (try simp only [Act.put, List.setIfInBounds_toArray, List.set_cons_zero, List.set_cons_succ]))
    | (refine takeU (i := 11) rfl (by kernel_rfl) (by kernel_rfl) (by kernel_rfl) (fun _ _ _ h => h) (by rfl) (by assumption) ?_; (try simp only [Act.put, List.setIfInBounds_toArray, List.set_cons_zero, List.set_cons_succ]))
  first
    | (refine takeW (i := 12) (v := ?_) rfl (by kernel_rfl) (by kernel_rfl) (by kernel_rfl) (fun _ _ _ h => h) (by rfl) (by assumption) ?_ ?_; rotate_left; (intro W hW; (try dsimp only at hW); go_simp; try with_reducible rfl); (try simp only [Act.put, List.setIfInBounds_toArray, List.set_cons_zero, List.set_cons_succ]))
    | (refine takeU (i := 12) rfl (by kernel_rfl) (by kernel_rfl) (by kernel_rfl) (fun _ _ _ h => h) (by rfl) (by assumption) ?_; (try simp only [Act.put, List.setIfInBounds_toArray, List.set_cons_zero, List.set_cons_succ]))
  first
    | (refine takeW (i := 13) (v := ?_) rfl (by kernel_rfl) (by kernel_rfl) (by kernel_rfl) (fun _ _ _ h => h) (by rfl) (by assumption) ?_ ?_; rotate_left; (intro W hW; (try dsimp only at hW); go_simp; try with_reducible rfl); (try simp only [Act.put, List.setIfInBounds_toArray, List.set_cons_zero, List.set_cons_succ]))
    | (refine takeU (i := 13) rfl (by kernel_rfl) (by kernel_rfl) (by kernel_rfl) (fun _ _ _ h => h) (by rfl) (by assumption) ?_; (try simp only [Act.put, List.setIfInBounds_toArray, List.set_cons_zero, List.set_cons_succ]))
  first
    | (refine takeW (i := 14) (v := ?_) rfl (by kernel_rfl) (by kernel_rfl) (by kernel_rfl) (fun _ _ _ h => h) (by rfl) (by assumption) ?_ ?_; rotate_left; (intro W hW; (try dsimp only at hW); go_simp; try with_reducible rfl); (try simp only [Act.put, List.setIfInBounds_toArray, List.set_cons_zero, List.set_cons_succ]))
    | (refine takeU (i := 14) rfl (by kernel_rfl) (by kernel_rfl) (by kernel_rfl) (fun _ _ _ h => h) (by rfl) (by assumption) ?_; (try simp only [Act.put, List.setIfInBounds_toArray, List.set_cons_zero, List.set_cons_succ]))
  (refine takeW (i := 15) (v := ?_) rfl (by kernel_rfl) (by kernel_rfl) (by kernel_rfl) (fun _ _ _ h => h) (by rfl) (by assumption) ?_ ?_; rotate_left; (intro W hW; (try dsimp only at hW); go_simp; try with_reducible rfl); (try simp only [Act.put, List.setIfInBounds_toArray, List.set_cons_zero, List.set_cons_succ]))
  (refine takeW (i := 16) (v := ?_) rfl (by kernel_rfl) (by kernel_rfl) (by kernel_rfl) (fun _ _ _ h => h) (by rfl) (by assumption) ?_ ?_; rotate_left; (intro W hW; (try dsimp only at hW); go_simp; try with_reducible rfl); (try simp only [Act.put, List.setIfInBounds_toArray, List.set_cons_zero, List.set_cons_succ]))
  first
    | (refine takeW (i := 17) (v := ?_) rfl (by kernel_rfl) (by kernel_rfl) (by kernel_rfl) (fun _ _ _ h => h) (by rfl) (by assumption) ?_ ?_; rotate_left; (intro W hW; (try dsimp only at hW); go_simp; try with_reducible rfl); (try simp only [Act.put, List.setIfInBounds_toArray, List.set_cons_zero, List.set_cons_succ]))
    | (refine takeU (i := 17) rfl (by kernel_rfl) (by kernel_rfl) (by kernel_rfl) (fun _ _ _ h => h) (by rfl) (by assumption) ?_; (try simp only [Act.put, List.setIfInBounds_toArray, List.set_cons_zero, List.set_cons_succ]))
  first
    | (refine takeW (i := 18) (v := ?_) rfl (by kernel_rfl) (by kernel_rfl) (by kernel_rfl) (fun _ _ _ h => h) (by rfl) (by assumption) ?_ ?_; rotate_left; (intro W hW; (try dsimp only at hW); go_simp; try with_reducible rfl); (try simp only [Act.put, List.setIfInBounds_toArray, List.set_cons_zero, List.set_cons_succ]))
    | (refine takeU (i := 18) rfl (by kernel_rfl) (by kernel_rfl) (by kernel_rfl) (fun _ _ _ h => h) (by rfl) (by assumption) ?_; (try simp only [Act.put, List.setIfInBounds_toArray, List.set_cons_zero, List.set_cons_succ]))
  first
    | (refine takeW (i := 21) (v := ?_) rfl (by kernel_rfl) (by kernel_rfl) (by kernel_rfl) (fun _ _ _ h => h) (by rfl) (by assumption) ?_ ?_; rotate_left; (intro W hW; (try dsimp only at hW); go_simp; try with_reducible rfl); (try simp only [Act.put, List.setIfInBounds_toArray, List.set_cons_zero, List.set_cons_succ]))
    | (refine takeU (i := 21) rfl (by kernel_rfl) (by kernel_rfl) (by kernel_rfl) (fun _ _ _ h => h) (by rfl) (by assumption) ?_; (try simp only [Act.put, List.setIfInBounds_toArray, List.set_cons_zero, List.set_cons_succ]))
  first
    | (refine takeW (i := 22) (v := ?_) rfl (by kernel_rfl) (by kernel_rfl) (by kernel_rfl) (fun _ _ _ h => h) (by rfl) (by assumption) ?_ ?_; rotate_left; (intro W hW; (try dsimp only at hW); go_simp; try with_reducible rfl); (try simp only [Act.put, List.setIfInBounds_toArray, List.set_cons_zero, List.set_cons_succ]))
    | (refine takeU (i := 22) rfl (by kernel_rfl) (by kernel_rfl) (by kernel_rfl) (fun _ _ _ h => h) (by rfl) (by assumption) ?_; (try simp only [Act.put, List.setIfInBounds_toArray, List.set_cons_zero, List.set_cons_succ]))
  first
    | (refine takeU (i := 19) rfl (by kernel_rfl) (by kernel_rfl) (by kernel_rfl) (fun _ _ _ h => h) (by rfl) (by assumption) ?_; (try simp only [Act.put, List.setIfInBounds_toArray, List.set_cons_zero, List.set_cons_succ]))
    | (refine takeC (i := 19) rfl (by kernel_rfl) (by rfl) (fun K hK => ?_); go_simp; (refine (hma _ (HJ.out.2.2.2.trans (hHeld.2.2.2.2.2.2.2.2.2.2.2.2.mono HJ.out.2.2.2.size))).mono ?_; rintro e W19 ⟨rfl, hb⟩; have hs : W19.cell? ⟨w.heap.size, 0, none⟩ = some (.int .i64 nodes) ∧ W19.cell? ⟨w.heap.size, 1, none⟩ = some (.int .i64 slot) ∧ W19.cell? ⟨w.heap.size, 2, none⟩ = some (.int .i64 gap) ∧ W19.cell? ⟨w.heap.size, 3, none⟩ = some (.int .i64 win) ∧ W19.cell? ⟨w.heap.size, 4, none⟩ = some (.int .i64 drift) ∧ W19.cell? ⟨w.heap.size, 5, none⟩ = some (.int .i64 delay) ∧ W19.cell? ⟨w.heap.size, 6, none⟩ = some (.slice ca cl.length cc) ∧ W19.cell? ⟨w.heap.size, 7, none⟩ = some (.slice ma ml.length mc) ∧ W19.cell? ⟨b11, 0, none⟩ = some (.int .i64 x0) ∧ W19.cell? ⟨b11, 1, none⟩ = some (.int .i64 x1) ∧ W19.cell? ⟨b13, 0, none⟩ = some (.int .i64 y0) ∧ W19.cell? ⟨b13, 1, none⟩ = some (.int .i64 y1) ∧ Below w10.heap.size w10 W19 := ⟨keepCell hb hHeld.1, keepCell hb hHeld.2.1, keepCell hb hHeld.2.2.1, keepCell hb hHeld.2.2.2.1, keepCell hb hHeld.2.2.2.2.1, keepCell hb hHeld.2.2.2.2.2.1, keepCell hb hHeld.2.2.2.2.2.2.1, keepCell hb hHeld.2.2.2.2.2.2.2.1, keepCell hb hHeld.2.2.2.2.2.2.2.2.1, keepCell hb hHeld.2.2.2.2.2.2.2.2.2.1, keepCell hb hHeld.2.2.2.2.2.2.2.2.2.2.1, keepCell hb hHeld.2.2.2.2.2.2.2.2.2.2.2.1, hHeld.2.2.2.2.2.2.2.2.2.2.2.2.trans (hb.mono hHeld.2.2.2.2.2.2.2.2.2.2.2.2.size)⟩; clear hb); refine hK.out _ _ hs (fun hHeld => ?_); clear hK K; (try simp only [Act.put, List.setIfInBounds_toArray, List.set_cons_zero, List.set_cons_succ]))
  first
    | (refine takeW (i := 20) (v := ?_) rfl (by kernel_rfl) (by kernel_rfl) (by kernel_rfl) (fun _ _ _ h => h) (by rfl) (by assumption) ?_ ?_; rotate_left; (intro W hW; (try dsimp only at hW); go_simp; try with_reducible rfl); (try simp only [Act.put, List.setIfInBounds_toArray, List.set_cons_zero, List.set_cons_succ]))
    | (refine takeU (i := 20) rfl (by kernel_rfl) (by kernel_rfl) (by kernel_rfl) (fun _ _ _ h => h) (by rfl) (by assumption) ?_; (try simp only [Act.put, List.setIfInBounds_toArray, List.set_cons_zero, List.set_cons_succ]))
  first
    | (refine takeW (i := 23) (v := ?_) rfl (by kernel_rfl) (by kernel_rfl) (by kernel_rfl) (fun _ _ _ h => h) (by rfl) (by assumption) ?_ ?_; rotate_left; (intro W hW; (try dsimp only at hW); go_simp; try with_reducible rfl); (try simp only [Act.put, List.setIfInBounds_toArray, List.set_cons_zero, List.set_cons_succ]))
    | (refine takeU (i := 23) rfl (by kernel_rfl) (by kernel_rfl) (by kernel_rfl) (fun _ _ _ h => h) (by rfl) (by assumption) ?_; (try simp only [Act.put, List.setIfInBounds_toArray, List.set_cons_zero, List.set_cons_succ]))
  (refine takeW (i := 24) (v := ?_) rfl (by kernel_rfl) (by kernel_rfl) (by kernel_rfl) (fun _ _ _ h => h) (by rfl) (by assumption) ?_ ?_; rotate_left; (intro W hW; (try dsimp only at hW); go_simp; try with_reducible rfl); (try simp only [Act.put, List.setIfInBounds_toArray, List.set_cons_zero, List.set_cons_succ]))
  (refine takeW (i := 25) (v := ?_) rfl (by kernel_rfl) (by kernel_rfl) (by kernel_rfl) (fun _ _ _ h => h) (by rfl) (by assumption) ?_ ?_; rotate_left; (intro W hW; (try dsimp only at hW); go_simp; try with_reducible rfl); (try simp only [Act.put, List.setIfInBounds_toArray, List.set_cons_zero, List.set_cons_succ]))
  refine wpAnyH_done (by kernel_rfl) ?_ _
  skip
  go_wp2
  go_ret
  exact ⟨rfl, HJ.out.2.2.2.trans (hHeld.2.2.2.2.2.2.2.2.2.2.2.2.mono HJ.out.2.2.2.size)⟩
end Go.Proofs.Ytimcljlbjnhpnaa
