/- ClockApart: the walk. -/
import Derived.Test.YtimcljlbjnhpnaaC4
import Derived.Test.YtimcljlbjnhpnaaBx
namespace Go.Proofs.Ytimcljlbjnhpnaa
open Go.RowKit Go.Shelf
open Md

theorem next_ok {m : Me} {c : Ck} {p : Int} (h : (nextV m c p).2 = 0) : okM m = true ∧ (corV m c).2 = 0 ∧ -m.drift ≤ p ∧ p ≤ m.drift ∧ (nextV m c p).1 = nxV m c p := by
  unfold nextV at h ⊢
  by_cases h1 : (corV m c).2 = 0
  · rw [if_pos h1] at h ⊢
    by_cases h2 : p < -m.drift ∨ m.drift < p
    · rw [if_pos h2] at h; simp at h
    · rw [if_neg h2] at h ⊢
      refine ⟨(cor_bd h1).1, h1, by omega, by omega, ?_⟩
      by_cases h3 : okR m.win (nxV m c p) = true
      · rw [if_pos h3]
      · rw [if_neg h3] at h; simp at h
  · rw [if_neg h1] at h; exact absurd h h1

set_option maxRecDepth 100000 in
set_option maxHeartbeats 1600000 in
theorem apart_walk (m : Me) (a b : Ck) (p q : Int) (w : World) (h : GoodMe w m) (ha : GoodCk w a) (hb : GoodCk w b) (hp : I64 p) (hq : I64 q) :
    Calls Try.prog 5 #[mev m, clv a, clv b, .int .i64 p, .int .i64 q] w fun e w' => e = .returned (.bool true) ∧ Below w.heap.size w w' := by
  have hnx : ∀ W, Below w.heap.size w W → _ := fun W hW => next_any m a p W (h.below hW) (ha.below hW) hp
  have hny : ∀ W, Below w.heap.size w W → _ := fun W hW => next_any m ⟨b.st, a.sl, b.da, b.dc, b.dl⟩ q W (h.below hW) ⟨hb.1.below hW, hb.2.1, ha.2.2⟩ hq
  have HX := Lib.hid (@next_ok m a p)
  have HY := Lib.hid (@next_ok m ⟨b.st, a.sl, b.da, b.dc, b.dl⟩ q)
  have HXV : Hid (∀ h : ¬ (a.sl + 1).tmod m.nodes = 0, nxV m a p = (a.st + (m.slot + p), a.sl + 1, a.dl)) := fun h => if_neg h
  have HYV : Hid (∀ h : ¬ (a.sl + 1).tmod m.nodes = 0, nxV m ⟨b.st, a.sl, b.da, b.dc, b.dl⟩ q = (b.st + (m.slot + q), a.sl + 1, b.dl)) := fun h => if_neg h
  have HXS : Hid ((nxV m a p).2.1 = a.sl + 1) := by show _ = _; unfold nxV; split <;> rfl
  have HA := Lib.hid (@cor_bd m a)
  have HB := Lib.hid (@cor_bd m ⟨b.st, a.sl, b.da, b.dc, b.dl⟩)
  generalize nextV m a p = x at *
  generalize nextV m ⟨b.st, a.sl, b.da, b.dc, b.dl⟩ q = y at *
  generalize nxV m a p = nx at *
  generalize nxV m ⟨b.st, a.sl, b.da, b.dc, b.dl⟩ q = ny at *
  generalize corV m a = kx at *
  generalize corV m ⟨b.st, a.sl, b.da, b.dc, b.dl⟩ = ky at *
  obtain ⟨nodes, slot, gap, win, drift, delay, ⟨ca, cc, cl⟩, ma, mc, ml⟩ := m
  obtain ⟨st, sl, da, dc, dl⟩ := a
  obtain ⟨bst, bsl, bda, bdc, bdl⟩ := b
  obtain ⟨⟨x0, x1, xl⟩, xe⟩ := x
  obtain ⟨⟨y0, y1, yl⟩, ye⟩ := y
  unfold mev clv at *
  simp only at *
  clear h ha hb hp hq
  have HJ : Hid (Bx w (((w.alloc (.cells #[.int .i64 nodes, .int .i64 slot, .int .i64 gap, .int .i64 win, .int .i64 drift, .int .i64 delay, .slice ca cl.length cc, .slice ma ml.length mc] 25)).alloc (.cells #[.int .i64 st, .int .i64 sl, .slice da dl.length dc] 28)).alloc (.cells #[.int .i64 bst, .int .i64 sl, .slice bda bdl.length bdc] 28)) [(w.heap.size, 25, #[.int .i64 nodes, .int .i64 slot, .int .i64 gap, .int .i64 win, .int .i64 drift, .int .i64 delay, .slice ca cl.length cc, .slice ma ml.length mc]), (w.heap.size + 1, 28, #[.int .i64 st, .int .i64 sl, .slice da dl.length dc]), (w.heap.size + 1 + 1, 28, #[.int .i64 bst, .int .i64 sl, .slice bda bdl.length bdc])]) := ((((Bx.nil w).new (b := w.heap.size) #[.int .i64 nodes, .int .i64 slot, .int .i64 gap, .int .i64 win, .int .i64 drift, .int .i64 delay, .slice ca cl.length cc, .slice ma ml.length mc] 25 (by simp)).new (b := w.heap.size + 1) #[.int .i64 st, .int .i64 sl, .slice da dl.length dc] 28 (by simp)).new (b := w.heap.size + 1 + 1) #[.int .i64 bst, .int .i64 sl, .slice bda bdl.length bdc] 28 (by simp))
  go_enter Try.func5, Try.ntmps5
  have cm_0 : (((w.alloc (.cells #[.int .i64 nodes, .int .i64 slot, .int .i64 gap, .int .i64 win, .int .i64 drift, .int .i64 delay, .slice ca cl.length cc, .slice ma ml.length mc] 25)).alloc (.cells #[.int .i64 st, .int .i64 sl, .slice da dl.length dc] 28)).alloc (.cells #[.int .i64 bst, .int .i64 sl, .slice bda bdl.length bdc] 28)).cell? ⟨w.heap.size, 0, none⟩ = some (.int .i64 nodes) := HJ.out.at 0 0 rfl rfl; have cm_1 : (((w.alloc (.cells #[.int .i64 nodes, .int .i64 slot, .int .i64 gap, .int .i64 win, .int .i64 drift, .int .i64 delay, .slice ca cl.length cc, .slice ma ml.length mc] 25)).alloc (.cells #[.int .i64 st, .int .i64 sl, .slice da dl.length dc] 28)).alloc (.cells #[.int .i64 bst, .int .i64 sl, .slice bda bdl.length bdc] 28)).cell? ⟨w.heap.size, 1, none⟩ = some (.int .i64 slot) := HJ.out.at 0 1 rfl rfl; have cm_2 : (((w.alloc (.cells #[.int .i64 nodes, .int .i64 slot, .int .i64 gap, .int .i64 win, .int .i64 drift, .int .i64 delay, .slice ca cl.length cc, .slice ma ml.length mc] 25)).alloc (.cells #[.int .i64 st, .int .i64 sl, .slice da dl.length dc] 28)).alloc (.cells #[.int .i64 bst, .int .i64 sl, .slice bda bdl.length bdc] 28)).cell? ⟨w.heap.size, 2, none⟩ = some (.int .i64 gap) := HJ.out.at 0 2 rfl rfl; have cm_3 : (((w.alloc (.cells #[.int .i64 nodes, .int .i64 slot, .int .i64 gap, .int .i64 win, .int .i64 drift, .int .i64 delay, .slice ca cl.length cc, .slice ma ml.length mc] 25)).alloc (.cells #[.int .i64 st, .int .i64 sl, .slice da dl.length dc] 28)).alloc (.cells #[.int .i64 bst, .int .i64 sl, .slice bda bdl.length bdc] 28)).cell? ⟨w.heap.size, 3, none⟩ = some (.int .i64 win) := HJ.out.at 0 3 rfl rfl; have cm_4 : (((w.alloc (.cells #[.int .i64 nodes, .int .i64 slot, .int .i64 gap, .int .i64 win, .int .i64 drift, .int .i64 delay, .slice ca cl.length cc, .slice ma ml.length mc] 25)).alloc (.cells #[.int .i64 st, .int .i64 sl, .slice da dl.length dc] 28)).alloc (.cells #[.int .i64 bst, .int .i64 sl, .slice bda bdl.length bdc] 28)).cell? ⟨w.heap.size, 4, none⟩ = some (.int .i64 drift) := HJ.out.at 0 4 rfl rfl; have cm_5 : (((w.alloc (.cells #[.int .i64 nodes, .int .i64 slot, .int .i64 gap, .int .i64 win, .int .i64 drift, .int .i64 delay, .slice ca cl.length cc, .slice ma ml.length mc] 25)).alloc (.cells #[.int .i64 st, .int .i64 sl, .slice da dl.length dc] 28)).alloc (.cells #[.int .i64 bst, .int .i64 sl, .slice bda bdl.length bdc] 28)).cell? ⟨w.heap.size, 5, none⟩ = some (.int .i64 delay) := HJ.out.at 0 5 rfl rfl; have cm_6 : (((w.alloc (.cells #[.int .i64 nodes, .int .i64 slot, .int .i64 gap, .int .i64 win, .int .i64 drift, .int .i64 delay, .slice ca cl.length cc, .slice ma ml.length mc] 25)).alloc (.cells #[.int .i64 st, .int .i64 sl, .slice da dl.length dc] 28)).alloc (.cells #[.int .i64 bst, .int .i64 sl, .slice bda bdl.length bdc] 28)).cell? ⟨w.heap.size, 6, none⟩ = some (.slice ca cl.length cc) := HJ.out.at 0 6 rfl rfl; have cm_7 : (((w.alloc (.cells #[.int .i64 nodes, .int .i64 slot, .int .i64 gap, .int .i64 win, .int .i64 drift, .int .i64 delay, .slice ca cl.length cc, .slice ma ml.length mc] 25)).alloc (.cells #[.int .i64 st, .int .i64 sl, .slice da dl.length dc] 28)).alloc (.cells #[.int .i64 bst, .int .i64 sl, .slice bda bdl.length bdc] 28)).cell? ⟨w.heap.size, 7, none⟩ = some (.slice ma ml.length mc) := HJ.out.at 0 7 rfl rfl; have ca_0 : (((w.alloc (.cells #[.int .i64 nodes, .int .i64 slot, .int .i64 gap, .int .i64 win, .int .i64 drift, .int .i64 delay, .slice ca cl.length cc, .slice ma ml.length mc] 25)).alloc (.cells #[.int .i64 st, .int .i64 sl, .slice da dl.length dc] 28)).alloc (.cells #[.int .i64 bst, .int .i64 sl, .slice bda bdl.length bdc] 28)).cell? ⟨w.heap.size + 1, 0, none⟩ = some (.int .i64 st) := HJ.out.at 1 0 rfl rfl; have ca_1 : (((w.alloc (.cells #[.int .i64 nodes, .int .i64 slot, .int .i64 gap, .int .i64 win, .int .i64 drift, .int .i64 delay, .slice ca cl.length cc, .slice ma ml.length mc] 25)).alloc (.cells #[.int .i64 st, .int .i64 sl, .slice da dl.length dc] 28)).alloc (.cells #[.int .i64 bst, .int .i64 sl, .slice bda bdl.length bdc] 28)).cell? ⟨w.heap.size + 1, 1, none⟩ = some (.int .i64 sl) := HJ.out.at 1 1 rfl rfl; have ca_2 : (((w.alloc (.cells #[.int .i64 nodes, .int .i64 slot, .int .i64 gap, .int .i64 win, .int .i64 drift, .int .i64 delay, .slice ca cl.length cc, .slice ma ml.length mc] 25)).alloc (.cells #[.int .i64 st, .int .i64 sl, .slice da dl.length dc] 28)).alloc (.cells #[.int .i64 bst, .int .i64 sl, .slice bda bdl.length bdc] 28)).cell? ⟨w.heap.size + 1, 2, none⟩ = some (.slice da dl.length dc) := HJ.out.at 1 2 rfl rfl; have cb_0 : (((w.alloc (.cells #[.int .i64 nodes, .int .i64 slot, .int .i64 gap, .int .i64 win, .int .i64 drift, .int .i64 delay, .slice ca cl.length cc, .slice ma ml.length mc] 25)).alloc (.cells #[.int .i64 st, .int .i64 sl, .slice da dl.length dc] 28)).alloc (.cells #[.int .i64 bst, .int .i64 sl, .slice bda bdl.length bdc] 28)).cell? ⟨w.heap.size + 1 + 1, 0, none⟩ = some (.int .i64 bst) := HJ.out.at 2 0 rfl rfl; have cb_1 : (((w.alloc (.cells #[.int .i64 nodes, .int .i64 slot, .int .i64 gap, .int .i64 win, .int .i64 drift, .int .i64 delay, .slice ca cl.length cc, .slice ma ml.length mc] 25)).alloc (.cells #[.int .i64 st, .int .i64 sl, .slice da dl.length dc] 28)).alloc (.cells #[.int .i64 bst, .int .i64 sl, .slice bda bdl.length bdc] 28)).cell? ⟨w.heap.size + 1 + 1, 1, none⟩ = some (.int .i64 sl) := HJ.out.at 2 1 rfl rfl; have cb_2 : (((w.alloc (.cells #[.int .i64 nodes, .int .i64 slot, .int .i64 gap, .int .i64 win, .int .i64 drift, .int .i64 delay, .slice ca cl.length cc, .slice ma ml.length mc] 25)).alloc (.cells #[.int .i64 st, .int .i64 sl, .slice da dl.length dc] 28)).alloc (.cells #[.int .i64 bst, .int .i64 sl, .slice bda bdl.length bdc] 28)).cell? ⟨w.heap.size + 1 + 1, 2, none⟩ = some (.slice bda bdl.length bdc) := HJ.out.at 2 2 rfl rfl; have zm : w.heap.size < (((w.alloc (.cells #[.int .i64 nodes, .int .i64 slot, .int .i64 gap, .int .i64 win, .int .i64 drift, .int .i64 delay, .slice ca cl.length cc, .slice ma ml.length mc] 25)).alloc (.cells #[.int .i64 st, .int .i64 sl, .slice da dl.length dc] 28)).alloc (.cells #[.int .i64 bst, .int .i64 sl, .slice bda bdl.length bdc] 28)).heap.size := HJ.out.lt 0 rfl; have za : w.heap.size + 1 < (((w.alloc (.cells #[.int .i64 nodes, .int .i64 slot, .int .i64 gap, .int .i64 win, .int .i64 drift, .int .i64 delay, .slice ca cl.length cc, .slice ma ml.length mc] 25)).alloc (.cells #[.int .i64 st, .int .i64 sl, .slice da dl.length dc] 28)).alloc (.cells #[.int .i64 bst, .int .i64 sl, .slice bda bdl.length bdc] 28)).heap.size := HJ.out.lt 1 rfl; have zb : w.heap.size + 1 + 1 < (((w.alloc (.cells #[.int .i64 nodes, .int .i64 slot, .int .i64 gap, .int .i64 win, .int .i64 drift, .int .i64 delay, .slice ca cl.length cc, .slice ma ml.length mc] 25)).alloc (.cells #[.int .i64 st, .int .i64 sl, .slice da dl.length dc] 28)).alloc (.cells #[.int .i64 bst, .int .i64 sl, .slice bda bdl.length bdc] 28)).heap.size := HJ.out.lt 2 rfl
  go_wp2_with fail
  refine (hnx (((w.alloc (.cells #[.int .i64 nodes, .int .i64 slot, .int .i64 gap, .int .i64 win, .int .i64 drift, .int .i64 delay, .slice ca cl.length cc, .slice ma ml.length mc] 25)).alloc (.cells #[.int .i64 st, .int .i64 sl, .slice da dl.length dc] 28)).alloc (.cells #[.int .i64 bst, .int .i64 sl, .slice bda bdl.length bdc] 28)) HJ.out.2).mono ?_
  rintro e w1 ⟨⟨⟨u0, u1, ua, uc, ul⟩, rfl, hcu, hu0, hu1, hu2, _⟩, hb⟩
  clear cm_0 cm_1 cm_2 cm_3 cm_4 cm_5 cm_6 cm_7 ca_0 ca_1 ca_2 cb_0 cb_1 cb_2 zm za zb
  replace HJ := Lib.hid (HJ.out.keep hb)
  simp only at hu0 hu1 hu2
  subst hu0 hu1 hu2
  clear hcu hnx
  unfold clv
  clear hb
  have cm_0 : w1.cell? ⟨w.heap.size, 0, none⟩ = some (.int .i64 nodes) := HJ.out.at 0 0 rfl rfl; have cm_1 : w1.cell? ⟨w.heap.size, 1, none⟩ = some (.int .i64 slot) := HJ.out.at 0 1 rfl rfl; have cm_2 : w1.cell? ⟨w.heap.size, 2, none⟩ = some (.int .i64 gap) := HJ.out.at 0 2 rfl rfl; have cm_3 : w1.cell? ⟨w.heap.size, 3, none⟩ = some (.int .i64 win) := HJ.out.at 0 3 rfl rfl; have cm_4 : w1.cell? ⟨w.heap.size, 4, none⟩ = some (.int .i64 drift) := HJ.out.at 0 4 rfl rfl; have cm_5 : w1.cell? ⟨w.heap.size, 5, none⟩ = some (.int .i64 delay) := HJ.out.at 0 5 rfl rfl; have cm_6 : w1.cell? ⟨w.heap.size, 6, none⟩ = some (.slice ca cl.length cc) := HJ.out.at 0 6 rfl rfl; have cm_7 : w1.cell? ⟨w.heap.size, 7, none⟩ = some (.slice ma ml.length mc) := HJ.out.at 0 7 rfl rfl; have ca_0 : w1.cell? ⟨w.heap.size + 1, 0, none⟩ = some (.int .i64 st) := HJ.out.at 1 0 rfl rfl; have ca_1 : w1.cell? ⟨w.heap.size + 1, 1, none⟩ = some (.int .i64 sl) := HJ.out.at 1 1 rfl rfl; have ca_2 : w1.cell? ⟨w.heap.size + 1, 2, none⟩ = some (.slice da dl.length dc) := HJ.out.at 1 2 rfl rfl; have cb_0 : w1.cell? ⟨w.heap.size + 1 + 1, 0, none⟩ = some (.int .i64 bst) := HJ.out.at 2 0 rfl rfl; have cb_1 : w1.cell? ⟨w.heap.size + 1 + 1, 1, none⟩ = some (.int .i64 sl) := HJ.out.at 2 1 rfl rfl; have cb_2 : w1.cell? ⟨w.heap.size + 1 + 1, 2, none⟩ = some (.slice bda bdl.length bdc) := HJ.out.at 2 2 rfl rfl; have zm : w.heap.size < w1.heap.size := HJ.out.lt 0 rfl; have za : w.heap.size + 1 < w1.heap.size := HJ.out.lt 1 rfl; have zb : w.heap.size + 1 + 1 < w1.heap.size := HJ.out.lt 2 rfl
  have l3_0 : w.heap.size < w1.heap.size := HJ.out.lt 0 rfl
  have l3_1 : w.heap.size + 1 < w1.heap.size := HJ.out.lt 1 rfl
  have l3_2 : w.heap.size + 1 + 1 < w1.heap.size := HJ.out.lt 2 rfl
  have HJ2 : Hid (Bx w (w1.alloc (.cells #[.int .i64 u0, .int .i64 u1, .slice ua ul.length uc] 28)) [(w.heap.size, 25, #[.int .i64 nodes, .int .i64 slot, .int .i64 gap, .int .i64 win, .int .i64 drift, .int .i64 delay, .slice ca cl.length cc, .slice ma ml.length mc]), (w.heap.size + 1, 28, #[.int .i64 st, .int .i64 sl, .slice da dl.length dc]), (w.heap.size + 1 + 1, 28, #[.int .i64 bst, .int .i64 sl, .slice bda bdl.length bdc]), (w1.heap.size, 28, #[.int .i64 u0, .int .i64 u1, .slice ua ul.length uc])]) := (HJ.out.new (b := w1.heap.size) #[.int .i64 u0, .int .i64 u1, .slice ua ul.length uc] 28 (by simp))
  go_upto_region 3 with fail
  clear cm_0 cm_1 cm_2 cm_3 cm_4 cm_5 cm_6 cm_7 ca_0 ca_1 ca_2 cb_0 cb_1 cb_2 zm za zb
  clear HJ
  have HJ := HJ2
  clear HJ2
  generalize (w1.alloc (.cells #[.int .i64 u0, .int .i64 u1, .slice ua ul.length uc] 28)) = w4 at *
  generalize w1.heap.size = b5 at *
  have cm_0 : w4.cell? ⟨w.heap.size, 0, none⟩ = some (.int .i64 nodes) := HJ.out.at 0 0 rfl rfl; have cm_1 : w4.cell? ⟨w.heap.size, 1, none⟩ = some (.int .i64 slot) := HJ.out.at 0 1 rfl rfl; have cm_2 : w4.cell? ⟨w.heap.size, 2, none⟩ = some (.int .i64 gap) := HJ.out.at 0 2 rfl rfl; have cm_3 : w4.cell? ⟨w.heap.size, 3, none⟩ = some (.int .i64 win) := HJ.out.at 0 3 rfl rfl; have cm_4 : w4.cell? ⟨w.heap.size, 4, none⟩ = some (.int .i64 drift) := HJ.out.at 0 4 rfl rfl; have cm_5 : w4.cell? ⟨w.heap.size, 5, none⟩ = some (.int .i64 delay) := HJ.out.at 0 5 rfl rfl; have cm_6 : w4.cell? ⟨w.heap.size, 6, none⟩ = some (.slice ca cl.length cc) := HJ.out.at 0 6 rfl rfl; have cm_7 : w4.cell? ⟨w.heap.size, 7, none⟩ = some (.slice ma ml.length mc) := HJ.out.at 0 7 rfl rfl; have ca_0 : w4.cell? ⟨w.heap.size + 1, 0, none⟩ = some (.int .i64 st) := HJ.out.at 1 0 rfl rfl; have ca_1 : w4.cell? ⟨w.heap.size + 1, 1, none⟩ = some (.int .i64 sl) := HJ.out.at 1 1 rfl rfl; have ca_2 : w4.cell? ⟨w.heap.size + 1, 2, none⟩ = some (.slice da dl.length dc) := HJ.out.at 1 2 rfl rfl; have cb_0 : w4.cell? ⟨w.heap.size + 1 + 1, 0, none⟩ = some (.int .i64 bst) := HJ.out.at 2 0 rfl rfl; have cb_1 : w4.cell? ⟨w.heap.size + 1 + 1, 1, none⟩ = some (.int .i64 sl) := HJ.out.at 2 1 rfl rfl; have cb_2 : w4.cell? ⟨w.heap.size + 1 + 1, 2, none⟩ = some (.slice bda bdl.length bdc) := HJ.out.at 2 2 rfl rfl; have cx_0 : w4.cell? ⟨b5, 0, none⟩ = some (.int .i64 u0) := HJ.out.at 3 0 rfl rfl; have cx_1 : w4.cell? ⟨b5, 1, none⟩ = some (.int .i64 u1) := HJ.out.at 3 1 rfl rfl; have cx_2 : w4.cell? ⟨b5, 2, none⟩ = some (.slice ua ul.length uc) := HJ.out.at 3 2 rfl rfl; have zm : w.heap.size < w4.heap.size := HJ.out.lt 0 rfl; have za : w.heap.size + 1 < w4.heap.size := HJ.out.lt 1 rfl; have zb : w.heap.size + 1 + 1 < w4.heap.size := HJ.out.lt 2 rfl; have zx : b5 < w4.heap.size := HJ.out.lt 3 rfl
  go_wp2_with fail
  refine (hny w4 HJ.out.2).mono ?_
  rintro e w6 ⟨⟨⟨v0, v1, va, vc, vl⟩, rfl, hcv, hv0, hv1, hv2, _⟩, hb⟩
  clear cm_0 cm_1 cm_2 cm_3 cm_4 cm_5 cm_6 cm_7 ca_0 ca_1 ca_2 cb_0 cb_1 cb_2 cx_0 cx_1 cx_2 zm za zb zx
  replace HJ := Lib.hid (HJ.out.keep hb)
  simp only at hv0 hv1 hv2
  subst hv0 hv1 hv2
  clear hcv hny
  unfold clv
  clear hb
  have cm_0 : w6.cell? ⟨w.heap.size, 0, none⟩ = some (.int .i64 nodes) := HJ.out.at 0 0 rfl rfl; have cm_1 : w6.cell? ⟨w.heap.size, 1, none⟩ = some (.int .i64 slot) := HJ.out.at 0 1 rfl rfl; have cm_2 : w6.cell? ⟨w.heap.size, 2, none⟩ = some (.int .i64 gap) := HJ.out.at 0 2 rfl rfl; have cm_3 : w6.cell? ⟨w.heap.size, 3, none⟩ = some (.int .i64 win) := HJ.out.at 0 3 rfl rfl; have cm_4 : w6.cell? ⟨w.heap.size, 4, none⟩ = some (.int .i64 drift) := HJ.out.at 0 4 rfl rfl; have cm_5 : w6.cell? ⟨w.heap.size, 5, none⟩ = some (.int .i64 delay) := HJ.out.at 0 5 rfl rfl; have cm_6 : w6.cell? ⟨w.heap.size, 6, none⟩ = some (.slice ca cl.length cc) := HJ.out.at 0 6 rfl rfl; have cm_7 : w6.cell? ⟨w.heap.size, 7, none⟩ = some (.slice ma ml.length mc) := HJ.out.at 0 7 rfl rfl; have ca_0 : w6.cell? ⟨w.heap.size + 1, 0, none⟩ = some (.int .i64 st) := HJ.out.at 1 0 rfl rfl; have ca_1 : w6.cell? ⟨w.heap.size + 1, 1, none⟩ = some (.int .i64 sl) := HJ.out.at 1 1 rfl rfl; have ca_2 : w6.cell? ⟨w.heap.size + 1, 2, none⟩ = some (.slice da dl.length dc) := HJ.out.at 1 2 rfl rfl; have cb_0 : w6.cell? ⟨w.heap.size + 1 + 1, 0, none⟩ = some (.int .i64 bst) := HJ.out.at 2 0 rfl rfl; have cb_1 : w6.cell? ⟨w.heap.size + 1 + 1, 1, none⟩ = some (.int .i64 sl) := HJ.out.at 2 1 rfl rfl; have cb_2 : w6.cell? ⟨w.heap.size + 1 + 1, 2, none⟩ = some (.slice bda bdl.length bdc) := HJ.out.at 2 2 rfl rfl; have cx_0 : w6.cell? ⟨b5, 0, none⟩ = some (.int .i64 u0) := HJ.out.at 3 0 rfl rfl; have cx_1 : w6.cell? ⟨b5, 1, none⟩ = some (.int .i64 u1) := HJ.out.at 3 1 rfl rfl; have cx_2 : w6.cell? ⟨b5, 2, none⟩ = some (.slice ua ul.length uc) := HJ.out.at 3 2 rfl rfl; have zm : w.heap.size < w6.heap.size := HJ.out.lt 0 rfl; have za : w.heap.size + 1 < w6.heap.size := HJ.out.lt 1 rfl; have zb : w.heap.size + 1 + 1 < w6.heap.size := HJ.out.lt 2 rfl; have zx : b5 < w6.heap.size := HJ.out.lt 3 rfl
  have l8_0 : w.heap.size < w6.heap.size := HJ.out.lt 0 rfl
  have l8_1 : w.heap.size + 1 < w6.heap.size := HJ.out.lt 1 rfl
  have l8_2 : w.heap.size + 1 + 1 < w6.heap.size := HJ.out.lt 2 rfl
  have l8_3 : b5 < w6.heap.size := HJ.out.lt 3 rfl
  have HJ2 : Hid (Bx w (w6.alloc (.cells #[.int .i64 v0, .int .i64 v1, .slice va vl.length vc] 28)) [(w.heap.size, 25, #[.int .i64 nodes, .int .i64 slot, .int .i64 gap, .int .i64 win, .int .i64 drift, .int .i64 delay, .slice ca cl.length cc, .slice ma ml.length mc]), (w.heap.size + 1, 28, #[.int .i64 st, .int .i64 sl, .slice da dl.length dc]), (w.heap.size + 1 + 1, 28, #[.int .i64 bst, .int .i64 sl, .slice bda bdl.length bdc]), (b5, 28, #[.int .i64 u0, .int .i64 u1, .slice ua ul.length uc]), (w6.heap.size, 28, #[.int .i64 v0, .int .i64 v1, .slice va vl.length vc])]) := (HJ.out.new (b := w6.heap.size) #[.int .i64 v0, .int .i64 v1, .slice va vl.length vc] 28 (by simp))
  go_upto_region 4 with fail
  clear cm_0 cm_1 cm_2 cm_3 cm_4 cm_5 cm_6 cm_7 ca_0 ca_1 ca_2 cb_0 cb_1 cb_2 cx_0 cx_1 cx_2 zm za zb zx
  clear HJ
  have HJ := HJ2
  clear HJ2
  generalize (w6.alloc (.cells #[.int .i64 v0, .int .i64 v1, .slice va vl.length vc] 28)) = w9 at *
  generalize w6.heap.size = b10 at *
  have cm_0 : w9.cell? ⟨w.heap.size, 0, none⟩ = some (.int .i64 nodes) := HJ.out.at 0 0 rfl rfl; have cm_1 : w9.cell? ⟨w.heap.size, 1, none⟩ = some (.int .i64 slot) := HJ.out.at 0 1 rfl rfl; have cm_2 : w9.cell? ⟨w.heap.size, 2, none⟩ = some (.int .i64 gap) := HJ.out.at 0 2 rfl rfl; have cm_3 : w9.cell? ⟨w.heap.size, 3, none⟩ = some (.int .i64 win) := HJ.out.at 0 3 rfl rfl; have cm_4 : w9.cell? ⟨w.heap.size, 4, none⟩ = some (.int .i64 drift) := HJ.out.at 0 4 rfl rfl; have cm_5 : w9.cell? ⟨w.heap.size, 5, none⟩ = some (.int .i64 delay) := HJ.out.at 0 5 rfl rfl; have cm_6 : w9.cell? ⟨w.heap.size, 6, none⟩ = some (.slice ca cl.length cc) := HJ.out.at 0 6 rfl rfl; have cm_7 : w9.cell? ⟨w.heap.size, 7, none⟩ = some (.slice ma ml.length mc) := HJ.out.at 0 7 rfl rfl; have ca_0 : w9.cell? ⟨w.heap.size + 1, 0, none⟩ = some (.int .i64 st) := HJ.out.at 1 0 rfl rfl; have ca_1 : w9.cell? ⟨w.heap.size + 1, 1, none⟩ = some (.int .i64 sl) := HJ.out.at 1 1 rfl rfl; have ca_2 : w9.cell? ⟨w.heap.size + 1, 2, none⟩ = some (.slice da dl.length dc) := HJ.out.at 1 2 rfl rfl; have cb_0 : w9.cell? ⟨w.heap.size + 1 + 1, 0, none⟩ = some (.int .i64 bst) := HJ.out.at 2 0 rfl rfl; have cb_1 : w9.cell? ⟨w.heap.size + 1 + 1, 1, none⟩ = some (.int .i64 sl) := HJ.out.at 2 1 rfl rfl; have cb_2 : w9.cell? ⟨w.heap.size + 1 + 1, 2, none⟩ = some (.slice bda bdl.length bdc) := HJ.out.at 2 2 rfl rfl; have cx_0 : w9.cell? ⟨b5, 0, none⟩ = some (.int .i64 u0) := HJ.out.at 3 0 rfl rfl; have cx_1 : w9.cell? ⟨b5, 1, none⟩ = some (.int .i64 u1) := HJ.out.at 3 1 rfl rfl; have cx_2 : w9.cell? ⟨b5, 2, none⟩ = some (.slice ua ul.length uc) := HJ.out.at 3 2 rfl rfl; have cy_0 : w9.cell? ⟨b10, 0, none⟩ = some (.int .i64 v0) := HJ.out.at 4 0 rfl rfl; have cy_1 : w9.cell? ⟨b10, 1, none⟩ = some (.int .i64 v1) := HJ.out.at 4 1 rfl rfl; have cy_2 : w9.cell? ⟨b10, 2, none⟩ = some (.slice va vl.length vc) := HJ.out.at 4 2 rfl rfl; have zm : w.heap.size < w9.heap.size := HJ.out.lt 0 rfl; have za : w.heap.size + 1 < w9.heap.size := HJ.out.lt 1 rfl; have zb : w.heap.size + 1 + 1 < w9.heap.size := HJ.out.lt 2 rfl; have zx : b5 < w9.heap.size := HJ.out.lt 3 rfl; have zy : b10 < w9.heap.size := HJ.out.lt 4 rfl
  go_wp2_with fail
  refine (begun_any w9).mono ?_
  rintro e w11 ⟨rfl, hb⟩
  clear cm_0 cm_1 cm_2 cm_3 cm_4 cm_5 cm_6 cm_7 ca_0 ca_1 ca_2 cb_0 cb_1 cb_2 cx_0 cx_1 cx_2 cy_0 cy_1 cy_2 zm za zb zx zy
  replace HJ := Lib.hid (HJ.out.keep hb)
  clear hb
  by_cases hxe : xe = 0
  rotate_left
  · have hne : (xe != 0) = true := by simpa using hxe
    clear hxe
    have cm_0 : w11.cell? ⟨w.heap.size, 0, none⟩ = some (.int .i64 nodes) := HJ.out.at 0 0 rfl rfl; have cm_1 : w11.cell? ⟨w.heap.size, 1, none⟩ = some (.int .i64 slot) := HJ.out.at 0 1 rfl rfl; have cm_2 : w11.cell? ⟨w.heap.size, 2, none⟩ = some (.int .i64 gap) := HJ.out.at 0 2 rfl rfl; have cm_3 : w11.cell? ⟨w.heap.size, 3, none⟩ = some (.int .i64 win) := HJ.out.at 0 3 rfl rfl; have cm_4 : w11.cell? ⟨w.heap.size, 4, none⟩ = some (.int .i64 drift) := HJ.out.at 0 4 rfl rfl; have cm_5 : w11.cell? ⟨w.heap.size, 5, none⟩ = some (.int .i64 delay) := HJ.out.at 0 5 rfl rfl; have cm_6 : w11.cell? ⟨w.heap.size, 6, none⟩ = some (.slice ca cl.length cc) := HJ.out.at 0 6 rfl rfl; have cm_7 : w11.cell? ⟨w.heap.size, 7, none⟩ = some (.slice ma ml.length mc) := HJ.out.at 0 7 rfl rfl; have ca_0 : w11.cell? ⟨w.heap.size + 1, 0, none⟩ = some (.int .i64 st) := HJ.out.at 1 0 rfl rfl; have ca_1 : w11.cell? ⟨w.heap.size + 1, 1, none⟩ = some (.int .i64 sl) := HJ.out.at 1 1 rfl rfl; have ca_2 : w11.cell? ⟨w.heap.size + 1, 2, none⟩ = some (.slice da dl.length dc) := HJ.out.at 1 2 rfl rfl; have cb_0 : w11.cell? ⟨w.heap.size + 1 + 1, 0, none⟩ = some (.int .i64 bst) := HJ.out.at 2 0 rfl rfl; have cb_1 : w11.cell? ⟨w.heap.size + 1 + 1, 1, none⟩ = some (.int .i64 sl) := HJ.out.at 2 1 rfl rfl; have cb_2 : w11.cell? ⟨w.heap.size + 1 + 1, 2, none⟩ = some (.slice bda bdl.length bdc) := HJ.out.at 2 2 rfl rfl; have cx_0 : w11.cell? ⟨b5, 0, none⟩ = some (.int .i64 u0) := HJ.out.at 3 0 rfl rfl; have cx_1 : w11.cell? ⟨b5, 1, none⟩ = some (.int .i64 u1) := HJ.out.at 3 1 rfl rfl; have cx_2 : w11.cell? ⟨b5, 2, none⟩ = some (.slice ua ul.length uc) := HJ.out.at 3 2 rfl rfl; have cy_0 : w11.cell? ⟨b10, 0, none⟩ = some (.int .i64 v0) := HJ.out.at 4 0 rfl rfl; have cy_1 : w11.cell? ⟨b10, 1, none⟩ = some (.int .i64 v1) := HJ.out.at 4 1 rfl rfl; have cy_2 : w11.cell? ⟨b10, 2, none⟩ = some (.slice va vl.length vc) := HJ.out.at 4 2 rfl rfl; have zm : w.heap.size < w11.heap.size := HJ.out.lt 0 rfl; have za : w.heap.size + 1 < w11.heap.size := HJ.out.lt 1 rfl; have zb : w.heap.size + 1 + 1 < w11.heap.size := HJ.out.lt 2 rfl; have zx : b5 < w11.heap.size := HJ.out.lt 3 rfl; have zy : b10 < w11.heap.size := HJ.out.lt 4 rfl
    go_wp2_with fail
    refine (begun_any w11).mono ?_
    rintro e w12 ⟨rfl, hb⟩
    clear cm_0 cm_1 cm_2 cm_3 cm_4 cm_5 cm_6 cm_7 ca_0 ca_1 ca_2 cb_0 cb_1 cb_2 cx_0 cx_1 cx_2 cy_0 cy_1 cy_2 zm za zb zx zy
    replace HJ := Lib.hid (HJ.out.keep hb)
    clear hb
    go_wp2
    go_ret
    exact ⟨rfl, HJ.out.2⟩
  subst hxe
  by_cases hye : ye = 0
  rotate_left
  · have hne : (ye != 0) = true := by simpa using hye
    clear hye
    have cm_0 : w11.cell? ⟨w.heap.size, 0, none⟩ = some (.int .i64 nodes) := HJ.out.at 0 0 rfl rfl; have cm_1 : w11.cell? ⟨w.heap.size, 1, none⟩ = some (.int .i64 slot) := HJ.out.at 0 1 rfl rfl; have cm_2 : w11.cell? ⟨w.heap.size, 2, none⟩ = some (.int .i64 gap) := HJ.out.at 0 2 rfl rfl; have cm_3 : w11.cell? ⟨w.heap.size, 3, none⟩ = some (.int .i64 win) := HJ.out.at 0 3 rfl rfl; have cm_4 : w11.cell? ⟨w.heap.size, 4, none⟩ = some (.int .i64 drift) := HJ.out.at 0 4 rfl rfl; have cm_5 : w11.cell? ⟨w.heap.size, 5, none⟩ = some (.int .i64 delay) := HJ.out.at 0 5 rfl rfl; have cm_6 : w11.cell? ⟨w.heap.size, 6, none⟩ = some (.slice ca cl.length cc) := HJ.out.at 0 6 rfl rfl; have cm_7 : w11.cell? ⟨w.heap.size, 7, none⟩ = some (.slice ma ml.length mc) := HJ.out.at 0 7 rfl rfl; have ca_0 : w11.cell? ⟨w.heap.size + 1, 0, none⟩ = some (.int .i64 st) := HJ.out.at 1 0 rfl rfl; have ca_1 : w11.cell? ⟨w.heap.size + 1, 1, none⟩ = some (.int .i64 sl) := HJ.out.at 1 1 rfl rfl; have ca_2 : w11.cell? ⟨w.heap.size + 1, 2, none⟩ = some (.slice da dl.length dc) := HJ.out.at 1 2 rfl rfl; have cb_0 : w11.cell? ⟨w.heap.size + 1 + 1, 0, none⟩ = some (.int .i64 bst) := HJ.out.at 2 0 rfl rfl; have cb_1 : w11.cell? ⟨w.heap.size + 1 + 1, 1, none⟩ = some (.int .i64 sl) := HJ.out.at 2 1 rfl rfl; have cb_2 : w11.cell? ⟨w.heap.size + 1 + 1, 2, none⟩ = some (.slice bda bdl.length bdc) := HJ.out.at 2 2 rfl rfl; have cx_0 : w11.cell? ⟨b5, 0, none⟩ = some (.int .i64 u0) := HJ.out.at 3 0 rfl rfl; have cx_1 : w11.cell? ⟨b5, 1, none⟩ = some (.int .i64 u1) := HJ.out.at 3 1 rfl rfl; have cx_2 : w11.cell? ⟨b5, 2, none⟩ = some (.slice ua ul.length uc) := HJ.out.at 3 2 rfl rfl; have cy_0 : w11.cell? ⟨b10, 0, none⟩ = some (.int .i64 v0) := HJ.out.at 4 0 rfl rfl; have cy_1 : w11.cell? ⟨b10, 1, none⟩ = some (.int .i64 v1) := HJ.out.at 4 1 rfl rfl; have cy_2 : w11.cell? ⟨b10, 2, none⟩ = some (.slice va vl.length vc) := HJ.out.at 4 2 rfl rfl; have zm : w.heap.size < w11.heap.size := HJ.out.lt 0 rfl; have za : w.heap.size + 1 < w11.heap.size := HJ.out.lt 1 rfl; have zb : w.heap.size + 1 + 1 < w11.heap.size := HJ.out.lt 2 rfl; have zx : b5 < w11.heap.size := HJ.out.lt 3 rfl; have zy : b10 < w11.heap.size := HJ.out.lt 4 rfl
    go_wp2_with fail
    refine (begun_any w11).mono ?_
    rintro e w12 ⟨rfl, hb⟩
    clear cm_0 cm_1 cm_2 cm_3 cm_4 cm_5 cm_6 cm_7 ca_0 ca_1 ca_2 cb_0 cb_1 cb_2 cx_0 cx_1 cx_2 cy_0 cy_1 cy_2 zm za zb zx zy
    replace HJ := Lib.hid (HJ.out.keep hb)
    clear hb
    go_wp2
    go_ret
    exact ⟨rfl, HJ.out.2⟩
  subst hye
  have hx := HX.out rfl
  have hy := HY.out rfl
  obtain ⟨hM, ka, hp0, hp1, hnx⟩ := hx
  obtain ⟨_, kb, hq0, hq1, hny⟩ := hy
  (try simp only at hnx); (try simp only at hny)
  have hxs := HXS.out
  rw [← hnx] at hxs
  (try simp only at hxs)
  subst hxs
  obtain ⟨⟨n0, n1⟩, ⟨dr0, dr1⟩, ⟨de0, de1⟩, ⟨wi0, wi1⟩, ⟨ga0, ga1⟩, ⟨so0, so1⟩, _⟩ := okM_bd hM
  try simp only at n0 n1 dr0 dr1 de0 de1 wi0 wi1 ga0 ga1 so0 so1
  obtain ⟨_, as0, as1, al0, al1, _⟩ := HA.out ka
  obtain ⟨_, bs0, bs1, _⟩ := HB.out kb
  try simp only at as0 as1 al0 al1 bs0 bs1
  clear hM ka kb HX HY HXS HA HB
  by_cases hr : (sl + 1).tmod nodes = 0
  · clear hnx hny HXV HYV
    have cm_0 : w11.cell? ⟨w.heap.size, 0, none⟩ = some (.int .i64 nodes) := HJ.out.at 0 0 rfl rfl; have cm_1 : w11.cell? ⟨w.heap.size, 1, none⟩ = some (.int .i64 slot) := HJ.out.at 0 1 rfl rfl; have cm_2 : w11.cell? ⟨w.heap.size, 2, none⟩ = some (.int .i64 gap) := HJ.out.at 0 2 rfl rfl; have cm_3 : w11.cell? ⟨w.heap.size, 3, none⟩ = some (.int .i64 win) := HJ.out.at 0 3 rfl rfl; have cm_4 : w11.cell? ⟨w.heap.size, 4, none⟩ = some (.int .i64 drift) := HJ.out.at 0 4 rfl rfl; have cm_5 : w11.cell? ⟨w.heap.size, 5, none⟩ = some (.int .i64 delay) := HJ.out.at 0 5 rfl rfl; have cm_6 : w11.cell? ⟨w.heap.size, 6, none⟩ = some (.slice ca cl.length cc) := HJ.out.at 0 6 rfl rfl; have cm_7 : w11.cell? ⟨w.heap.size, 7, none⟩ = some (.slice ma ml.length mc) := HJ.out.at 0 7 rfl rfl; have ca_0 : w11.cell? ⟨w.heap.size + 1, 0, none⟩ = some (.int .i64 st) := HJ.out.at 1 0 rfl rfl; have ca_1 : w11.cell? ⟨w.heap.size + 1, 1, none⟩ = some (.int .i64 sl) := HJ.out.at 1 1 rfl rfl; have ca_2 : w11.cell? ⟨w.heap.size + 1, 2, none⟩ = some (.slice da dl.length dc) := HJ.out.at 1 2 rfl rfl; have cb_0 : w11.cell? ⟨w.heap.size + 1 + 1, 0, none⟩ = some (.int .i64 bst) := HJ.out.at 2 0 rfl rfl; have cb_1 : w11.cell? ⟨w.heap.size + 1 + 1, 1, none⟩ = some (.int .i64 sl) := HJ.out.at 2 1 rfl rfl; have cb_2 : w11.cell? ⟨w.heap.size + 1 + 1, 2, none⟩ = some (.slice bda bdl.length bdc) := HJ.out.at 2 2 rfl rfl; have cx_0 : w11.cell? ⟨b5, 0, none⟩ = some (.int .i64 u0) := HJ.out.at 3 0 rfl rfl; have cx_1 : w11.cell? ⟨b5, 1, none⟩ = some (.int .i64 (sl + 1)) := HJ.out.at 3 1 rfl rfl; have cx_2 : w11.cell? ⟨b5, 2, none⟩ = some (.slice ua ul.length uc) := HJ.out.at 3 2 rfl rfl; have cy_0 : w11.cell? ⟨b10, 0, none⟩ = some (.int .i64 v0) := HJ.out.at 4 0 rfl rfl; have cy_1 : w11.cell? ⟨b10, 1, none⟩ = some (.int .i64 v1) := HJ.out.at 4 1 rfl rfl; have cy_2 : w11.cell? ⟨b10, 2, none⟩ = some (.slice va vl.length vc) := HJ.out.at 4 2 rfl rfl; have zm : w.heap.size < w11.heap.size := HJ.out.lt 0 rfl; have za : w.heap.size + 1 < w11.heap.size := HJ.out.lt 1 rfl; have zb : w.heap.size + 1 + 1 < w11.heap.size := HJ.out.lt 2 rfl; have zx : b5 < w11.heap.size := HJ.out.lt 3 rfl; have zy : b10 < w11.heap.size := HJ.out.lt 4 rfl
    go_wp2_with fail
    refine (begun_any w11).mono ?_
    rintro e w12 ⟨rfl, hb⟩
    clear cm_0 cm_1 cm_2 cm_3 cm_4 cm_5 cm_6 cm_7 ca_0 ca_1 ca_2 cb_0 cb_1 cb_2 cx_0 cx_1 cx_2 cy_0 cy_1 cy_2 zm za zb zx zy
    replace HJ := Lib.hid (HJ.out.keep hb)
    clear hb
    go_wp2
    go_ret
    exact ⟨rfl, HJ.out.2⟩
  have hx' := HXV.out hr
  have hy' := HYV.out hr
  rw [← hnx] at hx'
  rw [← hny] at hy'
  simp only [Prod.mk.injEq, true_and] at hx' hy'
  obtain ⟨hx', -⟩ := hx'
  obtain ⟨hy', -⟩ := hy'
  clear hnx hny HXV HYV
  have e1 : u0 - v0 - (st - bst) = p - q := by omega
  have hu : 0 ≤ u0 + 64 ∧ u0 ≤ 2199023255552 := by omega
  have hv : 0 ≤ v0 + 64 ∧ v0 ≤ 2199023255552 := by omega
  have hf : max (u0 - v0 - (st - bst)) (st - bst - (u0 - v0)) ≤ 2 * drift := by omega
  have HF := Lib.hid hf
  have hrd : decide ((sl + 1).tmod nodes = 0) = false := by simpa using hr
  have hrv : ¬ nodes ∣ sl + 1 := fun h => hr (Int.tmod_eq_zero_of_dvd h)
  have g1 : -1099511627776 ≤ st - bst ∧ st - bst ≤ 1099511627776 := by omega
  have g2 : -2299511627776 ≤ u0 - v0 ∧ u0 - v0 ≤ 2299511627776 := by omega
  clear hx' hy' e1 hf
  have cm_0 : w11.cell? ⟨w.heap.size, 0, none⟩ = some (.int .i64 nodes) := HJ.out.at 0 0 rfl rfl; have cm_1 : w11.cell? ⟨w.heap.size, 1, none⟩ = some (.int .i64 slot) := HJ.out.at 0 1 rfl rfl; have cm_2 : w11.cell? ⟨w.heap.size, 2, none⟩ = some (.int .i64 gap) := HJ.out.at 0 2 rfl rfl; have cm_3 : w11.cell? ⟨w.heap.size, 3, none⟩ = some (.int .i64 win) := HJ.out.at 0 3 rfl rfl; have cm_4 : w11.cell? ⟨w.heap.size, 4, none⟩ = some (.int .i64 drift) := HJ.out.at 0 4 rfl rfl; have cm_5 : w11.cell? ⟨w.heap.size, 5, none⟩ = some (.int .i64 delay) := HJ.out.at 0 5 rfl rfl; have cm_6 : w11.cell? ⟨w.heap.size, 6, none⟩ = some (.slice ca cl.length cc) := HJ.out.at 0 6 rfl rfl; have cm_7 : w11.cell? ⟨w.heap.size, 7, none⟩ = some (.slice ma ml.length mc) := HJ.out.at 0 7 rfl rfl; have ca_0 : w11.cell? ⟨w.heap.size + 1, 0, none⟩ = some (.int .i64 st) := HJ.out.at 1 0 rfl rfl; have ca_1 : w11.cell? ⟨w.heap.size + 1, 1, none⟩ = some (.int .i64 sl) := HJ.out.at 1 1 rfl rfl; have ca_2 : w11.cell? ⟨w.heap.size + 1, 2, none⟩ = some (.slice da dl.length dc) := HJ.out.at 1 2 rfl rfl; have cb_0 : w11.cell? ⟨w.heap.size + 1 + 1, 0, none⟩ = some (.int .i64 bst) := HJ.out.at 2 0 rfl rfl; have cb_1 : w11.cell? ⟨w.heap.size + 1 + 1, 1, none⟩ = some (.int .i64 sl) := HJ.out.at 2 1 rfl rfl; have cb_2 : w11.cell? ⟨w.heap.size + 1 + 1, 2, none⟩ = some (.slice bda bdl.length bdc) := HJ.out.at 2 2 rfl rfl; have cx_0 : w11.cell? ⟨b5, 0, none⟩ = some (.int .i64 u0) := HJ.out.at 3 0 rfl rfl; have cx_1 : w11.cell? ⟨b5, 1, none⟩ = some (.int .i64 (sl + 1)) := HJ.out.at 3 1 rfl rfl; have cx_2 : w11.cell? ⟨b5, 2, none⟩ = some (.slice ua ul.length uc) := HJ.out.at 3 2 rfl rfl; have cy_0 : w11.cell? ⟨b10, 0, none⟩ = some (.int .i64 v0) := HJ.out.at 4 0 rfl rfl; have cy_1 : w11.cell? ⟨b10, 1, none⟩ = some (.int .i64 v1) := HJ.out.at 4 1 rfl rfl; have cy_2 : w11.cell? ⟨b10, 2, none⟩ = some (.slice va vl.length vc) := HJ.out.at 4 2 rfl rfl; have zm : w.heap.size < w11.heap.size := HJ.out.lt 0 rfl; have za : w.heap.size + 1 < w11.heap.size := HJ.out.lt 1 rfl; have zb : w.heap.size + 1 + 1 < w11.heap.size := HJ.out.lt 2 rfl; have zx : b5 < w11.heap.size := HJ.out.lt 3 rfl; have zy : b10 < w11.heap.size := HJ.out.lt 4 rfl
  go_upto_region 6 with fail
  clear cm_0 cm_1 cm_2 cm_3 cm_4 cm_5 cm_6 cm_7 ca_0 ca_1 ca_2 cb_0 cb_1 cb_2 cx_0 cx_1 cx_2 cy_0 cy_1 cy_2 zm za zb zx zy
  have hw1 : IntKind.i64.wrap (st - bst) = st - bst := IntWalk.i64_in _ (by omega)
  have hw2 : IntKind.i64.wrap (u0 - v0) = u0 - v0 := IntWalk.i64_in _ (by omega)
  have cm_0 : w11.cell? ⟨w.heap.size, 0, none⟩ = some (.int .i64 nodes) := HJ.out.at 0 0 rfl rfl; have cm_1 : w11.cell? ⟨w.heap.size, 1, none⟩ = some (.int .i64 slot) := HJ.out.at 0 1 rfl rfl; have cm_2 : w11.cell? ⟨w.heap.size, 2, none⟩ = some (.int .i64 gap) := HJ.out.at 0 2 rfl rfl; have cm_3 : w11.cell? ⟨w.heap.size, 3, none⟩ = some (.int .i64 win) := HJ.out.at 0 3 rfl rfl; have cm_4 : w11.cell? ⟨w.heap.size, 4, none⟩ = some (.int .i64 drift) := HJ.out.at 0 4 rfl rfl; have cm_5 : w11.cell? ⟨w.heap.size, 5, none⟩ = some (.int .i64 delay) := HJ.out.at 0 5 rfl rfl; have cm_6 : w11.cell? ⟨w.heap.size, 6, none⟩ = some (.slice ca cl.length cc) := HJ.out.at 0 6 rfl rfl; have cm_7 : w11.cell? ⟨w.heap.size, 7, none⟩ = some (.slice ma ml.length mc) := HJ.out.at 0 7 rfl rfl; have ca_0 : w11.cell? ⟨w.heap.size + 1, 0, none⟩ = some (.int .i64 st) := HJ.out.at 1 0 rfl rfl; have ca_1 : w11.cell? ⟨w.heap.size + 1, 1, none⟩ = some (.int .i64 sl) := HJ.out.at 1 1 rfl rfl; have ca_2 : w11.cell? ⟨w.heap.size + 1, 2, none⟩ = some (.slice da dl.length dc) := HJ.out.at 1 2 rfl rfl; have cb_0 : w11.cell? ⟨w.heap.size + 1 + 1, 0, none⟩ = some (.int .i64 bst) := HJ.out.at 2 0 rfl rfl; have cb_1 : w11.cell? ⟨w.heap.size + 1 + 1, 1, none⟩ = some (.int .i64 sl) := HJ.out.at 2 1 rfl rfl; have cb_2 : w11.cell? ⟨w.heap.size + 1 + 1, 2, none⟩ = some (.slice bda bdl.length bdc) := HJ.out.at 2 2 rfl rfl; have cx_0 : w11.cell? ⟨b5, 0, none⟩ = some (.int .i64 u0) := HJ.out.at 3 0 rfl rfl; have cx_1 : w11.cell? ⟨b5, 1, none⟩ = some (.int .i64 (sl + 1)) := HJ.out.at 3 1 rfl rfl; have cx_2 : w11.cell? ⟨b5, 2, none⟩ = some (.slice ua ul.length uc) := HJ.out.at 3 2 rfl rfl; have cy_0 : w11.cell? ⟨b10, 0, none⟩ = some (.int .i64 v0) := HJ.out.at 4 0 rfl rfl; have cy_1 : w11.cell? ⟨b10, 1, none⟩ = some (.int .i64 v1) := HJ.out.at 4 1 rfl rfl; have cy_2 : w11.cell? ⟨b10, 2, none⟩ = some (.slice va vl.length vc) := HJ.out.at 4 2 rfl rfl; have zm : w.heap.size < w11.heap.size := HJ.out.lt 0 rfl; have za : w.heap.size + 1 < w11.heap.size := HJ.out.lt 1 rfl; have zb : w.heap.size + 1 + 1 < w11.heap.size := HJ.out.lt 2 rfl; have zx : b5 < w11.heap.size := HJ.out.lt 3 rfl; have zy : b10 < w11.heap.size := HJ.out.lt 4 rfl
  go_quiet (fail)
  clear cm_0 cm_1 cm_2 cm_3 cm_4 cm_5 cm_6 cm_7 ca_0 ca_1 ca_2 cb_0 cb_1 cb_2 cx_0 cx_1 cx_2 cy_0 cy_1 cy_2 zm za zb zx zy
  clear hw1 hw2
  generalize hW : World.drewN _ _ = wz at *
  have HJ2 : Hid (Bx w wz [(w.heap.size, 25, #[.int .i64 nodes, .int .i64 slot, .int .i64 gap, .int .i64 win, .int .i64 drift, .int .i64 delay, .slice ca cl.length cc, .slice ma ml.length mc]), (w.heap.size + 1, 28, #[.int .i64 st, .int .i64 sl, .slice da dl.length dc]), (w.heap.size + 1 + 1, 28, #[.int .i64 bst, .int .i64 sl, .slice bda bdl.length bdc]), (b5, 28, #[.int .i64 u0, .int .i64 (sl + 1), .slice ua ul.length uc]), (b10, 28, #[.int .i64 v0, .int .i64 v1, .slice va vl.length vc])]) := by show Bx _ _ _; rw [← hW]; exact HJ.out.keep (below_drewN (Below.refl _ _) _)
  clear HJ hW
  have HJ := HJ2
  clear HJ2
  have cm_0 : wz.cell? ⟨w.heap.size, 0, none⟩ = some (.int .i64 nodes) := HJ.out.at 0 0 rfl rfl; have cm_1 : wz.cell? ⟨w.heap.size, 1, none⟩ = some (.int .i64 slot) := HJ.out.at 0 1 rfl rfl; have cm_2 : wz.cell? ⟨w.heap.size, 2, none⟩ = some (.int .i64 gap) := HJ.out.at 0 2 rfl rfl; have cm_3 : wz.cell? ⟨w.heap.size, 3, none⟩ = some (.int .i64 win) := HJ.out.at 0 3 rfl rfl; have cm_4 : wz.cell? ⟨w.heap.size, 4, none⟩ = some (.int .i64 drift) := HJ.out.at 0 4 rfl rfl; have cm_5 : wz.cell? ⟨w.heap.size, 5, none⟩ = some (.int .i64 delay) := HJ.out.at 0 5 rfl rfl; have cm_6 : wz.cell? ⟨w.heap.size, 6, none⟩ = some (.slice ca cl.length cc) := HJ.out.at 0 6 rfl rfl; have cm_7 : wz.cell? ⟨w.heap.size, 7, none⟩ = some (.slice ma ml.length mc) := HJ.out.at 0 7 rfl rfl; have ca_0 : wz.cell? ⟨w.heap.size + 1, 0, none⟩ = some (.int .i64 st) := HJ.out.at 1 0 rfl rfl; have ca_1 : wz.cell? ⟨w.heap.size + 1, 1, none⟩ = some (.int .i64 sl) := HJ.out.at 1 1 rfl rfl; have ca_2 : wz.cell? ⟨w.heap.size + 1, 2, none⟩ = some (.slice da dl.length dc) := HJ.out.at 1 2 rfl rfl; have cb_0 : wz.cell? ⟨w.heap.size + 1 + 1, 0, none⟩ = some (.int .i64 bst) := HJ.out.at 2 0 rfl rfl; have cb_1 : wz.cell? ⟨w.heap.size + 1 + 1, 1, none⟩ = some (.int .i64 sl) := HJ.out.at 2 1 rfl rfl; have cb_2 : wz.cell? ⟨w.heap.size + 1 + 1, 2, none⟩ = some (.slice bda bdl.length bdc) := HJ.out.at 2 2 rfl rfl; have cx_0 : wz.cell? ⟨b5, 0, none⟩ = some (.int .i64 u0) := HJ.out.at 3 0 rfl rfl; have cx_1 : wz.cell? ⟨b5, 1, none⟩ = some (.int .i64 (sl + 1)) := HJ.out.at 3 1 rfl rfl; have cx_2 : wz.cell? ⟨b5, 2, none⟩ = some (.slice ua ul.length uc) := HJ.out.at 3 2 rfl rfl; have cy_0 : wz.cell? ⟨b10, 0, none⟩ = some (.int .i64 v0) := HJ.out.at 4 0 rfl rfl; have cy_1 : wz.cell? ⟨b10, 1, none⟩ = some (.int .i64 v1) := HJ.out.at 4 1 rfl rfl; have cy_2 : wz.cell? ⟨b10, 2, none⟩ = some (.slice va vl.length vc) := HJ.out.at 4 2 rfl rfl; have zm : w.heap.size < wz.heap.size := HJ.out.lt 0 rfl; have za : w.heap.size + 1 < wz.heap.size := HJ.out.lt 1 rfl; have zb : w.heap.size + 1 + 1 < wz.heap.size := HJ.out.lt 2 rfl; have zx : b5 < wz.heap.size := HJ.out.lt 3 rfl; have zy : b10 < wz.heap.size := HJ.out.lt 4 rfl
  go_wp2
  go_ret
  exact ⟨ret_bool (decide_eq_true HF.out), HJ.out.2⟩
end Go.Proofs.Ytimcljlbjnhpnaa
