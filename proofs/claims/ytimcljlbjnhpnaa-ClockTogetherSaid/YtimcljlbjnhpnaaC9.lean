/- ClockGoes: the walk. -/
import Derived.Test.YtimcljlbjnhpnaaC5
import Derived.Test.YtimcljlbjnhpnaaC8
namespace Go.Proofs.Ytimcljlbjnhpnaa
open Go.RowKit Go.Shelf
open Md

theorem Ints.far {W : World} {a : Option Addr} {n c b : Nat} {l : List Int} (h : Ints W (.slice a n c) l) (hne : ∀ p, a = some p → p.block ≠ b) (i : Nat) (x : Value) : Ints (W.setCell ⟨b, i, none⟩ x) (.slice a n c) l := by
  obtain ⟨a', cap, e, h1, h2, h3, h5, h6, h4⟩ := h
  refine ⟨a', cap, e, h1, h2, h3, h5, h6, ?_⟩
  simp only [Value.slice.injEq] at e
  obtain ⟨rfl, -, -⟩ := e
  rcases h4 with h4 | ⟨g, off, rfl, hlt, hc⟩
  · exact .inl h4
  · refine .inr ⟨g, off, rfl, by simpa using hlt, fun j hj => ?_⟩
    rw [World.cell?_of_block (Below.heap_setCell W ⟨b, i, none⟩ x g (hne _ rfl))]
    exact hc j hj
theorem Ints.far3 {W : World} {a : Option Addr} {n c b : Nat} {l : List Int} (h : Ints W (.slice a n c) l) (hne : ∀ p, a = some p → p.block ≠ b) (x y z : Value) : Ints (((W.setCell ⟨b, 0, none⟩ x).setCell ⟨b, 1, none⟩ y).setCell ⟨b, 2, none⟩ z) (.slice a n c) l :=
  ((h.far hne 0 x).far hne 1 y).far hne 2 z
theorem GoodCk.far3 {W : World} {c : Ck} {b : Nat} (h : GoodCk W c) (hne : ∀ p, c.da = some p → p.block ≠ b) (x y z : Value) : GoodCk (((W.setCell ⟨b, 0, none⟩ x).setCell ⟨b, 1, none⟩ y).setCell ⟨b, 2, none⟩ z) c :=
  ⟨h.1.far3 hne x y z, h.2⟩

set_option maxRecDepth 100000 in
set_option maxHeartbeats 1600000 in
theorem goes_walk (m : Me) (c : Ck) (at' p pos : Int) (w : World) (h : GoodMe w m) (hc : GoodCk w c) (hat : I64 at') (hp : I64 p) (hpos : I64 pos) :
    Calls Try.prog 8 #[mev m, clv c, .int .i64 at', .int .i64 p, .int .i64 pos] w fun e w' => e = .returned (.bool true) ∧ Below w.heap.size w w' := by
  by_cases hlen : c.dl.length ≤ 17592186044416
  rotate_left
  · exact absurd hc.1.len hlen
  clear hlen
  have hcl : ∀ W, Below w.heap.size w W → _ := fun W hW => clone_any c.dl (.slice c.da c.dl.length c.dc) W (hc.1.below hW)
  have hse : ∀ W, Below w.heap.size w W → _ := fun W hW => see_any m c at' W (h.below hW) (hc.below hW) hat
  have hrs : ∀ W, Below w.heap.size w W → _ := fun W hW => rsee_any m c at' W (h.below hW) (hc.below hW) hat
  have hnx : ∀ W, Below w.heap.size w W → _ := fun W hW => next_any m c p W (h.below hW) (hc.below hW) hp
  have hrn : ∀ W, Below w.heap.size w W → _ := fun W hW => rnext_any m c p W (h.below hW) (hc.below hW) hp
  have hjo : ∀ W, Below w.heap.size w W → _ := fun W hW => join_any m at' pos W (h.below hW) hat hpos
  have hrj : ∀ W, Below w.heap.size w W → _ := fun W hW => rjoin_any m at' pos W (h.below hW) hat hpos
  have HSA := Lib.hid (fun a b W => rsame_any a b W)
  have HEQ := Lib.hid (fun (v : Value) W h h' => equal_any c.dl c.dl (.slice c.da c.dl.length c.dc) v W h h')
  have HCI := Lib.hid hc.1
  have HBD := Lib.hid hc.1.bd
  have HLN := Lib.hid hc.1.len
  generalize seeV _ _ _ = s at *
  generalize nextV _ _ _ = n at *
  generalize joinV _ _ _ = j at *
  obtain ⟨nodes, slot, gap, win, drift, delay, ⟨ca, cc, cl⟩, ma, mc, ml⟩ := m
  obtain ⟨st, sl, da, dc, dl⟩ := c
  obtain ⟨⟨s0, s1, s2⟩, se⟩ := s
  obtain ⟨⟨n0, n1, n2⟩, ne⟩ := n
  obtain ⟨⟨j0, j1, j2⟩, je⟩ := j
  unfold mev clv at *
  simp only at *
  clear h hc hp hat hpos
  have HJ : Hid (Bx w ((w.alloc (.cells #[.int .i64 nodes, .int .i64 slot, .int .i64 gap, .int .i64 win, .int .i64 drift, .int .i64 delay, .slice ca cl.length cc, .slice ma ml.length mc] 25)).alloc (.cells #[.int .i64 st, .int .i64 sl, .slice da dl.length dc] 28)) [(w.heap.size, 25, #[.int .i64 nodes, .int .i64 slot, .int .i64 gap, .int .i64 win, .int .i64 drift, .int .i64 delay, .slice ca cl.length cc, .slice ma ml.length mc]), (w.heap.size + 1, 28, #[.int .i64 st, .int .i64 sl, .slice da dl.length dc])]) := (((Bx.nil w).new (b := w.heap.size) #[.int .i64 nodes, .int .i64 slot, .int .i64 gap, .int .i64 win, .int .i64 drift, .int .i64 delay, .slice ca cl.length cc, .slice ma ml.length mc] 25 (by simp)).new (b := w.heap.size + 1) #[.int .i64 st, .int .i64 sl, .slice da dl.length dc] 28 (by simp))
  go_enter Try.func8, Try.ntmps8
  have cm_0 : ((w.alloc (.cells #[.int .i64 nodes, .int .i64 slot, .int .i64 gap, .int .i64 win, .int .i64 drift, .int .i64 delay, .slice ca cl.length cc, .slice ma ml.length mc] 25)).alloc (.cells #[.int .i64 st, .int .i64 sl, .slice da dl.length dc] 28)).cell? ⟨w.heap.size, 0, none⟩ = some (.int .i64 nodes) := HJ.out.at 0 0 rfl rfl; have cm_1 : ((w.alloc (.cells #[.int .i64 nodes, .int .i64 slot, .int .i64 gap, .int .i64 win, .int .i64 drift, .int .i64 delay, .slice ca cl.length cc, .slice ma ml.length mc] 25)).alloc (.cells #[.int .i64 st, .int .i64 sl, .slice da dl.length dc] 28)).cell? ⟨w.heap.size, 1, none⟩ = some (.int .i64 slot) := HJ.out.at 0 1 rfl rfl; have cm_2 : ((w.alloc (.cells #[.int .i64 nodes, .int .i64 slot, .int .i64 gap, .int .i64 win, .int .i64 drift, .int .i64 delay, .slice ca cl.length cc, .slice ma ml.length mc] 25)).alloc (.cells #[.int .i64 st, .int .i64 sl, .slice da dl.length dc] 28)).cell? ⟨w.heap.size, 2, none⟩ = some (.int .i64 gap) := HJ.out.at 0 2 rfl rfl; have cm_3 : ((w.alloc (.cells #[.int .i64 nodes, .int .i64 slot, .int .i64 gap, .int .i64 win, .int .i64 drift, .int .i64 delay, .slice ca cl.length cc, .slice ma ml.length mc] 25)).alloc (.cells #[.int .i64 st, .int .i64 sl, .slice da dl.length dc] 28)).cell? ⟨w.heap.size, 3, none⟩ = some (.int .i64 win) := HJ.out.at 0 3 rfl rfl; have cm_4 : ((w.alloc (.cells #[.int .i64 nodes, .int .i64 slot, .int .i64 gap, .int .i64 win, .int .i64 drift, .int .i64 delay, .slice ca cl.length cc, .slice ma ml.length mc] 25)).alloc (.cells #[.int .i64 st, .int .i64 sl, .slice da dl.length dc] 28)).cell? ⟨w.heap.size, 4, none⟩ = some (.int .i64 drift) := HJ.out.at 0 4 rfl rfl; have cm_5 : ((w.alloc (.cells #[.int .i64 nodes, .int .i64 slot, .int .i64 gap, .int .i64 win, .int .i64 drift, .int .i64 delay, .slice ca cl.length cc, .slice ma ml.length mc] 25)).alloc (.cells #[.int .i64 st, .int .i64 sl, .slice da dl.length dc] 28)).cell? ⟨w.heap.size, 5, none⟩ = some (.int .i64 delay) := HJ.out.at 0 5 rfl rfl; have cm_6 : ((w.alloc (.cells #[.int .i64 nodes, .int .i64 slot, .int .i64 gap, .int .i64 win, .int .i64 drift, .int .i64 delay, .slice ca cl.length cc, .slice ma ml.length mc] 25)).alloc (.cells #[.int .i64 st, .int .i64 sl, .slice da dl.length dc] 28)).cell? ⟨w.heap.size, 6, none⟩ = some (.slice ca cl.length cc) := HJ.out.at 0 6 rfl rfl; have cm_7 : ((w.alloc (.cells #[.int .i64 nodes, .int .i64 slot, .int .i64 gap, .int .i64 win, .int .i64 drift, .int .i64 delay, .slice ca cl.length cc, .slice ma ml.length mc] 25)).alloc (.cells #[.int .i64 st, .int .i64 sl, .slice da dl.length dc] 28)).cell? ⟨w.heap.size, 7, none⟩ = some (.slice ma ml.length mc) := HJ.out.at 0 7 rfl rfl; have cc_0 : ((w.alloc (.cells #[.int .i64 nodes, .int .i64 slot, .int .i64 gap, .int .i64 win, .int .i64 drift, .int .i64 delay, .slice ca cl.length cc, .slice ma ml.length mc] 25)).alloc (.cells #[.int .i64 st, .int .i64 sl, .slice da dl.length dc] 28)).cell? ⟨w.heap.size + 1, 0, none⟩ = some (.int .i64 st) := HJ.out.at 1 0 rfl rfl; have cc_1 : ((w.alloc (.cells #[.int .i64 nodes, .int .i64 slot, .int .i64 gap, .int .i64 win, .int .i64 drift, .int .i64 delay, .slice ca cl.length cc, .slice ma ml.length mc] 25)).alloc (.cells #[.int .i64 st, .int .i64 sl, .slice da dl.length dc] 28)).cell? ⟨w.heap.size + 1, 1, none⟩ = some (.int .i64 sl) := HJ.out.at 1 1 rfl rfl; have cc_2 : ((w.alloc (.cells #[.int .i64 nodes, .int .i64 slot, .int .i64 gap, .int .i64 win, .int .i64 drift, .int .i64 delay, .slice ca cl.length cc, .slice ma ml.length mc] 25)).alloc (.cells #[.int .i64 st, .int .i64 sl, .slice da dl.length dc] 28)).cell? ⟨w.heap.size + 1, 2, none⟩ = some (.slice da dl.length dc) := HJ.out.at 1 2 rfl rfl; have zm : w.heap.size < ((w.alloc (.cells #[.int .i64 nodes, .int .i64 slot, .int .i64 gap, .int .i64 win, .int .i64 drift, .int .i64 delay, .slice ca cl.length cc, .slice ma ml.length mc] 25)).alloc (.cells #[.int .i64 st, .int .i64 sl, .slice da dl.length dc] 28)).heap.size := HJ.out.lt 0 rfl; have zc : w.heap.size + 1 < ((w.alloc (.cells #[.int .i64 nodes, .int .i64 slot, .int .i64 gap, .int .i64 win, .int .i64 drift, .int .i64 delay, .slice ca cl.length cc, .slice ma ml.length mc] 25)).alloc (.cells #[.int .i64 st, .int .i64 sl, .slice da dl.length dc] 28)).heap.size := HJ.out.lt 1 rfl
  go_wp2_with fail
  refine (hcl ((w.alloc (.cells #[.int .i64 nodes, .int .i64 slot, .int .i64 gap, .int .i64 win, .int .i64 drift, .int .i64 delay, .slice ca cl.length cc, .slice ma ml.length mc] 25)).alloc (.cells #[.int .i64 st, .int .i64 sl, .slice da dl.length dc] 28)) HJ.out.2).mono ?_
  rintro e w1 ⟨⟨v0, rfl, ho⟩, hb⟩
  clear cm_0 cm_1 cm_2 cm_3 cm_4 cm_5 cm_6 cm_7 cc_0 cc_1 cc_2 zm zc
  replace HJ := Lib.hid (HJ.out.keep hb)
  have hbw := fun b h => (ho.lt b h).2
  obtain ⟨oa, oc, rfl, _⟩ := owns_shape ho
  have HW : Hid (Ints w1 (.slice oa dl.length oc) dl) := Ints.of_owns ho HLN.out HBD.out
  have HBW : Hid (∀ p, oa = some p → p.block < w1.heap.size) := fun p hp => hbw _ (by simp [Value.ownBlock, hp])
  clear ho hbw hcl HLN HBD
  clear hb
  have cm_0 : w1.cell? ⟨w.heap.size, 0, none⟩ = some (.int .i64 nodes) := HJ.out.at 0 0 rfl rfl; have cm_1 : w1.cell? ⟨w.heap.size, 1, none⟩ = some (.int .i64 slot) := HJ.out.at 0 1 rfl rfl; have cm_2 : w1.cell? ⟨w.heap.size, 2, none⟩ = some (.int .i64 gap) := HJ.out.at 0 2 rfl rfl; have cm_3 : w1.cell? ⟨w.heap.size, 3, none⟩ = some (.int .i64 win) := HJ.out.at 0 3 rfl rfl; have cm_4 : w1.cell? ⟨w.heap.size, 4, none⟩ = some (.int .i64 drift) := HJ.out.at 0 4 rfl rfl; have cm_5 : w1.cell? ⟨w.heap.size, 5, none⟩ = some (.int .i64 delay) := HJ.out.at 0 5 rfl rfl; have cm_6 : w1.cell? ⟨w.heap.size, 6, none⟩ = some (.slice ca cl.length cc) := HJ.out.at 0 6 rfl rfl; have cm_7 : w1.cell? ⟨w.heap.size, 7, none⟩ = some (.slice ma ml.length mc) := HJ.out.at 0 7 rfl rfl; have cc_0 : w1.cell? ⟨w.heap.size + 1, 0, none⟩ = some (.int .i64 st) := HJ.out.at 1 0 rfl rfl; have cc_1 : w1.cell? ⟨w.heap.size + 1, 1, none⟩ = some (.int .i64 sl) := HJ.out.at 1 1 rfl rfl; have cc_2 : w1.cell? ⟨w.heap.size + 1, 2, none⟩ = some (.slice da dl.length dc) := HJ.out.at 1 2 rfl rfl; have zm : w.heap.size < w1.heap.size := HJ.out.lt 0 rfl; have zc : w.heap.size + 1 < w1.heap.size := HJ.out.lt 1 rfl
  go_wp2_with fail
  refine (hse w1 HJ.out.2).mono ?_
  rintro e w2 ⟨⟨⟨us0, us1, usa, usc, usl⟩, rfl, hcu, hu0, hu1, hu2, hfr⟩, hb⟩
  clear cm_0 cm_1 cm_2 cm_3 cm_4 cm_5 cm_6 cm_7 cc_0 cc_1 cc_2 zm zc
  replace HJ := Lib.hid (HJ.out.keep hb)
  replace HW := Lib.hid (HW.out.below hb)
  simp only at hu0 hu1 hu2 hfr
  have hu0 := hu0.symm
  have hu1 := hu1.symm
  have hu2 := hu2.symm
  subst hu0 hu1 hu2
  have HGus := Lib.hid hcu
  replace HBW : Hid (∀ p, oa = some p → p.block < w2.heap.size) := fun p hp => by have := HBW.out p hp; have := hb.size; omega
  clear hcu hfr hse
  unfold clv
  clear hb
  have cm_0 : w2.cell? ⟨w.heap.size, 0, none⟩ = some (.int .i64 nodes) := HJ.out.at 0 0 rfl rfl; have cm_1 : w2.cell? ⟨w.heap.size, 1, none⟩ = some (.int .i64 slot) := HJ.out.at 0 1 rfl rfl; have cm_2 : w2.cell? ⟨w.heap.size, 2, none⟩ = some (.int .i64 gap) := HJ.out.at 0 2 rfl rfl; have cm_3 : w2.cell? ⟨w.heap.size, 3, none⟩ = some (.int .i64 win) := HJ.out.at 0 3 rfl rfl; have cm_4 : w2.cell? ⟨w.heap.size, 4, none⟩ = some (.int .i64 drift) := HJ.out.at 0 4 rfl rfl; have cm_5 : w2.cell? ⟨w.heap.size, 5, none⟩ = some (.int .i64 delay) := HJ.out.at 0 5 rfl rfl; have cm_6 : w2.cell? ⟨w.heap.size, 6, none⟩ = some (.slice ca cl.length cc) := HJ.out.at 0 6 rfl rfl; have cm_7 : w2.cell? ⟨w.heap.size, 7, none⟩ = some (.slice ma ml.length mc) := HJ.out.at 0 7 rfl rfl; have cc_0 : w2.cell? ⟨w.heap.size + 1, 0, none⟩ = some (.int .i64 st) := HJ.out.at 1 0 rfl rfl; have cc_1 : w2.cell? ⟨w.heap.size + 1, 1, none⟩ = some (.int .i64 sl) := HJ.out.at 1 1 rfl rfl; have cc_2 : w2.cell? ⟨w.heap.size + 1, 2, none⟩ = some (.slice da dl.length dc) := HJ.out.at 1 2 rfl rfl; have zm : w.heap.size < w2.heap.size := HJ.out.lt 0 rfl; have zc : w.heap.size + 1 < w2.heap.size := HJ.out.lt 1 rfl
  have l4_0 : w.heap.size < w2.heap.size := HJ.out.lt 0 rfl
  have l4_1 : w.heap.size + 1 < w2.heap.size := HJ.out.lt 1 rfl
  have HJ2 : Hid (Bx w (w2.alloc (.cells #[.int .i64 s0, .int .i64 s1, .slice usa s2.length usc] 28)) [(w.heap.size, 25, #[.int .i64 nodes, .int .i64 slot, .int .i64 gap, .int .i64 win, .int .i64 drift, .int .i64 delay, .slice ca cl.length cc, .slice ma ml.length mc]), (w.heap.size + 1, 28, #[.int .i64 st, .int .i64 sl, .slice da dl.length dc]), (w2.heap.size, 28, #[.int .i64 s0, .int .i64 s1, .slice usa s2.length usc])]) := (HJ.out.new (b := w2.heap.size) #[.int .i64 s0, .int .i64 s1, .slice usa s2.length usc] 28 (by simp))
  replace HW := Lib.hid (HW.out.below (below1 w2 (.cells #[.int .i64 s0, .int .i64 s1, .slice usa s2.length usc] 28)))
  replace HGus := Lib.hid (HGus.out.below (below1 w2 (.cells #[.int .i64 s0, .int .i64 s1, .slice usa s2.length usc] 28)))
  go_upto_region 3 with fail
  clear cm_0 cm_1 cm_2 cm_3 cm_4 cm_5 cm_6 cm_7 cc_0 cc_1 cc_2 zm zc
  clear HJ
  have HJ := HJ2
  clear HJ2
  generalize (w2.alloc (.cells #[.int .i64 s0, .int .i64 s1, .slice usa s2.length usc] 28)) = w5 at *
  generalize w2.heap.size = b6 at *
  have cm_0 : w5.cell? ⟨w.heap.size, 0, none⟩ = some (.int .i64 nodes) := HJ.out.at 0 0 rfl rfl; have cm_1 : w5.cell? ⟨w.heap.size, 1, none⟩ = some (.int .i64 slot) := HJ.out.at 0 1 rfl rfl; have cm_2 : w5.cell? ⟨w.heap.size, 2, none⟩ = some (.int .i64 gap) := HJ.out.at 0 2 rfl rfl; have cm_3 : w5.cell? ⟨w.heap.size, 3, none⟩ = some (.int .i64 win) := HJ.out.at 0 3 rfl rfl; have cm_4 : w5.cell? ⟨w.heap.size, 4, none⟩ = some (.int .i64 drift) := HJ.out.at 0 4 rfl rfl; have cm_5 : w5.cell? ⟨w.heap.size, 5, none⟩ = some (.int .i64 delay) := HJ.out.at 0 5 rfl rfl; have cm_6 : w5.cell? ⟨w.heap.size, 6, none⟩ = some (.slice ca cl.length cc) := HJ.out.at 0 6 rfl rfl; have cm_7 : w5.cell? ⟨w.heap.size, 7, none⟩ = some (.slice ma ml.length mc) := HJ.out.at 0 7 rfl rfl; have cc_0 : w5.cell? ⟨w.heap.size + 1, 0, none⟩ = some (.int .i64 st) := HJ.out.at 1 0 rfl rfl; have cc_1 : w5.cell? ⟨w.heap.size + 1, 1, none⟩ = some (.int .i64 sl) := HJ.out.at 1 1 rfl rfl; have cc_2 : w5.cell? ⟨w.heap.size + 1, 2, none⟩ = some (.slice da dl.length dc) := HJ.out.at 1 2 rfl rfl; have cx_0 : w5.cell? ⟨b6, 0, none⟩ = some (.int .i64 s0) := HJ.out.at 2 0 rfl rfl; have cx_1 : w5.cell? ⟨b6, 1, none⟩ = some (.int .i64 s1) := HJ.out.at 2 1 rfl rfl; have cx_2 : w5.cell? ⟨b6, 2, none⟩ = some (.slice usa s2.length usc) := HJ.out.at 2 2 rfl rfl; have zm : w.heap.size < w5.heap.size := HJ.out.lt 0 rfl; have zc : w.heap.size + 1 < w5.heap.size := HJ.out.lt 1 rfl; have zx : b6 < w5.heap.size := HJ.out.lt 2 rfl
  go_wp2_with fail
  refine (hrs w5 HJ.out.2).mono ?_
  rintro e w7 ⟨⟨⟨vs0, vs1, vsa, vsc, vsl⟩, rfl, hcu, hu0, hu1, hu2, hfr⟩, hb⟩
  clear cm_0 cm_1 cm_2 cm_3 cm_4 cm_5 cm_6 cm_7 cc_0 cc_1 cc_2 cx_0 cx_1 cx_2 zm zc zx
  replace HJ := Lib.hid (HJ.out.keep hb)
  replace HW := Lib.hid (HW.out.below hb)
  replace HGus := Lib.hid (HGus.out.below hb)
  simp only at hu0 hu1 hu2 hfr
  have hu0 := hu0.symm
  have hu1 := hu1.symm
  have hu2 := hu2.symm
  subst hu0 hu1 hu2
  have HGvs := Lib.hid hcu
  clear hcu hfr hrs
  unfold clv
  clear hb
  have cm_0 : w7.cell? ⟨w.heap.size, 0, none⟩ = some (.int .i64 nodes) := HJ.out.at 0 0 rfl rfl; have cm_1 : w7.cell? ⟨w.heap.size, 1, none⟩ = some (.int .i64 slot) := HJ.out.at 0 1 rfl rfl; have cm_2 : w7.cell? ⟨w.heap.size, 2, none⟩ = some (.int .i64 gap) := HJ.out.at 0 2 rfl rfl; have cm_3 : w7.cell? ⟨w.heap.size, 3, none⟩ = some (.int .i64 win) := HJ.out.at 0 3 rfl rfl; have cm_4 : w7.cell? ⟨w.heap.size, 4, none⟩ = some (.int .i64 drift) := HJ.out.at 0 4 rfl rfl; have cm_5 : w7.cell? ⟨w.heap.size, 5, none⟩ = some (.int .i64 delay) := HJ.out.at 0 5 rfl rfl; have cm_6 : w7.cell? ⟨w.heap.size, 6, none⟩ = some (.slice ca cl.length cc) := HJ.out.at 0 6 rfl rfl; have cm_7 : w7.cell? ⟨w.heap.size, 7, none⟩ = some (.slice ma ml.length mc) := HJ.out.at 0 7 rfl rfl; have cc_0 : w7.cell? ⟨w.heap.size + 1, 0, none⟩ = some (.int .i64 st) := HJ.out.at 1 0 rfl rfl; have cc_1 : w7.cell? ⟨w.heap.size + 1, 1, none⟩ = some (.int .i64 sl) := HJ.out.at 1 1 rfl rfl; have cc_2 : w7.cell? ⟨w.heap.size + 1, 2, none⟩ = some (.slice da dl.length dc) := HJ.out.at 1 2 rfl rfl; have cx_0 : w7.cell? ⟨b6, 0, none⟩ = some (.int .i64 s0) := HJ.out.at 2 0 rfl rfl; have cx_1 : w7.cell? ⟨b6, 1, none⟩ = some (.int .i64 s1) := HJ.out.at 2 1 rfl rfl; have cx_2 : w7.cell? ⟨b6, 2, none⟩ = some (.slice usa s2.length usc) := HJ.out.at 2 2 rfl rfl; have zm : w.heap.size < w7.heap.size := HJ.out.lt 0 rfl; have zc : w.heap.size + 1 < w7.heap.size := HJ.out.lt 1 rfl; have zx : b6 < w7.heap.size := HJ.out.lt 2 rfl
  have l9_0 : w.heap.size < w7.heap.size := HJ.out.lt 0 rfl
  have l9_1 : w.heap.size + 1 < w7.heap.size := HJ.out.lt 1 rfl
  have l9_2 : b6 < w7.heap.size := HJ.out.lt 2 rfl
  have HJ2 : Hid (Bx w (w7.alloc (.cells #[.int .i64 s0, .int .i64 s1, .slice vsa s2.length vsc] 28)) [(w.heap.size, 25, #[.int .i64 nodes, .int .i64 slot, .int .i64 gap, .int .i64 win, .int .i64 drift, .int .i64 delay, .slice ca cl.length cc, .slice ma ml.length mc]), (w.heap.size + 1, 28, #[.int .i64 st, .int .i64 sl, .slice da dl.length dc]), (b6, 28, #[.int .i64 s0, .int .i64 s1, .slice usa s2.length usc]), (w7.heap.size, 28, #[.int .i64 s0, .int .i64 s1, .slice vsa s2.length vsc])]) := (HJ.out.new (b := w7.heap.size) #[.int .i64 s0, .int .i64 s1, .slice vsa s2.length vsc] 28 (by simp))
  replace HW := Lib.hid (HW.out.below (below1 w7 (.cells #[.int .i64 s0, .int .i64 s1, .slice vsa s2.length vsc] 28)))
  replace HGus := Lib.hid (HGus.out.below (below1 w7 (.cells #[.int .i64 s0, .int .i64 s1, .slice vsa s2.length vsc] 28)))
  replace HGvs := Lib.hid (HGvs.out.below (below1 w7 (.cells #[.int .i64 s0, .int .i64 s1, .slice vsa s2.length vsc] 28)))
  go_upto_region 4 with fail
  clear cm_0 cm_1 cm_2 cm_3 cm_4 cm_5 cm_6 cm_7 cc_0 cc_1 cc_2 cx_0 cx_1 cx_2 zm zc zx
  clear HJ
  have HJ := HJ2
  clear HJ2
  generalize (w7.alloc (.cells #[.int .i64 s0, .int .i64 s1, .slice vsa s2.length vsc] 28)) = w10 at *
  generalize w7.heap.size = b11 at *
  have cm_0 : w10.cell? ⟨w.heap.size, 0, none⟩ = some (.int .i64 nodes) := HJ.out.at 0 0 rfl rfl; have cm_1 : w10.cell? ⟨w.heap.size, 1, none⟩ = some (.int .i64 slot) := HJ.out.at 0 1 rfl rfl; have cm_2 : w10.cell? ⟨w.heap.size, 2, none⟩ = some (.int .i64 gap) := HJ.out.at 0 2 rfl rfl; have cm_3 : w10.cell? ⟨w.heap.size, 3, none⟩ = some (.int .i64 win) := HJ.out.at 0 3 rfl rfl; have cm_4 : w10.cell? ⟨w.heap.size, 4, none⟩ = some (.int .i64 drift) := HJ.out.at 0 4 rfl rfl; have cm_5 : w10.cell? ⟨w.heap.size, 5, none⟩ = some (.int .i64 delay) := HJ.out.at 0 5 rfl rfl; have cm_6 : w10.cell? ⟨w.heap.size, 6, none⟩ = some (.slice ca cl.length cc) := HJ.out.at 0 6 rfl rfl; have cm_7 : w10.cell? ⟨w.heap.size, 7, none⟩ = some (.slice ma ml.length mc) := HJ.out.at 0 7 rfl rfl; have cc_0 : w10.cell? ⟨w.heap.size + 1, 0, none⟩ = some (.int .i64 st) := HJ.out.at 1 0 rfl rfl; have cc_1 : w10.cell? ⟨w.heap.size + 1, 1, none⟩ = some (.int .i64 sl) := HJ.out.at 1 1 rfl rfl; have cc_2 : w10.cell? ⟨w.heap.size + 1, 2, none⟩ = some (.slice da dl.length dc) := HJ.out.at 1 2 rfl rfl; have cx_0 : w10.cell? ⟨b6, 0, none⟩ = some (.int .i64 s0) := HJ.out.at 2 0 rfl rfl; have cx_1 : w10.cell? ⟨b6, 1, none⟩ = some (.int .i64 s1) := HJ.out.at 2 1 rfl rfl; have cx_2 : w10.cell? ⟨b6, 2, none⟩ = some (.slice usa s2.length usc) := HJ.out.at 2 2 rfl rfl; have cy_0 : w10.cell? ⟨b11, 0, none⟩ = some (.int .i64 s0) := HJ.out.at 3 0 rfl rfl; have cy_1 : w10.cell? ⟨b11, 1, none⟩ = some (.int .i64 s1) := HJ.out.at 3 1 rfl rfl; have cy_2 : w10.cell? ⟨b11, 2, none⟩ = some (.slice vsa s2.length vsc) := HJ.out.at 3 2 rfl rfl; have zm : w.heap.size < w10.heap.size := HJ.out.lt 0 rfl; have zc : w.heap.size + 1 < w10.heap.size := HJ.out.lt 1 rfl; have zx : b6 < w10.heap.size := HJ.out.lt 2 rfl; have zy : b11 < w10.heap.size := HJ.out.lt 3 rfl
  go_wp2_with fail
  refine (begun_any w10).mono ?_
  rintro e w12 ⟨rfl, hb⟩
  clear cm_0 cm_1 cm_2 cm_3 cm_4 cm_5 cm_6 cm_7 cc_0 cc_1 cc_2 cx_0 cx_1 cx_2 cy_0 cy_1 cy_2 zm zc zx zy
  replace HJ := Lib.hid (HJ.out.keep hb)
  replace HW := Lib.hid (HW.out.below hb)
  replace HGus := Lib.hid (HGus.out.below hb)
  replace HGvs := Lib.hid (HGvs.out.below hb)
  clear hb
  have cm_0 : w12.cell? ⟨w.heap.size, 0, none⟩ = some (.int .i64 nodes) := HJ.out.at 0 0 rfl rfl; have cm_1 : w12.cell? ⟨w.heap.size, 1, none⟩ = some (.int .i64 slot) := HJ.out.at 0 1 rfl rfl; have cm_2 : w12.cell? ⟨w.heap.size, 2, none⟩ = some (.int .i64 gap) := HJ.out.at 0 2 rfl rfl; have cm_3 : w12.cell? ⟨w.heap.size, 3, none⟩ = some (.int .i64 win) := HJ.out.at 0 3 rfl rfl; have cm_4 : w12.cell? ⟨w.heap.size, 4, none⟩ = some (.int .i64 drift) := HJ.out.at 0 4 rfl rfl; have cm_5 : w12.cell? ⟨w.heap.size, 5, none⟩ = some (.int .i64 delay) := HJ.out.at 0 5 rfl rfl; have cm_6 : w12.cell? ⟨w.heap.size, 6, none⟩ = some (.slice ca cl.length cc) := HJ.out.at 0 6 rfl rfl; have cm_7 : w12.cell? ⟨w.heap.size, 7, none⟩ = some (.slice ma ml.length mc) := HJ.out.at 0 7 rfl rfl; have cc_0 : w12.cell? ⟨w.heap.size + 1, 0, none⟩ = some (.int .i64 st) := HJ.out.at 1 0 rfl rfl; have cc_1 : w12.cell? ⟨w.heap.size + 1, 1, none⟩ = some (.int .i64 sl) := HJ.out.at 1 1 rfl rfl; have cc_2 : w12.cell? ⟨w.heap.size + 1, 2, none⟩ = some (.slice da dl.length dc) := HJ.out.at 1 2 rfl rfl; have cx_0 : w12.cell? ⟨b6, 0, none⟩ = some (.int .i64 s0) := HJ.out.at 2 0 rfl rfl; have cx_1 : w12.cell? ⟨b6, 1, none⟩ = some (.int .i64 s1) := HJ.out.at 2 1 rfl rfl; have cx_2 : w12.cell? ⟨b6, 2, none⟩ = some (.slice usa s2.length usc) := HJ.out.at 2 2 rfl rfl; have cy_0 : w12.cell? ⟨b11, 0, none⟩ = some (.int .i64 s0) := HJ.out.at 3 0 rfl rfl; have cy_1 : w12.cell? ⟨b11, 1, none⟩ = some (.int .i64 s1) := HJ.out.at 3 1 rfl rfl; have cy_2 : w12.cell? ⟨b11, 2, none⟩ = some (.slice vsa s2.length vsc) := HJ.out.at 3 2 rfl rfl; have zm : w.heap.size < w12.heap.size := HJ.out.lt 0 rfl; have zc : w.heap.size + 1 < w12.heap.size := HJ.out.lt 1 rfl; have zx : b6 < w12.heap.size := HJ.out.lt 2 rfl; have zy : b11 < w12.heap.size := HJ.out.lt 3 rfl
  go_wp2_with fail
  refine (HSA.out _ _ w12 HGus.out HGvs.out).mono ?_
  rintro e w13 ⟨rfl, hb⟩
  clear cm_0 cm_1 cm_2 cm_3 cm_4 cm_5 cm_6 cm_7 cc_0 cc_1 cc_2 cx_0 cx_1 cx_2 cy_0 cy_1 cy_2 zm zc zx zy
  replace HJ := Lib.hid (HJ.out.keep hb)
  replace HW := Lib.hid (HW.out.below hb)
  rw [show sameB ⟨s0, s1, usa, usc, s2⟩ ⟨s0, s1, vsa, vsc, s2⟩ = true by simp [sameB]]
  clear HGus HGvs
  clear hb
  have qx : b6 < w13.heap.size := HJ.out.lt 2 rfl
  have qy : b11 < w13.heap.size := HJ.out.lt 3 rfl
  have cm_0 : w13.cell? ⟨w.heap.size, 0, none⟩ = some (.int .i64 nodes) := HJ.out.at 0 0 rfl rfl; have cm_1 : w13.cell? ⟨w.heap.size, 1, none⟩ = some (.int .i64 slot) := HJ.out.at 0 1 rfl rfl; have cm_2 : w13.cell? ⟨w.heap.size, 2, none⟩ = some (.int .i64 gap) := HJ.out.at 0 2 rfl rfl; have cm_3 : w13.cell? ⟨w.heap.size, 3, none⟩ = some (.int .i64 win) := HJ.out.at 0 3 rfl rfl; have cm_4 : w13.cell? ⟨w.heap.size, 4, none⟩ = some (.int .i64 drift) := HJ.out.at 0 4 rfl rfl; have cm_5 : w13.cell? ⟨w.heap.size, 5, none⟩ = some (.int .i64 delay) := HJ.out.at 0 5 rfl rfl; have cm_6 : w13.cell? ⟨w.heap.size, 6, none⟩ = some (.slice ca cl.length cc) := HJ.out.at 0 6 rfl rfl; have cm_7 : w13.cell? ⟨w.heap.size, 7, none⟩ = some (.slice ma ml.length mc) := HJ.out.at 0 7 rfl rfl; have cc_0 : w13.cell? ⟨w.heap.size + 1, 0, none⟩ = some (.int .i64 st) := HJ.out.at 1 0 rfl rfl; have cc_1 : w13.cell? ⟨w.heap.size + 1, 1, none⟩ = some (.int .i64 sl) := HJ.out.at 1 1 rfl rfl; have cc_2 : w13.cell? ⟨w.heap.size + 1, 2, none⟩ = some (.slice da dl.length dc) := HJ.out.at 1 2 rfl rfl; have cx_0 : w13.cell? ⟨b6, 0, none⟩ = some (.int .i64 s0) := HJ.out.at 2 0 rfl rfl; have cx_1 : w13.cell? ⟨b6, 1, none⟩ = some (.int .i64 s1) := HJ.out.at 2 1 rfl rfl; have cx_2 : w13.cell? ⟨b6, 2, none⟩ = some (.slice usa s2.length usc) := HJ.out.at 2 2 rfl rfl; have cy_0 : w13.cell? ⟨b11, 0, none⟩ = some (.int .i64 s0) := HJ.out.at 3 0 rfl rfl; have cy_1 : w13.cell? ⟨b11, 1, none⟩ = some (.int .i64 s1) := HJ.out.at 3 1 rfl rfl; have cy_2 : w13.cell? ⟨b11, 2, none⟩ = some (.slice vsa s2.length vsc) := HJ.out.at 3 2 rfl rfl; have zm : w.heap.size < w13.heap.size := HJ.out.lt 0 rfl; have zc : w.heap.size + 1 < w13.heap.size := HJ.out.lt 1 rfl; have zx : b6 < w13.heap.size := HJ.out.lt 2 rfl; have zy : b11 < w13.heap.size := HJ.out.lt 3 rfl
  go_wp2_with fail
  refine (hnx w13 HJ.out.2).mono ?_
  rintro e w14 ⟨⟨⟨un0, un1, una, unc, unl⟩, rfl, hcu, hu0, hu1, hu2, hfr⟩, hb⟩
  clear cm_0 cm_1 cm_2 cm_3 cm_4 cm_5 cm_6 cm_7 cc_0 cc_1 cc_2 cx_0 cx_1 cx_2 cy_0 cy_1 cy_2 zm zc zx zy
  replace HJ := Lib.hid (HJ.out.keep hb)
  replace HW := Lib.hid (HW.out.below hb)
  simp only at hu0 hu1 hu2 hfr
  have hu0 := hu0.symm
  have hu1 := hu1.symm
  have hu2 := hu2.symm
  subst hu0 hu1 hu2
  have HGun := Lib.hid hcu
  have HNun : Hid (∀ p, una = some p → p.block ≠ b6 ∧ p.block ≠ b11) := fun p hp => by have := hfr p hp; omega
  clear qx qy
  clear hcu hfr hnx
  unfold clv
  clear hb
  have cm_0 : w14.cell? ⟨w.heap.size, 0, none⟩ = some (.int .i64 nodes) := HJ.out.at 0 0 rfl rfl; have cm_1 : w14.cell? ⟨w.heap.size, 1, none⟩ = some (.int .i64 slot) := HJ.out.at 0 1 rfl rfl; have cm_2 : w14.cell? ⟨w.heap.size, 2, none⟩ = some (.int .i64 gap) := HJ.out.at 0 2 rfl rfl; have cm_3 : w14.cell? ⟨w.heap.size, 3, none⟩ = some (.int .i64 win) := HJ.out.at 0 3 rfl rfl; have cm_4 : w14.cell? ⟨w.heap.size, 4, none⟩ = some (.int .i64 drift) := HJ.out.at 0 4 rfl rfl; have cm_5 : w14.cell? ⟨w.heap.size, 5, none⟩ = some (.int .i64 delay) := HJ.out.at 0 5 rfl rfl; have cm_6 : w14.cell? ⟨w.heap.size, 6, none⟩ = some (.slice ca cl.length cc) := HJ.out.at 0 6 rfl rfl; have cm_7 : w14.cell? ⟨w.heap.size, 7, none⟩ = some (.slice ma ml.length mc) := HJ.out.at 0 7 rfl rfl; have cc_0 : w14.cell? ⟨w.heap.size + 1, 0, none⟩ = some (.int .i64 st) := HJ.out.at 1 0 rfl rfl; have cc_1 : w14.cell? ⟨w.heap.size + 1, 1, none⟩ = some (.int .i64 sl) := HJ.out.at 1 1 rfl rfl; have cc_2 : w14.cell? ⟨w.heap.size + 1, 2, none⟩ = some (.slice da dl.length dc) := HJ.out.at 1 2 rfl rfl; have cx_0 : w14.cell? ⟨b6, 0, none⟩ = some (.int .i64 s0) := HJ.out.at 2 0 rfl rfl; have cx_1 : w14.cell? ⟨b6, 1, none⟩ = some (.int .i64 s1) := HJ.out.at 2 1 rfl rfl; have cx_2 : w14.cell? ⟨b6, 2, none⟩ = some (.slice usa s2.length usc) := HJ.out.at 2 2 rfl rfl; have cy_0 : w14.cell? ⟨b11, 0, none⟩ = some (.int .i64 s0) := HJ.out.at 3 0 rfl rfl; have cy_1 : w14.cell? ⟨b11, 1, none⟩ = some (.int .i64 s1) := HJ.out.at 3 1 rfl rfl; have cy_2 : w14.cell? ⟨b11, 2, none⟩ = some (.slice vsa s2.length vsc) := HJ.out.at 3 2 rfl rfl; have fx_0 : w14.frozen? ⟨b6, 0, none⟩ = false := HJ.out.fz 2 0 rfl; have fx_1 : w14.frozen? ⟨b6, 1, none⟩ = false := HJ.out.fz 2 1 rfl; have fx_2 : w14.frozen? ⟨b6, 2, none⟩ = false := HJ.out.fz 2 2 rfl; have zm : w.heap.size < w14.heap.size := HJ.out.lt 0 rfl; have zc : w.heap.size + 1 < w14.heap.size := HJ.out.lt 1 rfl; have zx : b6 < w14.heap.size := HJ.out.lt 2 rfl; have zy : b11 < w14.heap.size := HJ.out.lt 3 rfl
  have HJ2 : Hid (Bx w (((w14.setCell ⟨b6, 0, none⟩ (.int .i64 n0)).setCell ⟨b6, 1, none⟩ (.int .i64 n1)).setCell ⟨b6, 2, none⟩ (.slice una n2.length unc)) [(w.heap.size, 25, #[.int .i64 nodes, .int .i64 slot, .int .i64 gap, .int .i64 win, .int .i64 drift, .int .i64 delay, .slice ca cl.length cc, .slice ma ml.length mc]), (w.heap.size + 1, 28, #[.int .i64 st, .int .i64 sl, .slice da dl.length dc]), (b6, 28, #[.int .i64 n0, .int .i64 n1, .slice una n2.length unc]), (b11, 28, #[.int .i64 s0, .int .i64 s1, .slice vsa s2.length vsc])]) := (((HJ.out.set 2 rfl (by simp <;> omega) (by omega) 0 (.int .i64 n0)).set 2 rfl (by simp <;> omega) (by omega) 1 (.int .i64 n1)).set 2 rfl (by simp <;> omega) (by omega) 2 (.slice una n2.length unc))
  replace HW := Lib.hid (HW.out.far3 (b := b6) (fun p hp => by have := HBW.out p hp; omega) (.int .i64 n0) (.int .i64 n1) (.slice una n2.length unc))
  replace HGun := Lib.hid (HGun.out.far3 (b := b6) (fun p hp => (HNun.out p hp).1) (.int .i64 n0) (.int .i64 n1) (.slice una n2.length unc))
  go_upto_region 7 with fail
  clear cm_0 cm_1 cm_2 cm_3 cm_4 cm_5 cm_6 cm_7 cc_0 cc_1 cc_2 cx_0 cx_1 cx_2 cy_0 cy_1 cy_2 fx_0 fx_1 fx_2 zm zc zx zy
  clear HJ
  have HJ := HJ2
  clear HJ2
  generalize (((w14.setCell ⟨b6, 0, none⟩ (.int .i64 n0)).setCell ⟨b6, 1, none⟩ (.int .i64 n1)).setCell ⟨b6, 2, none⟩ (.slice una n2.length unc)) = w15 at *
  have qx : b6 < w15.heap.size := HJ.out.lt 2 rfl
  have qy : b11 < w15.heap.size := HJ.out.lt 3 rfl
  have cm_0 : w15.cell? ⟨w.heap.size, 0, none⟩ = some (.int .i64 nodes) := HJ.out.at 0 0 rfl rfl; have cm_1 : w15.cell? ⟨w.heap.size, 1, none⟩ = some (.int .i64 slot) := HJ.out.at 0 1 rfl rfl; have cm_2 : w15.cell? ⟨w.heap.size, 2, none⟩ = some (.int .i64 gap) := HJ.out.at 0 2 rfl rfl; have cm_3 : w15.cell? ⟨w.heap.size, 3, none⟩ = some (.int .i64 win) := HJ.out.at 0 3 rfl rfl; have cm_4 : w15.cell? ⟨w.heap.size, 4, none⟩ = some (.int .i64 drift) := HJ.out.at 0 4 rfl rfl; have cm_5 : w15.cell? ⟨w.heap.size, 5, none⟩ = some (.int .i64 delay) := HJ.out.at 0 5 rfl rfl; have cm_6 : w15.cell? ⟨w.heap.size, 6, none⟩ = some (.slice ca cl.length cc) := HJ.out.at 0 6 rfl rfl; have cm_7 : w15.cell? ⟨w.heap.size, 7, none⟩ = some (.slice ma ml.length mc) := HJ.out.at 0 7 rfl rfl; have cc_0 : w15.cell? ⟨w.heap.size + 1, 0, none⟩ = some (.int .i64 st) := HJ.out.at 1 0 rfl rfl; have cc_1 : w15.cell? ⟨w.heap.size + 1, 1, none⟩ = some (.int .i64 sl) := HJ.out.at 1 1 rfl rfl; have cc_2 : w15.cell? ⟨w.heap.size + 1, 2, none⟩ = some (.slice da dl.length dc) := HJ.out.at 1 2 rfl rfl; have cx_0 : w15.cell? ⟨b6, 0, none⟩ = some (.int .i64 n0) := HJ.out.at 2 0 rfl rfl; have cx_1 : w15.cell? ⟨b6, 1, none⟩ = some (.int .i64 n1) := HJ.out.at 2 1 rfl rfl; have cx_2 : w15.cell? ⟨b6, 2, none⟩ = some (.slice una n2.length unc) := HJ.out.at 2 2 rfl rfl; have cy_0 : w15.cell? ⟨b11, 0, none⟩ = some (.int .i64 s0) := HJ.out.at 3 0 rfl rfl; have cy_1 : w15.cell? ⟨b11, 1, none⟩ = some (.int .i64 s1) := HJ.out.at 3 1 rfl rfl; have cy_2 : w15.cell? ⟨b11, 2, none⟩ = some (.slice vsa s2.length vsc) := HJ.out.at 3 2 rfl rfl; have zm : w.heap.size < w15.heap.size := HJ.out.lt 0 rfl; have zc : w.heap.size + 1 < w15.heap.size := HJ.out.lt 1 rfl; have zx : b6 < w15.heap.size := HJ.out.lt 2 rfl; have zy : b11 < w15.heap.size := HJ.out.lt 3 rfl
  go_wp2_with fail
  refine (hrn w15 HJ.out.2).mono ?_
  rintro e w16 ⟨⟨⟨vn0, vn1, vna, vnc, vnl⟩, rfl, hcu, hu0, hu1, hu2, hfr⟩, hb⟩
  clear cm_0 cm_1 cm_2 cm_3 cm_4 cm_5 cm_6 cm_7 cc_0 cc_1 cc_2 cx_0 cx_1 cx_2 cy_0 cy_1 cy_2 zm zc zx zy
  replace HJ := Lib.hid (HJ.out.keep hb)
  replace HW := Lib.hid (HW.out.below hb)
  replace HGun := Lib.hid (HGun.out.below hb)
  simp only at hu0 hu1 hu2 hfr
  have hu0 := hu0.symm
  have hu1 := hu1.symm
  have hu2 := hu2.symm
  subst hu0 hu1 hu2
  have HGvn := Lib.hid hcu
  have HNvn : Hid (∀ p, vna = some p → p.block ≠ b6 ∧ p.block ≠ b11) := fun p hp => by have := hfr p hp; omega
  clear qx qy
  clear hcu hfr hrn
  unfold clv
  clear hb
  have cm_0 : w16.cell? ⟨w.heap.size, 0, none⟩ = some (.int .i64 nodes) := HJ.out.at 0 0 rfl rfl; have cm_1 : w16.cell? ⟨w.heap.size, 1, none⟩ = some (.int .i64 slot) := HJ.out.at 0 1 rfl rfl; have cm_2 : w16.cell? ⟨w.heap.size, 2, none⟩ = some (.int .i64 gap) := HJ.out.at 0 2 rfl rfl; have cm_3 : w16.cell? ⟨w.heap.size, 3, none⟩ = some (.int .i64 win) := HJ.out.at 0 3 rfl rfl; have cm_4 : w16.cell? ⟨w.heap.size, 4, none⟩ = some (.int .i64 drift) := HJ.out.at 0 4 rfl rfl; have cm_5 : w16.cell? ⟨w.heap.size, 5, none⟩ = some (.int .i64 delay) := HJ.out.at 0 5 rfl rfl; have cm_6 : w16.cell? ⟨w.heap.size, 6, none⟩ = some (.slice ca cl.length cc) := HJ.out.at 0 6 rfl rfl; have cm_7 : w16.cell? ⟨w.heap.size, 7, none⟩ = some (.slice ma ml.length mc) := HJ.out.at 0 7 rfl rfl; have cc_0 : w16.cell? ⟨w.heap.size + 1, 0, none⟩ = some (.int .i64 st) := HJ.out.at 1 0 rfl rfl; have cc_1 : w16.cell? ⟨w.heap.size + 1, 1, none⟩ = some (.int .i64 sl) := HJ.out.at 1 1 rfl rfl; have cc_2 : w16.cell? ⟨w.heap.size + 1, 2, none⟩ = some (.slice da dl.length dc) := HJ.out.at 1 2 rfl rfl; have cx_0 : w16.cell? ⟨b6, 0, none⟩ = some (.int .i64 n0) := HJ.out.at 2 0 rfl rfl; have cx_1 : w16.cell? ⟨b6, 1, none⟩ = some (.int .i64 n1) := HJ.out.at 2 1 rfl rfl; have cx_2 : w16.cell? ⟨b6, 2, none⟩ = some (.slice una n2.length unc) := HJ.out.at 2 2 rfl rfl; have cy_0 : w16.cell? ⟨b11, 0, none⟩ = some (.int .i64 s0) := HJ.out.at 3 0 rfl rfl; have cy_1 : w16.cell? ⟨b11, 1, none⟩ = some (.int .i64 s1) := HJ.out.at 3 1 rfl rfl; have cy_2 : w16.cell? ⟨b11, 2, none⟩ = some (.slice vsa s2.length vsc) := HJ.out.at 3 2 rfl rfl; have fy_0 : w16.frozen? ⟨b11, 0, none⟩ = false := HJ.out.fz 3 0 rfl; have fy_1 : w16.frozen? ⟨b11, 1, none⟩ = false := HJ.out.fz 3 1 rfl; have fy_2 : w16.frozen? ⟨b11, 2, none⟩ = false := HJ.out.fz 3 2 rfl; have zm : w.heap.size < w16.heap.size := HJ.out.lt 0 rfl; have zc : w.heap.size + 1 < w16.heap.size := HJ.out.lt 1 rfl; have zx : b6 < w16.heap.size := HJ.out.lt 2 rfl; have zy : b11 < w16.heap.size := HJ.out.lt 3 rfl
  have HJ2 : Hid (Bx w (((w16.setCell ⟨b11, 0, none⟩ (.int .i64 n0)).setCell ⟨b11, 1, none⟩ (.int .i64 n1)).setCell ⟨b11, 2, none⟩ (.slice vna n2.length vnc)) [(w.heap.size, 25, #[.int .i64 nodes, .int .i64 slot, .int .i64 gap, .int .i64 win, .int .i64 drift, .int .i64 delay, .slice ca cl.length cc, .slice ma ml.length mc]), (w.heap.size + 1, 28, #[.int .i64 st, .int .i64 sl, .slice da dl.length dc]), (b6, 28, #[.int .i64 n0, .int .i64 n1, .slice una n2.length unc]), (b11, 28, #[.int .i64 n0, .int .i64 n1, .slice vna n2.length vnc])]) := (((HJ.out.set 3 rfl (by simp <;> omega) (by omega) 0 (.int .i64 n0)).set 3 rfl (by simp <;> omega) (by omega) 1 (.int .i64 n1)).set 3 rfl (by simp <;> omega) (by omega) 2 (.slice vna n2.length vnc))
  replace HW := Lib.hid (HW.out.far3 (b := b11) (fun p hp => by have := HBW.out p hp; omega) (.int .i64 n0) (.int .i64 n1) (.slice vna n2.length vnc))
  replace HGun := Lib.hid (HGun.out.far3 (b := b11) (fun p hp => (HNun.out p hp).2) (.int .i64 n0) (.int .i64 n1) (.slice vna n2.length vnc))
  replace HGvn := Lib.hid (HGvn.out.far3 (b := b11) (fun p hp => (HNvn.out p hp).2) (.int .i64 n0) (.int .i64 n1) (.slice vna n2.length vnc))
  go_upto_region 8 with fail
  clear cm_0 cm_1 cm_2 cm_3 cm_4 cm_5 cm_6 cm_7 cc_0 cc_1 cc_2 cx_0 cx_1 cx_2 cy_0 cy_1 cy_2 fy_0 fy_1 fy_2 zm zc zx zy
  clear HJ
  have HJ := HJ2
  clear HJ2
  generalize (((w16.setCell ⟨b11, 0, none⟩ (.int .i64 n0)).setCell ⟨b11, 1, none⟩ (.int .i64 n1)).setCell ⟨b11, 2, none⟩ (.slice vna n2.length vnc)) = w17 at *
  have cm_0 : w17.cell? ⟨w.heap.size, 0, none⟩ = some (.int .i64 nodes) := HJ.out.at 0 0 rfl rfl; have cm_1 : w17.cell? ⟨w.heap.size, 1, none⟩ = some (.int .i64 slot) := HJ.out.at 0 1 rfl rfl; have cm_2 : w17.cell? ⟨w.heap.size, 2, none⟩ = some (.int .i64 gap) := HJ.out.at 0 2 rfl rfl; have cm_3 : w17.cell? ⟨w.heap.size, 3, none⟩ = some (.int .i64 win) := HJ.out.at 0 3 rfl rfl; have cm_4 : w17.cell? ⟨w.heap.size, 4, none⟩ = some (.int .i64 drift) := HJ.out.at 0 4 rfl rfl; have cm_5 : w17.cell? ⟨w.heap.size, 5, none⟩ = some (.int .i64 delay) := HJ.out.at 0 5 rfl rfl; have cm_6 : w17.cell? ⟨w.heap.size, 6, none⟩ = some (.slice ca cl.length cc) := HJ.out.at 0 6 rfl rfl; have cm_7 : w17.cell? ⟨w.heap.size, 7, none⟩ = some (.slice ma ml.length mc) := HJ.out.at 0 7 rfl rfl; have cc_0 : w17.cell? ⟨w.heap.size + 1, 0, none⟩ = some (.int .i64 st) := HJ.out.at 1 0 rfl rfl; have cc_1 : w17.cell? ⟨w.heap.size + 1, 1, none⟩ = some (.int .i64 sl) := HJ.out.at 1 1 rfl rfl; have cc_2 : w17.cell? ⟨w.heap.size + 1, 2, none⟩ = some (.slice da dl.length dc) := HJ.out.at 1 2 rfl rfl; have cx_0 : w17.cell? ⟨b6, 0, none⟩ = some (.int .i64 n0) := HJ.out.at 2 0 rfl rfl; have cx_1 : w17.cell? ⟨b6, 1, none⟩ = some (.int .i64 n1) := HJ.out.at 2 1 rfl rfl; have cx_2 : w17.cell? ⟨b6, 2, none⟩ = some (.slice una n2.length unc) := HJ.out.at 2 2 rfl rfl; have cy_0 : w17.cell? ⟨b11, 0, none⟩ = some (.int .i64 n0) := HJ.out.at 3 0 rfl rfl; have cy_1 : w17.cell? ⟨b11, 1, none⟩ = some (.int .i64 n1) := HJ.out.at 3 1 rfl rfl; have cy_2 : w17.cell? ⟨b11, 2, none⟩ = some (.slice vna n2.length vnc) := HJ.out.at 3 2 rfl rfl; have zm : w.heap.size < w17.heap.size := HJ.out.lt 0 rfl; have zc : w.heap.size + 1 < w17.heap.size := HJ.out.lt 1 rfl; have zx : b6 < w17.heap.size := HJ.out.lt 2 rfl; have zy : b11 < w17.heap.size := HJ.out.lt 3 rfl
  go_wp2_with fail
  refine (HSA.out _ _ w17 HGun.out HGvn.out).mono ?_
  rintro e w18 ⟨rfl, hb⟩
  clear cm_0 cm_1 cm_2 cm_3 cm_4 cm_5 cm_6 cm_7 cc_0 cc_1 cc_2 cx_0 cx_1 cx_2 cy_0 cy_1 cy_2 zm zc zx zy
  replace HJ := Lib.hid (HJ.out.keep hb)
  replace HW := Lib.hid (HW.out.below hb)
  rw [show sameB ⟨n0, n1, una, unc, n2⟩ ⟨n0, n1, vna, vnc, n2⟩ = true by simp [sameB]]
  clear HGun HGvn
  clear hb
  have qx : b6 < w18.heap.size := HJ.out.lt 2 rfl
  have qy : b11 < w18.heap.size := HJ.out.lt 3 rfl
  have cm_0 : w18.cell? ⟨w.heap.size, 0, none⟩ = some (.int .i64 nodes) := HJ.out.at 0 0 rfl rfl; have cm_1 : w18.cell? ⟨w.heap.size, 1, none⟩ = some (.int .i64 slot) := HJ.out.at 0 1 rfl rfl; have cm_2 : w18.cell? ⟨w.heap.size, 2, none⟩ = some (.int .i64 gap) := HJ.out.at 0 2 rfl rfl; have cm_3 : w18.cell? ⟨w.heap.size, 3, none⟩ = some (.int .i64 win) := HJ.out.at 0 3 rfl rfl; have cm_4 : w18.cell? ⟨w.heap.size, 4, none⟩ = some (.int .i64 drift) := HJ.out.at 0 4 rfl rfl; have cm_5 : w18.cell? ⟨w.heap.size, 5, none⟩ = some (.int .i64 delay) := HJ.out.at 0 5 rfl rfl; have cm_6 : w18.cell? ⟨w.heap.size, 6, none⟩ = some (.slice ca cl.length cc) := HJ.out.at 0 6 rfl rfl; have cm_7 : w18.cell? ⟨w.heap.size, 7, none⟩ = some (.slice ma ml.length mc) := HJ.out.at 0 7 rfl rfl; have cc_0 : w18.cell? ⟨w.heap.size + 1, 0, none⟩ = some (.int .i64 st) := HJ.out.at 1 0 rfl rfl; have cc_1 : w18.cell? ⟨w.heap.size + 1, 1, none⟩ = some (.int .i64 sl) := HJ.out.at 1 1 rfl rfl; have cc_2 : w18.cell? ⟨w.heap.size + 1, 2, none⟩ = some (.slice da dl.length dc) := HJ.out.at 1 2 rfl rfl; have cx_0 : w18.cell? ⟨b6, 0, none⟩ = some (.int .i64 n0) := HJ.out.at 2 0 rfl rfl; have cx_1 : w18.cell? ⟨b6, 1, none⟩ = some (.int .i64 n1) := HJ.out.at 2 1 rfl rfl; have cx_2 : w18.cell? ⟨b6, 2, none⟩ = some (.slice una n2.length unc) := HJ.out.at 2 2 rfl rfl; have cy_0 : w18.cell? ⟨b11, 0, none⟩ = some (.int .i64 n0) := HJ.out.at 3 0 rfl rfl; have cy_1 : w18.cell? ⟨b11, 1, none⟩ = some (.int .i64 n1) := HJ.out.at 3 1 rfl rfl; have cy_2 : w18.cell? ⟨b11, 2, none⟩ = some (.slice vna n2.length vnc) := HJ.out.at 3 2 rfl rfl; have zm : w.heap.size < w18.heap.size := HJ.out.lt 0 rfl; have zc : w.heap.size + 1 < w18.heap.size := HJ.out.lt 1 rfl; have zx : b6 < w18.heap.size := HJ.out.lt 2 rfl; have zy : b11 < w18.heap.size := HJ.out.lt 3 rfl
  go_wp2_with fail
  refine (hjo w18 HJ.out.2).mono ?_
  rintro e w19 ⟨⟨⟨uj0, uj1, uja, ujc, ujl⟩, rfl, hcu, hu0, hu1, hu2, hfr⟩, hb⟩
  clear cm_0 cm_1 cm_2 cm_3 cm_4 cm_5 cm_6 cm_7 cc_0 cc_1 cc_2 cx_0 cx_1 cx_2 cy_0 cy_1 cy_2 zm zc zx zy
  replace HJ := Lib.hid (HJ.out.keep hb)
  replace HW := Lib.hid (HW.out.below hb)
  simp only at hu0 hu1 hu2 hfr
  have hu0 := hu0.symm
  have hu1 := hu1.symm
  have hu2 := hu2.symm
  subst hu0 hu1 hu2
  have HGuj := Lib.hid hcu
  have HNuj : Hid (∀ p, uja = some p → p.block ≠ b6 ∧ p.block ≠ b11) := fun p hp => by have := hfr p hp; omega
  clear qx qy
  clear hcu hfr hjo
  unfold clv
  clear hb
  have cm_0 : w19.cell? ⟨w.heap.size, 0, none⟩ = some (.int .i64 nodes) := HJ.out.at 0 0 rfl rfl; have cm_1 : w19.cell? ⟨w.heap.size, 1, none⟩ = some (.int .i64 slot) := HJ.out.at 0 1 rfl rfl; have cm_2 : w19.cell? ⟨w.heap.size, 2, none⟩ = some (.int .i64 gap) := HJ.out.at 0 2 rfl rfl; have cm_3 : w19.cell? ⟨w.heap.size, 3, none⟩ = some (.int .i64 win) := HJ.out.at 0 3 rfl rfl; have cm_4 : w19.cell? ⟨w.heap.size, 4, none⟩ = some (.int .i64 drift) := HJ.out.at 0 4 rfl rfl; have cm_5 : w19.cell? ⟨w.heap.size, 5, none⟩ = some (.int .i64 delay) := HJ.out.at 0 5 rfl rfl; have cm_6 : w19.cell? ⟨w.heap.size, 6, none⟩ = some (.slice ca cl.length cc) := HJ.out.at 0 6 rfl rfl; have cm_7 : w19.cell? ⟨w.heap.size, 7, none⟩ = some (.slice ma ml.length mc) := HJ.out.at 0 7 rfl rfl; have cc_0 : w19.cell? ⟨w.heap.size + 1, 0, none⟩ = some (.int .i64 st) := HJ.out.at 1 0 rfl rfl; have cc_1 : w19.cell? ⟨w.heap.size + 1, 1, none⟩ = some (.int .i64 sl) := HJ.out.at 1 1 rfl rfl; have cc_2 : w19.cell? ⟨w.heap.size + 1, 2, none⟩ = some (.slice da dl.length dc) := HJ.out.at 1 2 rfl rfl; have cx_0 : w19.cell? ⟨b6, 0, none⟩ = some (.int .i64 n0) := HJ.out.at 2 0 rfl rfl; have cx_1 : w19.cell? ⟨b6, 1, none⟩ = some (.int .i64 n1) := HJ.out.at 2 1 rfl rfl; have cx_2 : w19.cell? ⟨b6, 2, none⟩ = some (.slice una n2.length unc) := HJ.out.at 2 2 rfl rfl; have cy_0 : w19.cell? ⟨b11, 0, none⟩ = some (.int .i64 n0) := HJ.out.at 3 0 rfl rfl; have cy_1 : w19.cell? ⟨b11, 1, none⟩ = some (.int .i64 n1) := HJ.out.at 3 1 rfl rfl; have cy_2 : w19.cell? ⟨b11, 2, none⟩ = some (.slice vna n2.length vnc) := HJ.out.at 3 2 rfl rfl; have fx_0 : w19.frozen? ⟨b6, 0, none⟩ = false := HJ.out.fz 2 0 rfl; have fx_1 : w19.frozen? ⟨b6, 1, none⟩ = false := HJ.out.fz 2 1 rfl; have fx_2 : w19.frozen? ⟨b6, 2, none⟩ = false := HJ.out.fz 2 2 rfl; have zm : w.heap.size < w19.heap.size := HJ.out.lt 0 rfl; have zc : w.heap.size + 1 < w19.heap.size := HJ.out.lt 1 rfl; have zx : b6 < w19.heap.size := HJ.out.lt 2 rfl; have zy : b11 < w19.heap.size := HJ.out.lt 3 rfl
  have HJ2 : Hid (Bx w (((w19.setCell ⟨b6, 0, none⟩ (.int .i64 j0)).setCell ⟨b6, 1, none⟩ (.int .i64 j1)).setCell ⟨b6, 2, none⟩ (.slice uja j2.length ujc)) [(w.heap.size, 25, #[.int .i64 nodes, .int .i64 slot, .int .i64 gap, .int .i64 win, .int .i64 drift, .int .i64 delay, .slice ca cl.length cc, .slice ma ml.length mc]), (w.heap.size + 1, 28, #[.int .i64 st, .int .i64 sl, .slice da dl.length dc]), (b6, 28, #[.int .i64 j0, .int .i64 j1, .slice uja j2.length ujc]), (b11, 28, #[.int .i64 n0, .int .i64 n1, .slice vna n2.length vnc])]) := (((HJ.out.set 2 rfl (by simp <;> omega) (by omega) 0 (.int .i64 j0)).set 2 rfl (by simp <;> omega) (by omega) 1 (.int .i64 j1)).set 2 rfl (by simp <;> omega) (by omega) 2 (.slice uja j2.length ujc))
  replace HW := Lib.hid (HW.out.far3 (b := b6) (fun p hp => by have := HBW.out p hp; omega) (.int .i64 j0) (.int .i64 j1) (.slice uja j2.length ujc))
  replace HGuj := Lib.hid (HGuj.out.far3 (b := b6) (fun p hp => (HNuj.out p hp).1) (.int .i64 j0) (.int .i64 j1) (.slice uja j2.length ujc))
  go_upto_region 11 with fail
  clear cm_0 cm_1 cm_2 cm_3 cm_4 cm_5 cm_6 cm_7 cc_0 cc_1 cc_2 cx_0 cx_1 cx_2 cy_0 cy_1 cy_2 fx_0 fx_1 fx_2 zm zc zx zy
  clear HJ
  have HJ := HJ2
  clear HJ2
  generalize (((w19.setCell ⟨b6, 0, none⟩ (.int .i64 j0)).setCell ⟨b6, 1, none⟩ (.int .i64 j1)).setCell ⟨b6, 2, none⟩ (.slice uja j2.length ujc)) = w20 at *
  have qx : b6 < w20.heap.size := HJ.out.lt 2 rfl
  have qy : b11 < w20.heap.size := HJ.out.lt 3 rfl
  have cm_0 : w20.cell? ⟨w.heap.size, 0, none⟩ = some (.int .i64 nodes) := HJ.out.at 0 0 rfl rfl; have cm_1 : w20.cell? ⟨w.heap.size, 1, none⟩ = some (.int .i64 slot) := HJ.out.at 0 1 rfl rfl; have cm_2 : w20.cell? ⟨w.heap.size, 2, none⟩ = some (.int .i64 gap) := HJ.out.at 0 2 rfl rfl; have cm_3 : w20.cell? ⟨w.heap.size, 3, none⟩ = some (.int .i64 win) := HJ.out.at 0 3 rfl rfl; have cm_4 : w20.cell? ⟨w.heap.size, 4, none⟩ = some (.int .i64 drift) := HJ.out.at 0 4 rfl rfl; have cm_5 : w20.cell? ⟨w.heap.size, 5, none⟩ = some (.int .i64 delay) := HJ.out.at 0 5 rfl rfl; have cm_6 : w20.cell? ⟨w.heap.size, 6, none⟩ = some (.slice ca cl.length cc) := HJ.out.at 0 6 rfl rfl; have cm_7 : w20.cell? ⟨w.heap.size, 7, none⟩ = some (.slice ma ml.length mc) := HJ.out.at 0 7 rfl rfl; have cc_0 : w20.cell? ⟨w.heap.size + 1, 0, none⟩ = some (.int .i64 st) := HJ.out.at 1 0 rfl rfl; have cc_1 : w20.cell? ⟨w.heap.size + 1, 1, none⟩ = some (.int .i64 sl) := HJ.out.at 1 1 rfl rfl; have cc_2 : w20.cell? ⟨w.heap.size + 1, 2, none⟩ = some (.slice da dl.length dc) := HJ.out.at 1 2 rfl rfl; have cx_0 : w20.cell? ⟨b6, 0, none⟩ = some (.int .i64 j0) := HJ.out.at 2 0 rfl rfl; have cx_1 : w20.cell? ⟨b6, 1, none⟩ = some (.int .i64 j1) := HJ.out.at 2 1 rfl rfl; have cx_2 : w20.cell? ⟨b6, 2, none⟩ = some (.slice uja j2.length ujc) := HJ.out.at 2 2 rfl rfl; have cy_0 : w20.cell? ⟨b11, 0, none⟩ = some (.int .i64 n0) := HJ.out.at 3 0 rfl rfl; have cy_1 : w20.cell? ⟨b11, 1, none⟩ = some (.int .i64 n1) := HJ.out.at 3 1 rfl rfl; have cy_2 : w20.cell? ⟨b11, 2, none⟩ = some (.slice vna n2.length vnc) := HJ.out.at 3 2 rfl rfl; have zm : w.heap.size < w20.heap.size := HJ.out.lt 0 rfl; have zc : w.heap.size + 1 < w20.heap.size := HJ.out.lt 1 rfl; have zx : b6 < w20.heap.size := HJ.out.lt 2 rfl; have zy : b11 < w20.heap.size := HJ.out.lt 3 rfl
  go_wp2_with fail
  refine (hrj w20 HJ.out.2).mono ?_
  rintro e w21 ⟨⟨⟨vj0, vj1, vja, vjc, vjl⟩, rfl, hcu, hu0, hu1, hu2, hfr⟩, hb⟩
  clear cm_0 cm_1 cm_2 cm_3 cm_4 cm_5 cm_6 cm_7 cc_0 cc_1 cc_2 cx_0 cx_1 cx_2 cy_0 cy_1 cy_2 zm zc zx zy
  replace HJ := Lib.hid (HJ.out.keep hb)
  replace HW := Lib.hid (HW.out.below hb)
  replace HGuj := Lib.hid (HGuj.out.below hb)
  simp only at hu0 hu1 hu2 hfr
  have hu0 := hu0.symm
  have hu1 := hu1.symm
  have hu2 := hu2.symm
  subst hu0 hu1 hu2
  have HGvj := Lib.hid hcu
  have HNvj : Hid (∀ p, vja = some p → p.block ≠ b6 ∧ p.block ≠ b11) := fun p hp => by have := hfr p hp; omega
  clear qx qy
  clear hcu hfr hrj
  unfold clv
  clear hb
  have cm_0 : w21.cell? ⟨w.heap.size, 0, none⟩ = some (.int .i64 nodes) := HJ.out.at 0 0 rfl rfl; have cm_1 : w21.cell? ⟨w.heap.size, 1, none⟩ = some (.int .i64 slot) := HJ.out.at 0 1 rfl rfl; have cm_2 : w21.cell? ⟨w.heap.size, 2, none⟩ = some (.int .i64 gap) := HJ.out.at 0 2 rfl rfl; have cm_3 : w21.cell? ⟨w.heap.size, 3, none⟩ = some (.int .i64 win) := HJ.out.at 0 3 rfl rfl; have cm_4 : w21.cell? ⟨w.heap.size, 4, none⟩ = some (.int .i64 drift) := HJ.out.at 0 4 rfl rfl; have cm_5 : w21.cell? ⟨w.heap.size, 5, none⟩ = some (.int .i64 delay) := HJ.out.at 0 5 rfl rfl; have cm_6 : w21.cell? ⟨w.heap.size, 6, none⟩ = some (.slice ca cl.length cc) := HJ.out.at 0 6 rfl rfl; have cm_7 : w21.cell? ⟨w.heap.size, 7, none⟩ = some (.slice ma ml.length mc) := HJ.out.at 0 7 rfl rfl; have cc_0 : w21.cell? ⟨w.heap.size + 1, 0, none⟩ = some (.int .i64 st) := HJ.out.at 1 0 rfl rfl; have cc_1 : w21.cell? ⟨w.heap.size + 1, 1, none⟩ = some (.int .i64 sl) := HJ.out.at 1 1 rfl rfl; have cc_2 : w21.cell? ⟨w.heap.size + 1, 2, none⟩ = some (.slice da dl.length dc) := HJ.out.at 1 2 rfl rfl; have cx_0 : w21.cell? ⟨b6, 0, none⟩ = some (.int .i64 j0) := HJ.out.at 2 0 rfl rfl; have cx_1 : w21.cell? ⟨b6, 1, none⟩ = some (.int .i64 j1) := HJ.out.at 2 1 rfl rfl; have cx_2 : w21.cell? ⟨b6, 2, none⟩ = some (.slice uja j2.length ujc) := HJ.out.at 2 2 rfl rfl; have cy_0 : w21.cell? ⟨b11, 0, none⟩ = some (.int .i64 n0) := HJ.out.at 3 0 rfl rfl; have cy_1 : w21.cell? ⟨b11, 1, none⟩ = some (.int .i64 n1) := HJ.out.at 3 1 rfl rfl; have cy_2 : w21.cell? ⟨b11, 2, none⟩ = some (.slice vna n2.length vnc) := HJ.out.at 3 2 rfl rfl; have fy_0 : w21.frozen? ⟨b11, 0, none⟩ = false := HJ.out.fz 3 0 rfl; have fy_1 : w21.frozen? ⟨b11, 1, none⟩ = false := HJ.out.fz 3 1 rfl; have fy_2 : w21.frozen? ⟨b11, 2, none⟩ = false := HJ.out.fz 3 2 rfl; have zm : w.heap.size < w21.heap.size := HJ.out.lt 0 rfl; have zc : w.heap.size + 1 < w21.heap.size := HJ.out.lt 1 rfl; have zx : b6 < w21.heap.size := HJ.out.lt 2 rfl; have zy : b11 < w21.heap.size := HJ.out.lt 3 rfl
  have HJ2 : Hid (Bx w (((w21.setCell ⟨b11, 0, none⟩ (.int .i64 j0)).setCell ⟨b11, 1, none⟩ (.int .i64 j1)).setCell ⟨b11, 2, none⟩ (.slice vja j2.length vjc)) [(w.heap.size, 25, #[.int .i64 nodes, .int .i64 slot, .int .i64 gap, .int .i64 win, .int .i64 drift, .int .i64 delay, .slice ca cl.length cc, .slice ma ml.length mc]), (w.heap.size + 1, 28, #[.int .i64 st, .int .i64 sl, .slice da dl.length dc]), (b6, 28, #[.int .i64 j0, .int .i64 j1, .slice uja j2.length ujc]), (b11, 28, #[.int .i64 j0, .int .i64 j1, .slice vja j2.length vjc])]) := (((HJ.out.set 3 rfl (by simp <;> omega) (by omega) 0 (.int .i64 j0)).set 3 rfl (by simp <;> omega) (by omega) 1 (.int .i64 j1)).set 3 rfl (by simp <;> omega) (by omega) 2 (.slice vja j2.length vjc))
  replace HW := Lib.hid (HW.out.far3 (b := b11) (fun p hp => by have := HBW.out p hp; omega) (.int .i64 j0) (.int .i64 j1) (.slice vja j2.length vjc))
  replace HGuj := Lib.hid (HGuj.out.far3 (b := b11) (fun p hp => (HNuj.out p hp).2) (.int .i64 j0) (.int .i64 j1) (.slice vja j2.length vjc))
  replace HGvj := Lib.hid (HGvj.out.far3 (b := b11) (fun p hp => (HNvj.out p hp).2) (.int .i64 j0) (.int .i64 j1) (.slice vja j2.length vjc))
  go_upto_region 12 with fail
  clear cm_0 cm_1 cm_2 cm_3 cm_4 cm_5 cm_6 cm_7 cc_0 cc_1 cc_2 cx_0 cx_1 cx_2 cy_0 cy_1 cy_2 fy_0 fy_1 fy_2 zm zc zx zy
  clear HJ
  have HJ := HJ2
  clear HJ2
  generalize (((w21.setCell ⟨b11, 0, none⟩ (.int .i64 j0)).setCell ⟨b11, 1, none⟩ (.int .i64 j1)).setCell ⟨b11, 2, none⟩ (.slice vja j2.length vjc)) = w22 at *
  have cm_0 : w22.cell? ⟨w.heap.size, 0, none⟩ = some (.int .i64 nodes) := HJ.out.at 0 0 rfl rfl; have cm_1 : w22.cell? ⟨w.heap.size, 1, none⟩ = some (.int .i64 slot) := HJ.out.at 0 1 rfl rfl; have cm_2 : w22.cell? ⟨w.heap.size, 2, none⟩ = some (.int .i64 gap) := HJ.out.at 0 2 rfl rfl; have cm_3 : w22.cell? ⟨w.heap.size, 3, none⟩ = some (.int .i64 win) := HJ.out.at 0 3 rfl rfl; have cm_4 : w22.cell? ⟨w.heap.size, 4, none⟩ = some (.int .i64 drift) := HJ.out.at 0 4 rfl rfl; have cm_5 : w22.cell? ⟨w.heap.size, 5, none⟩ = some (.int .i64 delay) := HJ.out.at 0 5 rfl rfl; have cm_6 : w22.cell? ⟨w.heap.size, 6, none⟩ = some (.slice ca cl.length cc) := HJ.out.at 0 6 rfl rfl; have cm_7 : w22.cell? ⟨w.heap.size, 7, none⟩ = some (.slice ma ml.length mc) := HJ.out.at 0 7 rfl rfl; have cc_0 : w22.cell? ⟨w.heap.size + 1, 0, none⟩ = some (.int .i64 st) := HJ.out.at 1 0 rfl rfl; have cc_1 : w22.cell? ⟨w.heap.size + 1, 1, none⟩ = some (.int .i64 sl) := HJ.out.at 1 1 rfl rfl; have cc_2 : w22.cell? ⟨w.heap.size + 1, 2, none⟩ = some (.slice da dl.length dc) := HJ.out.at 1 2 rfl rfl; have cx_0 : w22.cell? ⟨b6, 0, none⟩ = some (.int .i64 j0) := HJ.out.at 2 0 rfl rfl; have cx_1 : w22.cell? ⟨b6, 1, none⟩ = some (.int .i64 j1) := HJ.out.at 2 1 rfl rfl; have cx_2 : w22.cell? ⟨b6, 2, none⟩ = some (.slice uja j2.length ujc) := HJ.out.at 2 2 rfl rfl; have cy_0 : w22.cell? ⟨b11, 0, none⟩ = some (.int .i64 j0) := HJ.out.at 3 0 rfl rfl; have cy_1 : w22.cell? ⟨b11, 1, none⟩ = some (.int .i64 j1) := HJ.out.at 3 1 rfl rfl; have cy_2 : w22.cell? ⟨b11, 2, none⟩ = some (.slice vja j2.length vjc) := HJ.out.at 3 2 rfl rfl; have zm : w.heap.size < w22.heap.size := HJ.out.lt 0 rfl; have zc : w.heap.size + 1 < w22.heap.size := HJ.out.lt 1 rfl; have zx : b6 < w22.heap.size := HJ.out.lt 2 rfl; have zy : b11 < w22.heap.size := HJ.out.lt 3 rfl
  go_wp2_with fail
  refine (HSA.out _ _ w22 HGuj.out HGvj.out).mono ?_
  rintro e w23 ⟨rfl, hb⟩
  clear cm_0 cm_1 cm_2 cm_3 cm_4 cm_5 cm_6 cm_7 cc_0 cc_1 cc_2 cx_0 cx_1 cx_2 cy_0 cy_1 cy_2 zm zc zx zy
  replace HJ := Lib.hid (HJ.out.keep hb)
  replace HW := Lib.hid (HW.out.below hb)
  rw [show sameB ⟨j0, j1, uja, ujc, j2⟩ ⟨j0, j1, vja, vjc, j2⟩ = true by simp [sameB]]
  clear HGuj HGvj
  clear hb
  have cm_0 : w23.cell? ⟨w.heap.size, 0, none⟩ = some (.int .i64 nodes) := HJ.out.at 0 0 rfl rfl; have cm_1 : w23.cell? ⟨w.heap.size, 1, none⟩ = some (.int .i64 slot) := HJ.out.at 0 1 rfl rfl; have cm_2 : w23.cell? ⟨w.heap.size, 2, none⟩ = some (.int .i64 gap) := HJ.out.at 0 2 rfl rfl; have cm_3 : w23.cell? ⟨w.heap.size, 3, none⟩ = some (.int .i64 win) := HJ.out.at 0 3 rfl rfl; have cm_4 : w23.cell? ⟨w.heap.size, 4, none⟩ = some (.int .i64 drift) := HJ.out.at 0 4 rfl rfl; have cm_5 : w23.cell? ⟨w.heap.size, 5, none⟩ = some (.int .i64 delay) := HJ.out.at 0 5 rfl rfl; have cm_6 : w23.cell? ⟨w.heap.size, 6, none⟩ = some (.slice ca cl.length cc) := HJ.out.at 0 6 rfl rfl; have cm_7 : w23.cell? ⟨w.heap.size, 7, none⟩ = some (.slice ma ml.length mc) := HJ.out.at 0 7 rfl rfl; have cc_0 : w23.cell? ⟨w.heap.size + 1, 0, none⟩ = some (.int .i64 st) := HJ.out.at 1 0 rfl rfl; have cc_1 : w23.cell? ⟨w.heap.size + 1, 1, none⟩ = some (.int .i64 sl) := HJ.out.at 1 1 rfl rfl; have cc_2 : w23.cell? ⟨w.heap.size + 1, 2, none⟩ = some (.slice da dl.length dc) := HJ.out.at 1 2 rfl rfl; have cx_0 : w23.cell? ⟨b6, 0, none⟩ = some (.int .i64 j0) := HJ.out.at 2 0 rfl rfl; have cx_1 : w23.cell? ⟨b6, 1, none⟩ = some (.int .i64 j1) := HJ.out.at 2 1 rfl rfl; have cx_2 : w23.cell? ⟨b6, 2, none⟩ = some (.slice uja j2.length ujc) := HJ.out.at 2 2 rfl rfl; have cy_0 : w23.cell? ⟨b11, 0, none⟩ = some (.int .i64 j0) := HJ.out.at 3 0 rfl rfl; have cy_1 : w23.cell? ⟨b11, 1, none⟩ = some (.int .i64 j1) := HJ.out.at 3 1 rfl rfl; have cy_2 : w23.cell? ⟨b11, 2, none⟩ = some (.slice vja j2.length vjc) := HJ.out.at 3 2 rfl rfl; have zm : w.heap.size < w23.heap.size := HJ.out.lt 0 rfl; have zc : w.heap.size + 1 < w23.heap.size := HJ.out.lt 1 rfl; have zx : b6 < w23.heap.size := HJ.out.lt 2 rfl; have zy : b11 < w23.heap.size := HJ.out.lt 3 rfl
  go_wp2_with fail
  refine (HEQ.out _ w23 (HCI.out.below HJ.out.2) HW.out).mono ?_
  rintro e w24 ⟨rfl, hb⟩
  clear cm_0 cm_1 cm_2 cm_3 cm_4 cm_5 cm_6 cm_7 cc_0 cc_1 cc_2 cx_0 cx_1 cx_2 cy_0 cy_1 cy_2 zm zc zx zy
  replace HJ := Lib.hid (HJ.out.keep hb)
  (try simp only [decide_true])
  clear HW HEQ
  clear hb
  go_wp2
  go_ret
  exact ⟨rfl, HJ.out.2⟩
end Go.Proofs.Ytimcljlbjnhpnaa
