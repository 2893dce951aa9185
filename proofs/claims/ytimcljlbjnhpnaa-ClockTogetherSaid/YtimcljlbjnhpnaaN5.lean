/- begun: a list and a clock. -/
import Derived.Test.YtimcljlbjnhpnaaN4
import Derived.Laws.StructEq
namespace Go.Proofs.Ytimcljlbjnhpnaa
open Go.RowKit Go.Shelf
open Md

theorem equalSp (f t g u : Int) (w : World) : (Op.equalIn 10000 37 (.agg #[.int .i64 f, .int .i64 t]) (.agg #[.int .i64 g, .int .i64 u])).run Try.prog w = .ok (f == g && t == u) w := by
  have u2 := Try.underlying2
  have a2 := Try.isAgg2
  have z2 := Try.sizeOf2
  have hS : Try.prog.underlying 37 = some (.struct (Try.prog.fieldsOf 37)) := by kernel_rfl
  have hp : Try.prog.stoodInHeld 37 = false := by kernel_rfl
  rw [show (10000 : Nat) = 9999 + 1 from rfl, run_equalIn_agg w 9999 37 _ _ hS hp]
  simp only [Program.fieldsOf, Try.underlying37]
  go_simp
  by_cases h1 : f = g <;> by_cases h2 : t = u <;> simp [h1, h2]
theorem eqSp (f t g u : Int) (w : World) : (binOp .eql 37 (.agg #[.int .i64 f, .int .i64 t]) (.agg #[.int .i64 g, .int .i64 u])).run Try.prog w = .ok (.bool (f == g && t == u)) w := by
  rw [run_eql_struct, equalSp]; rfl
theorem neSp (f t g u : Int) (w : World) : (binOp .neq 37 (.agg #[.int .i64 f, .int .i64 t]) (.agg #[.int .i64 g, .int .i64 u])).run Try.prog w = .ok (.bool (!(f == g && t == u))) w := by
  rw [run_neq_struct, equalSp]; rfl
theorem guardSp : Try.prog.eqGuardType Try.prog.depth 37 = false := by kernel_rfl

theorem begun_err {m : Me} (hp : PlainM m) (a : Option Addr) (c : Nat) (l : List Int) (hl : l.length ≤ 8) (hd : ∀ d ∈ l, -16 ≤ d ∧ d ≤ 16) : errC m ⟨100, 0, a, c, l⟩ = 0 := by
  obtain ⟨h1, _, _, _, h5, _⟩ := hp
  unfold errC okMay
  rw [if_pos h1, h5, if_pos]
  have : l.any (Fta.far 16) = false := by
    rw [List.any_eq_false]
    intro d hd'
    have := hd d hd'
    simp [Fta.far]; omega
  simp [this, hl]
theorem mid_b3 : Fta.mid [0, 4, -2, 6] = (2, 0) := by unfold Fta.mid; rw [Fta.kept_eq]; decide

set_option maxRecDepth 100000 in
set_option maxHeartbeats 6400000 in
theorem begun_any (w : World) : Calls Try.prog 10 #[] w fun e w' => e = .returned (.bool true) ∧ Below w.heap.size w w' := by
  go_enter Try.func10, Try.ntmps10
  go_wp2_with fail
  refine (plain_any _).mono ?_
  rintro e w1 ⟨⟨m, rfl, hg, hp⟩, hb1⟩
  have hB1 := Lib.hid hb1
  have he0 := begun_err hp none 0 [] (by simp) (by simp)
  have he1 : ∀ b, errC m ⟨100, 0, some ⟨b, 0, none⟩, 3, [4, -2, 6]⟩ = 0 := fun b => begun_err hp _ _ _ (by simp) (by intro d hd; simp at hd; omega)
  have hs1 : sendV m ⟨100, 0, none, 0, []⟩ = 138 := by unfold sendV; rw [if_pos he0, hp.2.2.2.1]; rfl
  have hw1 : winV m ⟨100, 0, none, 0, []⟩ = (123, 156) := by unfold winV; rw [if_pos he0, hp.2.2.2.1, hp.2.2.2.2.1, hp.2.2.2.2.2.2]; rfl
  have hc1 : ∀ b, corV m ⟨100, 0, some ⟨b, 0, none⟩, 3, [4, -2, 6]⟩ = (2, 0) := fun b => by unfold corV; rw [if_pos (he1 b)]; exact mid_b3
  have hnil : ∀ W : World, Ints W (.slice none 0 0) [] := fun W => ⟨none, 0, rfl, by simp, by simp, by simp, by simp, by simp, .inl rfl⟩
  have hse : ∀ W, Below w1.heap.size w1 W → _ := fun W hW => send_any m ⟨100, 0, none, 0, []⟩ W (hg.below hW) ⟨hnil W, (show I64 100 by unfold I64; omega), (show I64 0 by unfold I64; omega)⟩
  have hwi : ∀ W, Below w1.heap.size w1 W → _ := fun W hW => window_any m ⟨100, 0, none, 0, []⟩ W (hg.below hW) ⟨hnil W, (show I64 100 by unfold I64; omega), (show I64 0 by unfold I64; omega)⟩
  have hco : ∀ b W, Below w1.heap.size w1 W → Ints W (.slice (some ⟨b, 0, none⟩) 3 3) [4, -2, 6] → _ := fun b W hW hi => correct_any m ⟨100, 0, some ⟨b, 0, none⟩, 3, [4, -2, 6]⟩ W (hg.below hW) ⟨hi, (show I64 100 by unfold I64; omega), (show I64 0 by unfold I64; omega)⟩
  simp only [hs1, he0] at hse
  simp only [hw1, he0] at hwi
  simp only [hc1] at hco
  have heq := fun W => eqSp 123 156 123 156 W
  have hgd := guardSp
  clear hg hp he0 he1 hs1 hw1 hc1 hnil hb1
  obtain ⟨nodes, slot, gap, win, drift, delay, ⟨ca, cc, cl⟩, ma, mc, ml⟩ := m
  unfold mev clv at *
  simp only [List.length_nil, List.length_cons, Nat.zero_add, Nat.reduceAdd] at *
  have HJ : Hid (Blk ((w1.alloc (.cells #[.int .i64 nodes, .int .i64 slot, .int .i64 gap, .int .i64 win, .int .i64 drift, .int .i64 delay, .slice ca cl.length cc, .slice ma ml.length mc] 25)).alloc (.cells #[.int .i64 100, .int .i64 0, .slice none 0 0] 28)) w1.heap.size 25 #[.int .i64 nodes, .int .i64 slot, .int .i64 gap, .int .i64 win, .int .i64 drift, .int .i64 delay, .slice ca cl.length cc, .slice ma ml.length mc] ∧ Blk ((w1.alloc (.cells #[.int .i64 nodes, .int .i64 slot, .int .i64 gap, .int .i64 win, .int .i64 drift, .int .i64 delay, .slice ca cl.length cc, .slice ma ml.length mc] 25)).alloc (.cells #[.int .i64 100, .int .i64 0, .slice none 0 0] 28)) (w1.heap.size + 1) 28 #[.int .i64 100, .int .i64 0, .slice none 0 0] ∧ Below w1.heap.size w1 ((w1.alloc (.cells #[.int .i64 nodes, .int .i64 slot, .int .i64 gap, .int .i64 win, .int .i64 drift, .int .i64 delay, .slice ca cl.length cc, .slice ma ml.length mc] 25)).alloc (.cells #[.int .i64 100, .int .i64 0, .slice none 0 0] 28))) :=
    ⟨(Blk.new' rfl).alloc _, Blk.new' (by simp), below2 w1 _ _⟩
  go_wp2_with fail
  refine (hse _ HJ.out.2.2).mono ?_
  rintro e w2 ⟨rfl, hb⟩
  replace HJ := Lib.hid (two_boxes HJ.out hb)
  clear hb hse
  obtain ⟨m0, m1, m2, m3, m4, m5, m6, m7⟩ := HJ.out.1.eight; obtain ⟨c0, c1, c2⟩ := HJ.out.2.1.three; have hz0 := HJ.out.1.lt; have hz1 := HJ.out.2.1.lt
  go_wp2_with fail
  refine (hwi _ HJ.out.2.2).mono ?_
  rintro e w3 ⟨rfl, hb⟩
  clear m0 m1 m2 m3 m4 m5 m6 m7 c0 c1 c2 hz0 hz1
  have hb6 : w1.heap.size + 1 < w3.heap.size := (two_boxes HJ.out hb).2.1.lt
  replace HJ := Lib.hid (two_boxes (two_boxes HJ.out hb) (below1 w3 (.cells #[.int .i64 123, .int .i64 156] 37)))
  have HS : Hid (Blk (w3.alloc (.cells #[.int .i64 123, .int .i64 156] 37)) w3.heap.size 37 #[.int .i64 123, .int .i64 156]) := (Blk.new' rfl : Blk _ _ _ _)
  clear hb hwi
  obtain ⟨m0, m1, m2, m3, m4, m5, m6, m7⟩ := HJ.out.1.eight; obtain ⟨c0, c1, c2⟩ := HJ.out.2.1.three; have hz0 := HJ.out.1.lt; have hz1 := HJ.out.2.1.lt
  go_upto_region 5 with fail
  clear m0 m1 m2 m3 m4 m5 m6 m7 c0 c1 c2 hz0 hz1
  generalize w3.heap.size = b6 at *
  generalize w3.alloc (.cells #[.int .i64 123, .int .i64 156] 37) = w4 at *
  obtain ⟨m0, m1, m2, m3, m4, m5, m6, m7⟩ := HJ.out.1.eight; obtain ⟨c0, c1, c2⟩ := HJ.out.2.1.three; have hz0 := HJ.out.1.lt; have hz1 := HJ.out.2.1.lt
  have f2 := HJ.out.2.1.frozen 2
  have h4 := HJ.out.2.2.size
  have HV : Hid (Ints ((w4.setCell ⟨w1.heap.size + 1, 2, none⟩ (.slice (some ⟨w4.heap.size, 0, none⟩) 3 3)).alloc (.cells #[.int .i64 4, .int .i64 (-2), .int .i64 6] 2)) (.slice (some ⟨w4.heap.size, 0, none⟩) 3 3) [4, -2, 6]) :=
    Ints.of_owns (base := w4.heap.size) (by
      have := World.ownsRow_lit (base := w4.heap.size) (e := 2) (size := 1) (w4.setCell ⟨w1.heap.size + 1, 2, none⟩ (.slice (some ⟨w4.heap.size, 0, none⟩) 3 3)) #[.int .i64 4, .int .i64 (-2), .int .i64 6] 3 (by simp) (by unfold maxLen; omega) rfl
      simpa using this) (by simp) (by intro x hx; simp at hx; unfold I64; omega)
  have HK : Hid (Blk ((w4.setCell ⟨w1.heap.size + 1, 2, none⟩ (.slice (some ⟨w4.heap.size, 0, none⟩) 3 3)).alloc (.cells #[.int .i64 4, .int .i64 (-2), .int .i64 6] 2)) w1.heap.size 25 #[.int .i64 nodes, .int .i64 slot, .int .i64 gap, .int .i64 win, .int .i64 drift, .int .i64 delay, .slice ca cl.length cc, .slice ma ml.length mc] ∧ Blk ((w4.setCell ⟨w1.heap.size + 1, 2, none⟩ (.slice (some ⟨w4.heap.size, 0, none⟩) 3 3)).alloc (.cells #[.int .i64 4, .int .i64 (-2), .int .i64 6] 2)) (w1.heap.size + 1) 28 #[.int .i64 100, .int .i64 0, .slice (some ⟨w4.heap.size, 0, none⟩) 3 3] ∧ Below w1.heap.size w1 ((w4.setCell ⟨w1.heap.size + 1, 2, none⟩ (.slice (some ⟨w4.heap.size, 0, none⟩) 3 3)).alloc (.cells #[.int .i64 4, .int .i64 (-2), .int .i64 6] 2))) :=
    ⟨(HJ.out.1.far (by simp) _).alloc _, by simpa using (HJ.out.2.1.set 2 (.slice (some ⟨w4.heap.size, 0, none⟩) 3 3)).alloc _, (HJ.out.2.2.setCell (by simp) _).alloc (by simpa using h4) _⟩
  have HS2 : Hid (Blk ((w4.setCell ⟨w1.heap.size + 1, 2, none⟩ (.slice (some ⟨w4.heap.size, 0, none⟩) 3 3)).alloc (.cells #[.int .i64 4, .int .i64 (-2), .int .i64 6] 2)) b6 37 #[.int .i64 123, .int .i64 156]) := (HS.out.far (by simp; omega) _).alloc _
  go_upto_region 6 with fail
  clear m0 m1 m2 m3 m4 m5 m6 m7 c0 c1 c2 hz0 hz1
  clear f2 h4 HJ HS
  generalize w4.heap.size = b7 at *
  generalize (w4.setCell ⟨w1.heap.size + 1, 2, none⟩ (.slice (some ⟨b7, 0, none⟩) 3 3)).alloc (.cells #[.int .i64 4, .int .i64 (-2), .int .i64 6] 2) = w5 at *
  have HJ := HK
  clear HK
  obtain ⟨m0, m1, m2, m3, m4, m5, m6, m7⟩ := HJ.out.1.eight; obtain ⟨c0, c1, c2⟩ := HJ.out.2.1.three; have hz0 := HJ.out.1.lt; have hz1 := HJ.out.2.1.lt
  go_wp2_with fail
  refine (hco b7 _ HJ.out.2.2 HV.out).mono ?_
  rintro e w6 ⟨rfl, hb⟩
  clear m0 m1 m2 m3 m4 m5 m6 m7 c0 c1 c2 hz0 hz1
  have hS3 := HS2.out.keep hb
  obtain ⟨s0, s1⟩ := hS3.two
  have HB6 := Lib.hid (bt (bt hB1.out HJ.out.2.2) hb)
  clear hS3 HS2 HJ HV hco hb
  go_wp2
  go_ret
  exact ⟨rfl, HB6.out⟩
end Go.Proofs.Ytimcljlbjnhpnaa
