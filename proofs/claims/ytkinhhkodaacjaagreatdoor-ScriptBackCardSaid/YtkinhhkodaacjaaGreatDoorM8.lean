/- Contracts: which modes may be, of the program and of the document. Contracts: least, Check of the program. Contract: Check of lists, of the program. Contract: Check of lists, of the program. Contract: Check of lists, of the document; Precision. -/
import Derived.Test.YtkinhhkodaacjaaGreatDoorQ1
import Derived.Test.YtkinhhkodaacjaaGreatDoorMA
import Derived.Lib.QuietBelow
namespace Go.Proofs.YtkinhhkodaacjaaGreatDoor
open Go.RowKit Go.Shelf
open Md

set_option maxRecDepth 100000 in
set_option maxHeartbeats 6400000 in
theorem isMode_any (m : Me) (x : Mo) (hcl : (m.cold.l.length : Int) = m.nodes) (w : World) (h : GoodMe w m) (hx : GoodMo w x) : Calls Tryz.prog 85 #[mev m, mov x] w fun e w' => e = .returned (.bool (okMode m x)) ∧ Below w.heap.size w w' := by
  have HC := Lib.hid h.1.1
  have hlen := Rd.len h.1.1
  have hml := h.1.2.1.len
  have HNO := Lib.hid (@okMode_len m x)
  have HALL := Lib.hid (@okMode_all m x)
  have HOA : Hid (∀ k, okAt m x k = (decide (0 ≤ x.d.l.getD k 0) && decide (x.d.l.getD k 0 ≤ 8) && (!(m.cold.l.getD k false) || x.e.l.getD k false))) := fun _ => rfl
  have HLT : Hid (∀ n k, k < n → okAt m x k = false → (List.range n).all (okAt m x) = false) := fun n k hk h => range_all_lt hk h
  have HS : Hid (∀ k, (List.range (k + 1)).all (okAt m x) = ((List.range k).all (okAt m x) && okAt m x k)) := fun k => range_all_succ _ k
  have HX := Lib.hid hx
  have hdl := hx.1.1.len
  have hel := Rd.len hx.2.1
  have hnl := Rd.len hx.2.2
  obtain ⟨nodes, slot, gap, win, drift, delay, ⟨ca, cc, cl⟩, ma, mc, ml⟩ := m
  obtain ⟨⟨da, dc, dl⟩, ⟨ea, ec, el⟩, ⟨na, nc, nl⟩⟩ := x
  unfold mev mov
  simp only at hlen hml HNO HALL HOA hdl hel hnl hcl ⊢
  clear h hx
  generalize okMode _ _ = z at *
  generalize okAt _ _ = oA at *
  have HCL := Lib.hid hcl
  clear hcl
  have hW : ∀ W0, (w.alloc (.cells #[.int .i64 nodes, .int .i64 slot, .int .i64 gap, .int .i64 win, .int .i64 drift, .int .i64 delay, .slice ca cl.length cc, .slice ma ml.length mc] 38)).alloc (.cells #[.slice da dl.length dc, .slice ea el.length ec, .slice na nl.length nc] 86) = W0 → Below w.heap.size w W0 ∧ Blk W0 w.heap.size 38 #[.int .i64 nodes, .int .i64 slot, .int .i64 gap, .int .i64 win, .int .i64 drift, .int .i64 delay, .slice ca cl.length cc, .slice ma ml.length mc] ∧ Blk W0 (w.heap.size + 1) 86 #[.slice da dl.length dc, .slice ea el.length ec, .slice na nl.length nc] := by
    rintro _ rfl
    exact ⟨below2 w _ _, (Blk.new' rfl).alloc _, Blk.new' (by simp)⟩
  go_enter Tryz.func85, Tryz.ntmps85
  by_cases h1 : (dl.length : Int) = nodes
  rotate_left
  · have q1 : ((dl.length : Int) != nodes) = true := by simpa using h1
    have HN := Lib.hid (HNO.out (fun h => h1 h.1))
    clear h1
    go_wp2
    go_ret
    exact ⟨ret_bool HN.out.symm, below2 w _ _⟩
  have q1 : ((dl.length : Int) != nodes) = false := by simpa using h1
  have H1 := Lib.hid h1
  clear h1
  by_cases h2 : (el.length : Int) = nodes
  rotate_left
  · have q2 : ((el.length : Int) != nodes) = true := by simpa using h2
    have HN := Lib.hid (HNO.out (fun h => h2 h.2.1))
    clear h2
    go_wp2
    go_ret
    exact ⟨ret_bool HN.out.symm, below2 w _ _⟩
  have q2 : ((el.length : Int) != nodes) = false := by simpa using h2
  have H2 := Lib.hid h2
  clear h2
  by_cases h3 : nl.length = ml.length
  rotate_left
  · have q3 : ((nl.length : Int) != (ml.length : Int)) = true := by rw [bne_iff_ne]; omega
    have HN := Lib.hid (HNO.out (fun h => h3 h.2.2))
    clear h3
    go_wp2
    go_ret
    exact ⟨ret_bool HN.out.symm, below2 w _ _⟩
  have q3 : ((nl.length : Int) != (ml.length : Int)) = false := by rw [bne_eq_false_iff_eq]; omega
  have HA := Lib.hid (HALL.out H1.out H2.out h3)
  clear h3
  go_wp2_with fail
  clear q1 q2 q3
  obtain ⟨hb, DM, DX⟩ := hW _ rfl
  generalize (w.alloc (.cells #[.int .i64 nodes, .int .i64 slot, .int .i64 gap, .int .i64 win, .int .i64 drift, .int .i64 delay, .slice ca cl.length cc, .slice ma ml.length mc] 38)).alloc (.cells #[.slice da dl.length dc, .slice ea el.length ec, .slice na nl.length nc] 86) = W0 at *
  have Hb := Lib.hid hb
  replace HC := Lib.hid (HC.out.below hb)
  replace HX := Lib.hid (HX.out.below hb)
  clear hW hb
  obtain ⟨m0, _, _, _, _, _, m6, m7⟩ := DM.eight
  obtain ⟨x0, x1, x2⟩ := DX.three
  have hk : dl.length = el.length := by have := H1.out; have := H2.out; omega
  have hk' : dl.length = cl.length := by have := H1.out; have := HCL.out; omega
  have HK := Lib.hid hk
  have HK' := Lib.hid hk'
  clear hk hk'
  go_loop [33] (fun i => ∃ k : Nat, k ≤ dl.length ∧ i = .int .i64 k ∧ Hid ((List.range k).all oA = true)) (fun i => dl.length - (intOf i).toNat)
  case atStart => exact ⟨0, Nat.zero_le _, rfl, rfl⟩
  case round =>
    obtain ⟨k, hk, rfl, HR⟩ := hrel
    by_cases hlt : k < dl.length
    · obtain ⟨d, hd⟩ : ∃ d, dl[k]? = some d := ⟨_, List.getElem?_eq_getElem hlt⟩
      obtain ⟨e, he⟩ : ∃ e, el[k]? = some e := ⟨_, List.getElem?_eq_getElem (by have := HK.out; omega)⟩
      obtain ⟨c, hc⟩ : ∃ c, cl[k]? = some c := ⟨_, List.getElem?_eq_getElem (by have := HK'.out; omega)⟩
      have hi1 : (k : Int) < (el.length : Int) := by have := HK.out; omega
      have hi2 : (k : Int) < (cl.length : Int) := by have := HK'.out; omega
      obtain ⟨g1, o1, h1, _, c1, hd64⟩ := HX.out.1.cell hd
      simp only at h1
      subst h1
      obtain ⟨g2, o2, h2, _, c2⟩ := HX.out.2.1.cell he
      simp only at h2
      subst h2
      obtain ⟨g3, o3, h3, _, c3⟩ := HC.out.cell hc
      simp only at h3
      subst h3
      have HK0 : Hid (oA k = (decide (0 ≤ d) && decide (d ≤ 8) && (!c || e))) := by
        show _ = _
        rw [HOA.out, List.getD_eq_getElem?_getD, List.getD_eq_getElem?_getD, List.getD_eq_getElem?_getD, hd, he, hc]
        rfl
      clear hd he hc
      have HW := Lib.hid (within7_any d 0 8 W0)
      generalize hq : (decide (0 ≤ d) && decide (d ≤ 8)) = q at *
      clear hq
      cases q
      · go_wp2_with (go_at_call 86; refine HW.out.mono ?_; rintro en w' ⟨rfl, rfl⟩)
        go_ret
        exact ⟨ret_bool (by rw [HA.out]; exact (HLT.out _ k hlt (by rw [HK0.out]; rfl)).symm), Hb.out⟩
      · cases c
        · go_wp2_with (go_at_call 86; refine HW.out.mono ?_; rintro en w' ⟨rfl, rfl⟩)
          go_round
          case rel => exact ⟨k + 1, by omega, by go_num, by show _ = _; rw [HS.out, HR.out, HK0.out]; rfl⟩
          case measure => simp [intOf]; omega
        · cases e
          · go_wp2_with (go_at_call 86; refine HW.out.mono ?_; rintro en w' ⟨rfl, rfl⟩)
            go_ret
            exact ⟨ret_bool (by rw [HA.out]; exact (HLT.out _ k hlt (by rw [HK0.out]; rfl)).symm), Hb.out⟩
          · go_wp2_with (go_at_call 86; refine HW.out.mono ?_; rintro en w' ⟨rfl, rfl⟩)
            go_round
            case rel => exact ⟨k + 1, by omega, by go_num, by show _ = _; rw [HS.out, HR.out, HK0.out]; rfl⟩
            case measure => simp [intOf]; omega
    · obtain rfl : k = dl.length := by omega
      go_wp2
      go_ret
      exact ⟨ret_bool (by rw [HA.out]; exact HR.out.symm), Hb.out⟩

end Go.Proofs.YtkinhhkodaacjaaGreatDoor
namespace Go.Proofs.YtkinhhkodaacjaaGreatDoor
open Go.RowKit Go.Shelf Go.Sort
open Md

theorem nd_bd {n d : Int} (hn0 : 4 ≤ n) (hn1 : n ≤ 8) (hd0 : 0 ≤ d) (hd1 : d ≤ 64) : 0 ≤ 16 * n * d ∧ 16 * n * d ≤ 8192 := by
  have h1 : 0 ≤ n * d := Int.mul_nonneg (by omega) hd0
  have h2 : n * d ≤ 8 * 64 := Int.mul_le_mul hn1 hd1 hd0 (by omega)
  rw [Int.mul_assoc]
  omega

set_option maxRecDepth 100000 in
set_option maxHeartbeats 6400000 in
theorem mleast_any (m : Me) (w : World) (h : GoodMe w m) (hn0 : 4 ≤ m.nodes) (hn1 : m.nodes ≤ 8) (hd0 : 0 ≤ m.drift) (hd1 : m.drift ≤ 64) (he0 : 0 ≤ m.delay) (he1 : m.delay ≤ 64)
    (hw0 : 0 ≤ m.win) (hw1 : m.win ≤ 1048576) (hg0 : 0 ≤ m.gap) (hg1 : m.gap ≤ 1048576) :
    Calls Tryz.prog 87 #[mev m] w fun e w' => e = .returned (.tuple #[.int .i64 (16 * m.nodes * m.drift + 16), .int .i64 (2 * m.win + 2 * m.delay + 4), .int .i64 (2 * m.gap + maxAir m)]) ∧ Below w.heap.size w w' := by
  have hma := fun W (hW : Below w.heap.size w W) => maxAir_any m W (h.below hW)
  have hnd := nd_bd hn0 hn1 hd0 hd1
  have hair := airTo_bd m m.ml.length
  rw [show airTo m m.ml.length = maxAir m from rfl] at hair
  obtain ⟨nodes, slot, gap, win, drift, delay, ⟨ca, cc, cl⟩, ma, mc, ml⟩ := m
  unfold mev at *
  simp only at *
  clear h
  generalize maxAir _ = A at *
  generalize hND : 16 * nodes * drift = ND at *
  have HND := Lib.hid hND
  have hp : 16 * nodes * drift = ND := hND
  have hq : 0 ≤ nodes * drift ∧ nodes * drift ≤ 512 := by
    have e : 16 * nodes * drift = 16 * (nodes * drift) := Int.mul_assoc _ _ _
    omega
  clear hND
  have D : Hid (Blk (w.alloc (.cells #[.int .i64 nodes, .int .i64 slot, .int .i64 gap, .int .i64 win, .int .i64 drift, .int .i64 delay, .slice ca cl.length cc, .slice ma ml.length mc] 38)) w.heap.size 38 #[.int .i64 nodes, .int .i64 slot, .int .i64 gap, .int .i64 win, .int .i64 drift, .int .i64 delay, .slice ca cl.length cc, .slice ma ml.length mc]) := (Blk.new' rfl : Blk _ _ _ _)
  have hb1 := Lib.hid (below1 w (.cells #[.int .i64 nodes, .int .i64 slot, .int .i64 gap, .int .i64 win, .int .i64 drift, .int .i64 delay, .slice ca cl.length cc, .slice ma ml.length mc] 38))
  clear hq
  go_enter Tryz.func87, Tryz.ntmps87
  go_upto_region 3 with fail
  generalize w.alloc (.cells #[.int .i64 nodes, .int .i64 slot, .int .i64 gap, .int .i64 win, .int .i64 drift, .int .i64 delay, .slice ca cl.length cc, .slice ma ml.length mc] 38) = W0 at *
  obtain ⟨m0, m1, m2, m3, m4, m5, m6, m7⟩ := D.out.eight
  have H1 : W0.drew.cell? ⟨w.heap.size, 0, none⟩ = some (.int .i64 nodes) ∧ W0.drew.cell? ⟨w.heap.size, 1, none⟩ = some (.int .i64 slot) ∧ W0.drew.cell? ⟨w.heap.size, 2, none⟩ = some (.int .i64 gap) ∧ W0.drew.cell? ⟨w.heap.size, 3, none⟩ = some (.int .i64 win) ∧ W0.drew.cell? ⟨w.heap.size, 4, none⟩ = some (.int .i64 drift) ∧ W0.drew.cell? ⟨w.heap.size, 5, none⟩ = some (.int .i64 delay) ∧ W0.drew.cell? ⟨w.heap.size, 6, none⟩ = some (.slice ca cl.length cc) ∧ W0.drew.cell? ⟨w.heap.size, 7, none⟩ = some (.slice ma ml.length mc) ∧ Below W0.heap.size W0 W0.drew := ⟨m0, m1, m2, m3, m4, m5, m6, m7, (Below.refl _ _).drew⟩
  have hwr1 : IntKind.i64.wrap (2 * gap) = 2 * gap := IntWalk.i64_in _ (by omega)
  have hwr2 : IntKind.i64.wrap (2 * gap + A) = 2 * gap + A := IntWalk.i64_in _ (by omega)
  clear hp m0 m1 m2 m3 m4 m5 m6 m7
  refine wp_region_held_drew (S := (fun W => W.cell? ⟨w.heap.size, 0, none⟩ = some (.int .i64 nodes) ∧ W.cell? ⟨w.heap.size, 1, none⟩ = some (.int .i64 slot) ∧ W.cell? ⟨w.heap.size, 2, none⟩ = some (.int .i64 gap) ∧ W.cell? ⟨w.heap.size, 3, none⟩ = some (.int .i64 win) ∧ W.cell? ⟨w.heap.size, 4, none⟩ = some (.int .i64 drift) ∧ W.cell? ⟨w.heap.size, 5, none⟩ = some (.int .i64 delay) ∧ W.cell? ⟨w.heap.size, 6, none⟩ = some (.slice ca cl.length cc) ∧ W.cell? ⟨w.heap.size, 7, none⟩ = some (.slice ma ml.length mc) ∧ Below W0.heap.size W0 W)) (by kernel_rfl) (by assumption) (fun hHeld => ?_)
  generalize W0.drew = Wd at *
  (refine takeW (i := 0) (v := ?_) rfl (by kernel_rfl) (by kernel_rfl) (by kernel_rfl) (fun _ _ _ h => h) (by rfl) (by assumption) ?_ ?_; rotate_left; (intro W hW; (try dsimp only at hW); go_simp; try with_reducible rfl); (try simp only [Act.put, List.setIfInBounds_toArray, List.set_cons_zero, List.set_cons_succ]))
  (refine takeW (i := 1) (v := ?_) rfl (by kernel_rfl) (by kernel_rfl) (by kernel_rfl) (fun _ _ _ h => h) (by rfl) (by assumption) ?_ ?_; rotate_left; (intro W hW; (try dsimp only at hW); go_simp; try with_reducible rfl); (try simp only [Act.put, List.setIfInBounds_toArray, List.set_cons_zero, List.set_cons_succ]))
  (refine takeW (i := 2) (v := ?_) rfl (by kernel_rfl) (by kernel_rfl) (by kernel_rfl) (fun _ _ _ h => h) (by rfl) (by assumption) ?_ ?_; rotate_left; (intro W hW; (try dsimp only at hW); go_simp; try with_reducible rfl); (try simp only [Act.put, List.setIfInBounds_toArray, List.set_cons_zero, List.set_cons_succ]))
  (refine takeW (i := 3) (v := ?_) rfl (by kernel_rfl) (by kernel_rfl) (by kernel_rfl) (fun _ _ _ h => h) (by rfl) (by assumption) ?_ ?_; rotate_left; (intro W hW; (try dsimp only at hW); go_simp; try with_reducible rfl); (try simp only [Act.put, List.setIfInBounds_toArray, List.set_cons_zero, List.set_cons_succ]))
  (refine takeW (i := 4) (v := ?_) rfl (by kernel_rfl) (by kernel_rfl) (by kernel_rfl) (fun _ _ _ h => h) (by rfl) (by assumption) ?_ ?_; rotate_left; (intro W hW; (try dsimp only at hW); go_simp; try with_reducible rfl); (try simp only [Act.put, List.setIfInBounds_toArray, List.set_cons_zero, List.set_cons_succ]))
  (refine takeW (i := 5) (v := ?_) rfl (by kernel_rfl) (by kernel_rfl) (by kernel_rfl) (fun _ _ _ h => h) (by rfl) (by assumption) ?_ ?_; rotate_left; (intro W hW; (try dsimp only at hW); go_simp; try with_reducible rfl); (try simp only [Act.put, List.setIfInBounds_toArray, List.set_cons_zero, List.set_cons_succ]))
  (refine takeC (i := 6) rfl (by kernel_rfl) (by rfl) (fun K hK => ?_); go_simp; (refine (hma _ (hb1.out.trans (hHeld.2.2.2.2.2.2.2.2.mono hb1.out.size))).mono ?_; rintro e W6 ⟨rfl, hb⟩; have hs : W6.cell? ⟨w.heap.size, 0, none⟩ = some (.int .i64 nodes) ∧ W6.cell? ⟨w.heap.size, 1, none⟩ = some (.int .i64 slot) ∧ W6.cell? ⟨w.heap.size, 2, none⟩ = some (.int .i64 gap) ∧ W6.cell? ⟨w.heap.size, 3, none⟩ = some (.int .i64 win) ∧ W6.cell? ⟨w.heap.size, 4, none⟩ = some (.int .i64 drift) ∧ W6.cell? ⟨w.heap.size, 5, none⟩ = some (.int .i64 delay) ∧ W6.cell? ⟨w.heap.size, 6, none⟩ = some (.slice ca cl.length cc) ∧ W6.cell? ⟨w.heap.size, 7, none⟩ = some (.slice ma ml.length mc) ∧ Below W0.heap.size W0 W6 := ⟨keepCell hb hHeld.1, keepCell hb hHeld.2.1, keepCell hb hHeld.2.2.1, keepCell hb hHeld.2.2.2.1, keepCell hb hHeld.2.2.2.2.1, keepCell hb hHeld.2.2.2.2.2.1, keepCell hb hHeld.2.2.2.2.2.2.1, keepCell hb hHeld.2.2.2.2.2.2.2.1, hHeld.2.2.2.2.2.2.2.2.trans (hb.mono hHeld.2.2.2.2.2.2.2.2.size)⟩; clear hb); refine hK.out _ _ hs (fun hHeld => ?_); clear hK K; (try simp only [Act.put, List.setIfInBounds_toArray, List.set_cons_zero, List.set_cons_succ]))
  (refine takeW (i := 7) (v := ?_) rfl (by kernel_rfl) (by kernel_rfl) (by kernel_rfl) (fun _ _ _ h => h) (by rfl) (by assumption) ?_ ?_; rotate_left; (intro W hW; (try dsimp only at hW); go_simp; try with_reducible rfl); (try simp only [Act.put, List.setIfInBounds_toArray, List.set_cons_zero, List.set_cons_succ]))
  (refine takeW (i := 8) (v := ?_) rfl (by kernel_rfl) (by kernel_rfl) (by kernel_rfl) (fun _ _ _ h => h) (by rfl) (by assumption) ?_ ?_; rotate_left; (intro W hW; (try dsimp only at hW); go_simp; try with_reducible rfl); (try simp only [Act.put, List.setIfInBounds_toArray, List.set_cons_zero, List.set_cons_succ]))
  (refine takeW (i := 9) (v := ?_) rfl (by kernel_rfl) (by kernel_rfl) (by kernel_rfl) (fun _ _ _ h => h) (by rfl) (by assumption) ?_ ?_; rotate_left; (intro W hW; (try dsimp only at hW); go_simp; try with_reducible rfl); (try simp only [Act.put, List.setIfInBounds_toArray, List.set_cons_zero, List.set_cons_succ]))
  (refine takeW (i := 10) (v := ?_) rfl (by kernel_rfl) (by kernel_rfl) (by kernel_rfl) (fun _ _ _ h => h) (by rfl) (by assumption) ?_ ?_; rotate_left; (intro W hW; (try dsimp only at hW); go_simp; try with_reducible rfl); (try simp only [Act.put, List.setIfInBounds_toArray, List.set_cons_zero, List.set_cons_succ]))
  refine wpAnyH_done (by kernel_rfl) ?_ _
  skip
  go_wp2
  go_ret3
  exact ⟨rfl, hb1.out.trans (hHeld.2.2.2.2.2.2.2.2.mono hb1.out.size)⟩
end Go.Proofs.YtkinhhkodaacjaaGreatDoor
namespace Go.Proofs.YtkinhhkodaacjaaGreatDoor
open Go.RowKit Go.Shelf
open Md

/-- The cells of a list. -/
abbrev mec (m : Me) : Array Value := #[.int .i64 m.nodes, .int .i64 m.slot, .int .i64 m.gap, .int .i64 m.win, .int .i64 m.drift, .int .i64 m.delay, .slice m.cold.a m.cold.l.length m.cold.c, .slice m.ma m.ml.length m.mc]

theorem check1_any (m : Me) (x : Mo) (g : Nat) (hcl : (m.cold.l.length : Int) = m.nodes) (w : World) (h : GoodMe w m) (hx : GoodMo w x) (hB : Blk w g 38 (mec m)) :
    Calls Tryz.prog 84 #[mov x, .pointer (some ⟨g, 0, none⟩)] w fun e w' => e = .returned (.bool (!okMode m x)) ∧ Below w.heap.size w w' := by
  have hm := fun W (hW : Below w.heap.size w W) => isMode_any m x hcl W (h.below hW) (hx.below hW)
  have hg := hB.lt
  obtain ⟨nodes, slot, gap, win, drift, delay, ⟨ca, cc, cl⟩, ma, mc, ml⟩ := m
  obtain ⟨⟨da, dc, dl⟩, ⟨ea, ec, el⟩, ⟨na, nc, nl⟩⟩ := x
  unfold mev mov mec at *
  simp only at hm hB ⊢
  obtain ⟨m0, m1, m2, m3, m4, m5, m6, m7⟩ := hB.eight
  clear h hx hcl hB
  generalize okMode _ _ = z at *
  go_enter Tryz.func84, Tryz.ntmps84
  go_wp2_with fail
  refine (hm _ (below1 _ _)).mono ?_
  rintro e w1 ⟨rfl, hb⟩
  go_wp2
  go_ret
  exact ⟨rfl, bt (below1 _ _) hb⟩

set_option maxRecDepth 100000 in
set_option maxHeartbeats 1600000 in
theorem indexMo_any (m : Me) (g : Nat) (hcl : (m.cold.l.length : Int) = m.nodes) (w : World) (h : GoodMe w m) (hB : Blk w g 38 (mec m)) :
    Calls Tryz.prog 104 #[.slice m.ma m.ml.length m.mc, .func (.func 84) #[] #[.pointer (some ⟨g, 0, none⟩)]] w fun e w' => (∃ r : Int, e = .returned (.int .i64 r) ∧ decide (0 ≤ r) = !(m.ml.all (okMode m))) ∧ Below w.heap.size w w' := by
  have hlen := h.1.2.1.len
  have HM := Lib.hid h
  have HB := Lib.hid hB
  have hc1 : ∀ x W, Below w.heap.size w W → GoodMo W x → _ := fun x W hW hx => check1_any m x g hcl W (h.below hW) hx (hB.keep hW)
  have HC1 := Lib.hid hc1
  have HS : Hid (∀ k x, m.ml[k]? = some x → (m.ml.take (k + 1)).all (okMode m) = ((m.ml.take k).all (okMode m) && okMode m x)) := fun k x hx => all_snoc _ hx
  have HF : Hid (∀ k x, m.ml[k]? = some x → okMode m x = false → m.ml.all (okMode m) = false) := fun k x hx h0 => by
    rw [Bool.eq_false_iff]
    intro h1
    have := List.all_eq_true.1 h1 x (List.mem_of_getElem? hx)
    rw [h0] at this
    cases this
  clear h hB hc1 hcl
  generalize hml : m.ml = ml at *
  have HML := Lib.hid hml
  clear hml
  generalize hok : okMode m = ok at *
  clear hok
  go_enter Tryz.func104, Tryz.ntmps104
  go_wp2
  go_loopw [8] (fun i wr => ∃ k : Nat, k ≤ ml.length ∧ i = .int .i64 k ∧ Hid ((ml.take k).all ok = true) ∧ Hid (Below w.heap.size w wr)) (fun i _ => ml.length - (intOf i).toNat)
  case atStart => exact ⟨0, Nat.zero_le _, rfl, rfl, Below.refl _ _⟩
  case round =>
    obtain ⟨k, hk, rfl, HR, HBl⟩ := hrel
    by_cases hlt : k < ml.length
    · obtain ⟨x, hx⟩ : ∃ x, ml[k]? = some x := ⟨_, List.getElem?_eq_getElem hlt⟩
      have hG := HM.out.below HBl.out
      have hrd := hG.1.2.1
      rw [HML.out] at hrd
      obtain ⟨b, off, hma, hbl, hcc⟩ := hrd.row (by intro h0; rw [h0] at hx; simp at hx)
      have e0 : wr.cell? ⟨b, off + k * 3, none⟩ = some (.slice x.d.a x.d.l.length x.d.c) := hcc k x hx 0 _ rfl
      have e1 : wr.cell? ⟨b, off + k * 3 + 1, none⟩ = some (.slice x.e.a x.e.l.length x.e.c) := hcc k x hx 1 _ rfl
      have e2 : wr.cell? ⟨b, off + k * 3 + 2, none⟩ = some (.slice x.n.a x.n.l.length x.n.c) := hcc k x hx 2 _ rfl
      have hck := HC1.out x wr HBl.out (hG.1.2.2 x (by rw [HML.out]; exact List.mem_of_getElem? hx))
      have HSx := Lib.hid (HS.out k x hx)
      have HFx := Lib.hid (HF.out k x hx)
      clear hG hrd hcc hx hbl
      generalize ok x = z at *
      obtain ⟨⟨da, dc, dl⟩, ⟨ea, ec, el⟩, ⟨na, nc, nl⟩⟩ := x
      unfold mov at hck
      simp only at e0 e1 e2 hck
      rw [hma]
      clear hma
      cases z
      · go_wp2_with fail
        refine hck.mono ?_
        rintro e w1 ⟨rfl, hb⟩
        go_wp2
        go_ret
        exact ⟨⟨_, rfl, by rw [HFx.out (by first | rfl | trivial)]; simp⟩, HBl.out.trans (hb.mono HBl.out.size)⟩
      · go_wp2_with fail
        refine hck.mono ?_
        rintro e w1 ⟨rfl, hb⟩
        go_wp2
        go_roundw
        case rel => exact ⟨k + 1, by omega, by go_num, by show _ = _; rw [HSx.out, HR.out]; rfl, HBl.out.trans (hb.mono HBl.out.size)⟩
        case measure => simp [intOf]; omega
    · obtain rfl : k = ml.length := by omega
      go_wp2
      go_ret
      exact ⟨⟨_, rfl, by have := HR.out; rw [List.take_length] at this; rw [this]; rfl⟩, HBl.out⟩

theorem containsMo_any (m : Me) (g : Nat) (hcl : (m.cold.l.length : Int) = m.nodes) (w : World) (h : GoodMe w m) (hB : Blk w g 38 (mec m)) :
    Calls Tryz.prog 83 #[.slice m.ma m.ml.length m.mc, .func (.func 84) #[] #[.pointer (some ⟨g, 0, none⟩)]] w fun e w' => e = .returned (.bool (!(m.ml.all (okMode m)))) ∧ Below w.heap.size w w' := by
  have hi := indexMo_any m g hcl w h hB
  clear h hB hcl
  generalize m.ml.all (okMode m) = z at *
  generalize m.ml.length = L at *
  generalize m.ma = a at *
  generalize m.mc = c at *
  go_enter Tryz.func83, Tryz.ntmps83
  go_wp2_with fail
  refine hi.mono ?_
  rintro e w1 ⟨⟨r, rfl, hr⟩, hb⟩
  have HR := Lib.hid hr
  clear hr
  go_wp2
  go_ret
  exact ⟨ret_bool HR.out, hb⟩
end Go.Proofs.YtkinhhkodaacjaaGreatDoor
namespace Go.Proofs.YtkinhhkodaacjaaGreatDoor
open Go.RowKit Go.Shelf
open Md

theorem boxKeep {w W W' : World} {b : Nat} {t : TypeId} {cs : Array Value} (h : Blk W b t cs ∧ Below w.heap.size w W) (hb : Below W.heap.size W W') : Blk W' b t cs ∧ Below w.heap.size w W' :=
  ⟨h.1.keep hb, h.2.trans (hb.mono h.2.size)⟩

set_option maxRecDepth 100000 in
set_option maxHeartbeats 6400000 in
theorem mcheck_any (m : Me) (w : World) (h : GoodMe w m) : Calls Tryz.prog 61 #[mev m] w fun e w' => e = .returned (.int .i64 (errM m)) ∧ Below w.heap.size w w' := by
  have hco : ∀ W, Below w.heap.size w W → _ := fun W hW => counts_any m W (h.below hW)
  have HCO : Hid (okCounts m = (decide (4 ≤ m.nodes) && decide (m.nodes ≤ 8) && decide (1 ≤ m.ml.length) && decide (m.ml.length ≤ 4) && decide ((m.cold.l.length : Int) = m.nodes) && decide (2 ≤ trues m.cold.l))) := rfl
  have HCN : Hid (∀ W g, Below w.heap.size w W → (m.cold.l.length : Int) = m.nodes → Blk W g 38 (mec m) → _) := fun W g hW hcl hB => containsMo_any m g hcl W (h.below hW) hB
  have HLE : Hid (∀ W, Below w.heap.size w W → 4 ≤ m.nodes → m.nodes ≤ 8 → 0 ≤ m.drift → m.drift ≤ 64 → 0 ≤ m.delay → m.delay ≤ 64 → 0 ≤ m.win → m.win ≤ 1048576 → 0 ≤ m.gap → m.gap ≤ 1048576 → _) := fun W hW a b c d e f g h' i j => mleast_any m W (h.below hW) a b c d e f g h' i j
  have HOK : Hid (okM m = (okCounts m && m.ml.all (okMode m) && (decide (0 ≤ m.drift) && decide (m.drift ≤ 64) && decide (0 ≤ m.delay) && decide (m.delay ≤ 64) && decide (m.win ≤ 1048576) && decide (m.gap ≤ 1048576) && decide (m.slot ≤ 16777216)) &&
    (decide (16 * m.nodes * m.drift + 16 ≤ m.win) && decide (2 * m.win + 2 * m.delay + 4 ≤ m.gap) && decide (2 * m.gap + maxAir m ≤ m.slot)))) := rfl
  have HER : Hid (errM m = if okM m then 0 else 70) := rfl
  have hair := airTo_bd m m.ml.length
  rw [show airTo m m.ml.length = maxAir m from rfl] at hair
  have HND := Lib.hid (@nd_bd m.nodes m.drift)
  obtain ⟨nodes, slot, gap, win, drift, delay, ⟨ca, cc, cl⟩, ma, mc, ml⟩ := m
  unfold mev at *
  unfold mec at HCN
  simp only at *
  generalize maxAir _ = A at *
  generalize okCounts _ = c at *
  generalize ml.all _ = q2 at *
  generalize okM _ = ok at *
  generalize errM _ = z at *
  have HNO : Hid (ok = false → z = 70) := fun h => by rw [HER.out, h]; rfl
  have HYES : Hid (ok = true → z = 0) := fun h => by rw [HER.out, h]; rfl
  have HJ : Hid (Blk (w.alloc (.cells #[.int .i64 nodes, .int .i64 slot, .int .i64 gap, .int .i64 win, .int .i64 drift, .int .i64 delay, .slice ca cl.length cc, .slice ma ml.length mc] 38)) w.heap.size 38 #[.int .i64 nodes, .int .i64 slot, .int .i64 gap, .int .i64 win, .int .i64 drift, .int .i64 delay, .slice ca cl.length cc, .slice ma ml.length mc] ∧ Below w.heap.size w (w.alloc (.cells #[.int .i64 nodes, .int .i64 slot, .int .i64 gap, .int .i64 win, .int .i64 drift, .int .i64 delay, .slice ca cl.length cc, .slice ma ml.length mc] 38))) := ⟨Blk.new' rfl, below1 w _⟩
  clear h HER
  go_enter Tryz.func61, Tryz.ntmps61
  go_wp2_with fail
  refine (hco _ HJ.out.2).mono ?_
  rintro e w1 ⟨rfl, hb⟩
  replace HJ := Lib.hid (boxKeep HJ.out hb)
  clear hb hco
  obtain ⟨m0, m1, m2, m3, m4, m5, m6, m7⟩ := HJ.out.1.eight
  cases c
  · go_wp2
    go_ret
    exact ⟨ret_int (HNO.out (by rw [HOK.out]; rfl)).symm, HJ.out.2⟩
  have hco := HCO.out
  have hn : 4 ≤ nodes ∧ nodes ≤ 8 ∧ (cl.length : Int) = nodes := by
    have := hco.symm
    simp only [Bool.and_eq_true, decide_eq_true_eq] at this
    exact ⟨this.1.1.1.1.1, this.1.1.1.1.2, this.1.2⟩
  obtain ⟨hn0, hn1, hn2⟩ := hn
  have HN2 := Lib.hid hn2
  clear hco hn2 HCO
  go_wp2_with fail
  refine (HCN.out _ _ HJ.out.2 HN2.out HJ.out.1).mono ?_
  rintro e w2 ⟨rfl, hb⟩
  clear m0 m1 m2 m3 m4 m5 m6 m7
  replace HJ := Lib.hid (boxKeep HJ.out hb)
  clear hb HCN
  obtain ⟨m0, m1, m2, m3, m4, m5, m6, m7⟩ := HJ.out.1.eight
  cases q2
  · go_wp2
    go_ret
    exact ⟨ret_int (HNO.out (by rw [HOK.out]; rfl)).symm, HJ.out.2⟩
  by_cases hd : 0 ≤ drift ∧ drift ≤ 64
  rotate_left
  · have q : (decide (0 ≤ drift) && decide (drift ≤ 64)) = false := by simp; omega
    have HW := Lib.hid (fun W => within7_any drift 0 64 W)
    rw [q] at HW
    have HN := Lib.hid hd
    clear q hd
    go_wp2_with fail
    refine (HW.out _).mono ?_
    rintro e w' ⟨rfl, rfl⟩
    go_wp2
    go_ret
    exact ⟨ret_int (HNO.out (by have := HN.out; rw [HOK.out]; simp only [Bool.true_and, Bool.and_eq_false_iff, decide_eq_false_iff_not]; omega)).symm, HJ.out.2⟩
  obtain ⟨hda, hdb⟩ := hd
  have q : (decide (0 ≤ drift) && decide (drift ≤ 64)) = true := by simp; omega
  have HWd := Lib.hid (fun W => within7_any drift 0 64 W)
  rw [q] at HWd
  clear q
  go_wp2_with fail
  refine (HWd.out _).mono ?_
  rintro e w' ⟨rfl, rfl⟩
  by_cases he : 0 ≤ delay ∧ delay ≤ 64
  rotate_left
  · have q : (decide (0 ≤ delay) && decide (delay ≤ 64)) = false := by simp; omega
    have HW := Lib.hid (fun W => within7_any delay 0 64 W)
    rw [q] at HW
    have HN := Lib.hid he
    clear q he
    go_wp2_with fail
    refine (HW.out _).mono ?_
    rintro e w' ⟨rfl, rfl⟩
    go_wp2
    go_ret
    exact ⟨ret_int (HNO.out (by have := HN.out; rw [HOK.out]; simp only [Bool.true_and, Bool.and_eq_false_iff, decide_eq_false_iff_not]; omega)).symm, HJ.out.2⟩
  obtain ⟨hea, heb⟩ := he
  have q : (decide (0 ≤ delay) && decide (delay ≤ 64)) = true := by simp; omega
  have HWe := Lib.hid (fun W => within7_any delay 0 64 W)
  rw [q] at HWe
  clear q
  go_wp2_with fail
  refine (HWe.out _).mono ?_
  rintro e w' ⟨rfl, rfl⟩
  by_cases hw : 0 ≤ win ∧ win ≤ 1048576
  rotate_left
  · have q : (decide (0 ≤ win) && decide (win ≤ 1048576)) = false := by simp; omega
    have HW := Lib.hid (fun W => within7_any win 0 1048576 W)
    rw [q] at HW
    have HN := Lib.hid hw
    clear q hw
    go_wp2_with fail
    refine (HW.out _).mono ?_
    rintro e w' ⟨rfl, rfl⟩
    go_wp2
    go_ret
    exact ⟨ret_int (HNO.out (by have := HN.out; rw [HOK.out]; simp only [Bool.true_and, Bool.and_eq_false_iff, decide_eq_false_iff_not]; have hg9 := HND.out (by omega) (by omega) (by omega) (by omega); generalize 16 * nodes * drift = ND at *; omega)).symm, HJ.out.2⟩
  obtain ⟨hwa, hwb⟩ := hw
  have q : (decide (0 ≤ win) && decide (win ≤ 1048576)) = true := by simp; omega
  have HWw := Lib.hid (fun W => within7_any win 0 1048576 W)
  rw [q] at HWw
  clear q
  go_wp2_with fail
  refine (HWw.out _).mono ?_
  rintro e w' ⟨rfl, rfl⟩
  by_cases hg : 0 ≤ gap ∧ gap ≤ 1048576
  rotate_left
  · have q : (decide (0 ≤ gap) && decide (gap ≤ 1048576)) = false := by simp; omega
    have HW := Lib.hid (fun W => within7_any gap 0 1048576 W)
    rw [q] at HW
    have HN := Lib.hid hg
    clear q hg
    go_wp2_with fail
    refine (HW.out _).mono ?_
    rintro e w' ⟨rfl, rfl⟩
    go_wp2
    go_ret
    exact ⟨ret_int (HNO.out (by have := HN.out; rw [HOK.out]; simp only [Bool.true_and, Bool.and_eq_false_iff, decide_eq_false_iff_not]; have hg9 := HND.out (by omega) (by omega) (by omega) (by omega); generalize 16 * nodes * drift = ND at *; omega)).symm, HJ.out.2⟩
  obtain ⟨hga, hgb⟩ := hg
  have q : (decide (0 ≤ gap) && decide (gap ≤ 1048576)) = true := by simp; omega
  have HWg := Lib.hid (fun W => within7_any gap 0 1048576 W)
  rw [q] at HWg
  clear q
  go_wp2_with fail
  refine (HWg.out _).mono ?_
  rintro e w' ⟨rfl, rfl⟩
  by_cases hs : 0 ≤ slot ∧ slot ≤ 16777216
  rotate_left
  · have q : (decide (0 ≤ slot) && decide (slot ≤ 16777216)) = false := by simp; omega
    have HW := Lib.hid (fun W => within7_any slot 0 16777216 W)
    rw [q] at HW
    have HN := Lib.hid hs
    clear q hs
    go_wp2_with fail
    refine (HW.out _).mono ?_
    rintro e w' ⟨rfl, rfl⟩
    go_wp2
    go_ret
    exact ⟨ret_int (HNO.out (by have := HN.out; rw [HOK.out]; simp only [Bool.true_and, Bool.and_eq_false_iff, decide_eq_false_iff_not]; have hg9 := HND.out (by omega) (by omega) (by omega) (by omega); generalize 16 * nodes * drift = ND at *; omega)).symm, HJ.out.2⟩
  obtain ⟨hsa, hsb⟩ := hs
  have q : (decide (0 ≤ slot) && decide (slot ≤ 16777216)) = true := by simp; omega
  have HWs := Lib.hid (fun W => within7_any slot 0 16777216 W)
  rw [q] at HWs
  clear q
  go_wp2_with fail
  refine (HWs.out _).mono ?_
  rintro e w' ⟨rfl, rfl⟩
  have hnd := HND.out hn0 hn1 hda hdb
  have hle := HLE.out _ HJ.out.2 hn0 hn1 hda hdb hea heb hwa hwb hga hgb
  clear HLE HND HWd HWe HWw HWg HWs
  generalize 16 * nodes * drift = ND at *
  go_wp2_with fail
  refine hle.mono ?_
  rintro e w3 ⟨rfl, hb⟩
  clear m0 m1 m2 m3 m4 m5 m6 m7
  replace HJ := Lib.hid (boxKeep HJ.out hb)
  clear hb hle
  obtain ⟨m0, m1, m2, m3, m4, m5, m6, m7⟩ := HJ.out.1.eight
  by_cases k1 : win < ND + 16
  · go_wp2
    go_ret
    exact ⟨ret_int (HNO.out (by rw [HOK.out]; simp only [Bool.true_and, Bool.and_eq_false_iff, decide_eq_false_iff_not]; omega)).symm, HJ.out.2⟩
  by_cases k2 : gap < 2 * win + 2 * delay + 4
  · go_wp2
    go_ret
    exact ⟨ret_int (HNO.out (by rw [HOK.out]; simp only [Bool.true_and, Bool.and_eq_false_iff, decide_eq_false_iff_not]; omega)).symm, HJ.out.2⟩
  by_cases k3 : slot < 2 * gap + A
  · go_wp2
    go_ret
    exact ⟨ret_int (HNO.out (by rw [HOK.out]; simp only [Bool.true_and, Bool.and_eq_false_iff, decide_eq_false_iff_not]; omega)).symm, HJ.out.2⟩
  go_wp2
  go_ret
  exact ⟨ret_int (HYES.out (by rw [HOK.out]; simp only [Bool.true_and, Bool.and_eq_true, decide_eq_true_eq]; omega)).symm, HJ.out.2⟩
end Go.Proofs.YtkinhhkodaacjaaGreatDoor
namespace Go.Proofs.YtkinhhkodaacjaaGreatDoor
open Go.RowKit Go.Shelf
open Md

end Go.Proofs.YtkinhhkodaacjaaGreatDoor
