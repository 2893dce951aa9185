/- Contracts: which modes may be, of the program and of the document. -/
import Derived.Test.YtimcljlbjnhpnaaM3
namespace Go.Proofs.Ytimcljlbjnhpnaa
open Go.RowKit Go.Shelf
open Md

set_option maxRecDepth 100000 in
set_option maxHeartbeats 6400000 in
theorem isMode_any (m : Me) (x : Mo) (hcl : (m.cold.l.length : Int) = m.nodes) (w : World) (h : GoodMe w m) (hx : GoodMo w x) : Calls Try.prog 51 #[mev m, mov x] w fun e w' => e = .returned (.bool (okMode m x)) ∧ Below w.heap.size w w' := by
  have HC := Lib.hid h.1.1
  have hlen := Rd.len h.1.1
  have hml := h.1.2.1.len
  have HNO := Lib.hid (@okMode_len m x)
  have HALL := Lib.hid (@okMode_all m x)
  have HOA : Hid (∀ k, okAt m x k = (decide (0 ≤ x.d.l.getD k 0) && decide (x.d.l.getD k 0 ≤ 8) && (!(m.cold.l.getD k false) || x.e.l.getD k false))) := fun _ => rfl
  have HLT : Hid (∀ n k, k < n → okAt m x k = false → (List.range n).all (okAt m x) = false) := fun n k hk h => range_all_lt hk h
  have HS : Hid (∀ k, (List.range (k + 1)).all (okAt m x) = ((List.range k).all (okAt m x) && okAt m x k)) := fun k => range_all_succ _ k
  have HX := Lib.hid hx
  have hdl := hx.1.1.len
  have hel := Rd.len hx.2.1
  have hnl := Rd.len hx.2.2
  obtain ⟨nodes, slot, gap, win, drift, delay, ⟨ca, cc, cl⟩, ma, mc, ml⟩ := m
  obtain ⟨⟨da, dc, dl⟩, ⟨ea, ec, el⟩, ⟨na, nc, nl⟩⟩ := x
  unfold mev mov
  simp only at hlen hml HNO HALL HOA hdl hel hnl hcl ⊢
  clear h hx
  generalize okMode _ _ = z at *
  generalize okAt _ _ = oA at *
  have HCL := Lib.hid hcl
  clear hcl
  have hW : ∀ W0, (w.alloc (.cells #[.int .i64 nodes, .int .i64 slot, .int .i64 gap, .int .i64 win, .int .i64 drift, .int .i64 delay, .slice ca cl.length cc, .slice ma ml.length mc] 25)).alloc (.cells #[.slice da dl.length dc, .slice ea el.length ec, .slice na nl.length nc] 69) = W0 → Below w.heap.size w W0 ∧ Blk W0 w.heap.size 25 #[.int .i64 nodes, .int .i64 slot, .int .i64 gap, .int .i64 win, .int .i64 drift, .int .i64 delay, .slice ca cl.length cc, .slice ma ml.length mc] ∧ Blk W0 (w.heap.size + 1) 69 #[.slice da dl.length dc, .slice ea el.length ec, .slice na nl.length nc] := by
    rintro _ rfl
    exact ⟨below2 w _ _, (Blk.new' rfl).alloc _, Blk.new' (by simp)⟩
  go_enter Try.func51, Try.ntmps51
  by_cases h1 : (dl.length : Int) = nodes
  rotate_left
  · have q1 : ((dl.length : Int) != nodes) = true := by simpa using h1
    have HN := Lib.hid (HNO.out (fun h => h1 h.1))
    clear h1
    go_wp2
    go_ret
    exact ⟨ret_bool HN.out.symm, below2 w _ _⟩
  have q1 : ((dl.length : Int) != nodes) = false := by simpa using h1
  have H1 := Lib.hid h1
  clear h1
  by_cases h2 : (el.length : Int) = nodes
  rotate_left
  · have q2 : ((el.length : Int) != nodes) = true := by simpa using h2
    have HN := Lib.hid (HNO.out (fun h => h2 h.2.1))
    clear h2
    go_wp2
    go_ret
    exact ⟨ret_bool HN.out.symm, below2 w _ _⟩
  have q2 : ((el.length : Int) != nodes) = false := by simpa using h2
  have H2 := Lib.hid h2
  clear h2
  by_cases h3 : nl.length = ml.length
  rotate_left
  · have q3 : ((nl.length : Int) != (ml.length : Int)) = true := by rw [bne_iff_ne]; omega
    have HN := Lib.hid (HNO.out (fun h => h3 h.2.2))
    clear h3
    go_wp2
    go_ret
    exact ⟨ret_bool HN.out.symm, below2 w _ _⟩
  have q3 : ((nl.length : Int) != (ml.length : Int)) = false := by rw [bne_eq_false_iff_eq]; omega
  have HA := Lib.hid (HALL.out H1.out H2.out h3)
  clear h3
  go_wp2_with fail
  clear q1 q2 q3
  obtain ⟨hb, DM, DX⟩ := hW _ rfl
  generalize (w.alloc (.cells #[.int .i64 nodes, .int .i64 slot, .int .i64 gap, .int .i64 win, .int .i64 drift, .int .i64 delay, .slice ca cl.length cc, .slice ma ml.length mc] 25)).alloc (.cells #[.slice da dl.length dc, .slice ea el.length ec, .slice na nl.length nc] 69) = W0 at *
  have Hb := Lib.hid hb
  replace HC := Lib.hid (HC.out.below hb)
  replace HX := Lib.hid (HX.out.below hb)
  clear hW hb
  obtain ⟨m0, _, _, _, _, _, m6, m7⟩ := DM.eight
  obtain ⟨x0, x1, x2⟩ := DX.three
  have hk : dl.length = el.length := by have := H1.out; have := H2.out; omega
  have hk' : dl.length = cl.length := by have := H1.out; have := HCL.out; omega
  have HK := Lib.hid hk
  have HK' := Lib.hid hk'
  clear hk hk'
  go_loop [33] (fun i => ∃ k : Nat, k ≤ dl.length ∧ i = .int .i64 k ∧ Hid ((List.range k).all oA = true)) (fun i => dl.length - (intOf i).toNat)
  case atStart => exact ⟨0, Nat.zero_le _, rfl, rfl⟩
  case round =>
    obtain ⟨k, hk, rfl, HR⟩ := hrel
    by_cases hlt : k < dl.length
    · obtain ⟨d, hd⟩ : ∃ d, dl[k]? = some d := ⟨_, List.getElem?_eq_getElem hlt⟩
      obtain ⟨e, he⟩ : ∃ e, el[k]? = some e := ⟨_, List.getElem?_eq_getElem (by have := HK.out; omega)⟩
      obtain ⟨c, hc⟩ : ∃ c, cl[k]? = some c := ⟨_, List.getElem?_eq_getElem (by have := HK'.out; omega)⟩
      have hi1 : (k : Int) < (el.length : Int) := by have := HK.out; omega
      have hi2 : (k : Int) < (cl.length : Int) := by have := HK'.out; omega
      obtain ⟨g1, o1, h1, _, c1, hd64⟩ := HX.out.1.cell hd
      simp only at h1
      subst h1
      obtain ⟨g2, o2, h2, _, c2⟩ := HX.out.2.1.cell he
      simp only at h2
      subst h2
      obtain ⟨g3, o3, h3, _, c3⟩ := HC.out.cell hc
      simp only at h3
      subst h3
      have HK0 : Hid (oA k = (decide (0 ≤ d) && decide (d ≤ 8) && (!c || e))) := by
        show _ = _
        rw [HOA.out, List.getD_eq_getElem?_getD, List.getD_eq_getElem?_getD, List.getD_eq_getElem?_getD, hd, he, hc]
        rfl
      clear hd he hc
      have HW := Lib.hid (within7_any d 0 8 W0)
      generalize hq : (decide (0 ≤ d) && decide (d ≤ 8)) = q at *
      clear hq
      cases q
      · go_wp2_with (go_at_call 52; refine HW.out.mono ?_; rintro en w' ⟨rfl, rfl⟩)
        go_ret
        exact ⟨ret_bool (by rw [HA.out]; exact (HLT.out _ k hlt (by rw [HK0.out]; rfl)).symm), Hb.out⟩
      · cases c
        · go_wp2_with (go_at_call 52; refine HW.out.mono ?_; rintro en w' ⟨rfl, rfl⟩)
          go_round
          case rel => exact ⟨k + 1, by omega, by go_num, by show _ = _; rw [HS.out, HR.out, HK0.out]; rfl⟩
          case measure => simp [intOf]; omega
        · cases e
          · go_wp2_with (go_at_call 52; refine HW.out.mono ?_; rintro en w' ⟨rfl, rfl⟩)
            go_ret
            exact ⟨ret_bool (by rw [HA.out]; exact (HLT.out _ k hlt (by rw [HK0.out]; rfl)).symm), Hb.out⟩
          · go_wp2_with (go_at_call 52; refine HW.out.mono ?_; rintro en w' ⟨rfl, rfl⟩)
            go_round
            case rel => exact ⟨k + 1, by omega, by go_num, by show _ = _; rw [HS.out, HR.out, HK0.out]; rfl⟩
            case measure => simp [intOf]; omega
    · obtain rfl : k = dl.length := by omega
      go_wp2
      go_ret
      exact ⟨ret_bool (by rw [HA.out]; exact HR.out.symm), Hb.out⟩

set_option maxRecDepth 100000 in
set_option maxHeartbeats 6400000 in
theorem rmode_any (m : Me) (x : Mo) (hcl : (m.cold.l.length : Int) = m.nodes) (w : World) (h : GoodMe w m) (hx : GoodMo w x) : Calls Try.prog 45 #[mov x, mev m] w fun e w' => e = .returned (.bool (okMode m x)) ∧ Below w.heap.size w w' := by
  have HC := Lib.hid h.1.1
  have hlen := Rd.len h.1.1
  have hml := h.1.2.1.len
  have HNO := Lib.hid (@okMode_len m x)
  have HALL := Lib.hid (@okMode_all m x)
  have HOA : Hid (∀ k, okAt m x k = (decide (0 ≤ x.d.l.getD k 0) && decide (x.d.l.getD k 0 ≤ 8) && (!(m.cold.l.getD k false) || x.e.l.getD k false))) := fun _ => rfl
  have HLT : Hid (∀ n k, k < n → okAt m x k = false → (List.range n).all (okAt m x) = false) := fun n k hk h => range_all_lt hk h
  have HS : Hid (∀ k, (List.range (k + 1)).all (okAt m x) = ((List.range k).all (okAt m x) && okAt m x k)) := fun k => range_all_succ _ k
  have HX := Lib.hid hx
  have hdl := hx.1.1.len
  have hel := Rd.len hx.2.1
  have hnl := Rd.len hx.2.2
  obtain ⟨nodes, slot, gap, win, drift, delay, ⟨ca, cc, cl⟩, ma, mc, ml⟩ := m
  obtain ⟨⟨da, dc, dl⟩, ⟨ea, ec, el⟩, ⟨na, nc, nl⟩⟩ := x
  unfold mev mov
  simp only at hlen hml HNO HALL HOA hdl hel hnl hcl ⊢
  clear h hx
  generalize okMode _ _ = z at *
  generalize okAt _ _ = oA at *
  have HCL := Lib.hid hcl
  clear hcl
  have hW : ∀ W0, (w.alloc (.cells #[.slice da dl.length dc, .slice ea el.length ec, .slice na nl.length nc] 69)).alloc (.cells #[.int .i64 nodes, .int .i64 slot, .int .i64 gap, .int .i64 win, .int .i64 drift, .int .i64 delay, .slice ca cl.length cc, .slice ma ml.length mc] 25) = W0 → Below w.heap.size w W0 ∧ Blk W0 (w.heap.size + 1) 25 #[.int .i64 nodes, .int .i64 slot, .int .i64 gap, .int .i64 win, .int .i64 drift, .int .i64 delay, .slice ca cl.length cc, .slice ma ml.length mc] ∧ Blk W0 w.heap.size 69 #[.slice da dl.length dc, .slice ea el.length ec, .slice na nl.length nc] := by
    rintro _ rfl
    exact ⟨below2 w _ _, Blk.new' (by simp), (Blk.new' rfl).alloc _⟩
  go_enter Try.func45, Try.ntmps45
  by_cases h1 : (dl.length : Int) = nodes
  rotate_left
  · have q1 : ((dl.length : Int) != nodes) = true := by simpa using h1
    have HN := Lib.hid (HNO.out (fun h => h1 h.1))
    clear h1
    go_wp2
    go_ret
    exact ⟨ret_bool HN.out.symm, below2 w _ _⟩
  have q1 : ((dl.length : Int) != nodes) = false := by simpa using h1
  have H1 := Lib.hid h1
  clear h1
  by_cases h2 : (el.length : Int) = nodes
  rotate_left
  · have q2 : ((el.length : Int) != nodes) = true := by simpa using h2
    have HN := Lib.hid (HNO.out (fun h => h2 h.2.1))
    clear h2
    go_wp2
    go_ret
    exact ⟨ret_bool HN.out.symm, below2 w _ _⟩
  have q2 : ((el.length : Int) != nodes) = false := by simpa using h2
  have H2 := Lib.hid h2
  clear h2
  by_cases h3 : nl.length = ml.length
  rotate_left
  · have q3 : ((nl.length : Int) != (ml.length : Int)) = true := by rw [bne_iff_ne]; omega
    have HN := Lib.hid (HNO.out (fun h => h3 h.2.2))
    clear h3
    go_wp2
    go_ret
    exact ⟨ret_bool HN.out.symm, below2 w _ _⟩
  have q3 : ((nl.length : Int) != (ml.length : Int)) = false := by rw [bne_eq_false_iff_eq]; omega
  have HA := Lib.hid (HALL.out H1.out H2.out h3)
  clear h3
  go_wp2_with fail
  clear q1 q2 q3
  obtain ⟨hb, DM, DX⟩ := hW _ rfl
  generalize (w.alloc (.cells #[.slice da dl.length dc, .slice ea el.length ec, .slice na nl.length nc] 69)).alloc (.cells #[.int .i64 nodes, .int .i64 slot, .int .i64 gap, .int .i64 win, .int .i64 drift, .int .i64 delay, .slice ca cl.length cc, .slice ma ml.length mc] 25) = W0 at *
  have Hb := Lib.hid hb
  replace HC := Lib.hid (HC.out.below hb)
  replace HX := Lib.hid (HX.out.below hb)
  clear hW hb
  obtain ⟨m0, _, _, _, _, _, m6, m7⟩ := DM.eight
  obtain ⟨x0, x1, x2⟩ := DX.three
  have hk : dl.length = el.length := by have := H1.out; have := H2.out; omega
  have hk' : dl.length = cl.length := by have := H1.out; have := HCL.out; omega
  have HK := Lib.hid hk
  have HK' := Lib.hid hk'
  clear hk hk'
  go_loop [5] (fun i => ∃ k : Nat, k ≤ dl.length ∧ i = .int .i64 k ∧ Hid (∀ j, j < k → (decide (0 ≤ dl.getD j 0) && decide (dl.getD j 0 ≤ 8)) = true)) (fun i => dl.length - (intOf i).toNat)
  case atStart => exact ⟨0, Nat.zero_le _, rfl, fun j hj => absurd hj (by omega)⟩
  case round =>
    obtain ⟨k, hk, rfl, HR⟩ := hrel
    by_cases hlt : k < dl.length
    · obtain ⟨d, hd⟩ : ∃ d, dl[k]? = some d := ⟨_, List.getElem?_eq_getElem hlt⟩
      obtain ⟨g1, o1, h1, _, c1, hd64⟩ := HX.out.1.cell hd
      simp only at h1
      subst h1
      have HG : Hid (dl.getD k 0 = d) := by show _ = _; rw [List.getD_eq_getElem?_getD, hd]; rfl
      clear hd
      by_cases h0 : d < 0
      · go_wp2
        go_ret
        exact ⟨ret_bool (by rw [HA.out]; exact (HLT.out _ k hlt (by rw [HOA.out, HG.out]; simp; omega)).symm), Hb.out⟩
      · by_cases h8 : 8 < d
        · go_wp2
          go_ret
          exact ⟨ret_bool (by rw [HA.out]; exact (HLT.out _ k hlt (by rw [HOA.out, HG.out]; simp; omega)).symm), Hb.out⟩
        · go_wp2
          go_round
          case rel => exact ⟨k + 1, by omega, by go_num, fun j hj => by
            by_cases hjk : j = k
            · subst hjk; rw [HG.out]; simp; omega
            · exact HR.out j (by omega)⟩
          case measure => simp [intOf]; omega
    · obtain rfl : k = dl.length := by omega
      go_wp2_with fail
      go_loop [6] (fun i => ∃ k : Nat, k ≤ dl.length ∧ i = .int .i64 k ∧ Hid ((List.range k).all oA = true)) (fun i => dl.length - (intOf i).toNat)
      case atStart => exact ⟨0, Nat.zero_le _, rfl, rfl⟩
      case round =>
        obtain ⟨k, hk, rfl, HR2⟩ := hrel
        by_cases hlt2 : k < dl.length
        · obtain ⟨e, he⟩ : ∃ e, el[k]? = some e := ⟨_, List.getElem?_eq_getElem (by have := HK.out; omega)⟩
          obtain ⟨c, hc⟩ : ∃ c, cl[k]? = some c := ⟨_, List.getElem?_eq_getElem (by have := HK'.out; omega)⟩
          have hi1 : (k : Int) < (el.length : Int) := by have := HK.out; omega
          have hi2 : (k : Int) < (cl.length : Int) := by have := HK'.out; omega
          obtain ⟨g2, o2, h2, _, c2⟩ := HX.out.2.1.cell he
          simp only at h2
          subst h2
          obtain ⟨g3, o3, h3, _, c3⟩ := HC.out.cell hc
          simp only at h3
          subst h3
          have HK0 : Hid (oA k = (!c || e)) := by
            show _ = _
            rw [HOA.out, HR.out k hlt2, List.getD_eq_getElem?_getD, List.getD_eq_getElem?_getD, he, hc]
            rfl
          clear he hc
          cases c
          · go_wp2
            go_round
            case rel => exact ⟨k + 1, by omega, by go_num, by show _ = _; rw [HS.out, HR2.out, HK0.out]; rfl⟩
            case measure => simp [intOf]; omega
          · cases e
            · go_wp2
              go_ret
              exact ⟨ret_bool (by rw [HA.out]; exact (HLT.out _ k hlt2 (by rw [HK0.out]; rfl)).symm), Hb.out⟩
            · go_wp2
              go_round
              case rel => exact ⟨k + 1, by omega, by go_num, by show _ = _; rw [HS.out, HR2.out, HK0.out]; rfl⟩
              case measure => simp [intOf]; omega
        · obtain rfl : k = dl.length := by omega
          have hi1 : ¬ ((dl.length : Int) < (el.length : Int)) := by have := HK.out; omega
          go_wp2
          go_ret
          exact ⟨ret_bool (by rw [HA.out]; exact HR2.out.symm), Hb.out⟩
end Go.Proofs.Ytimcljlbjnhpnaa
