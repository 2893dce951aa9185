/- Contracts: trues, MaxAir of the program and of the document. -/
import Derived.Test.YtimcljlbjnhpnaaM1
namespace Go.Proofs.Ytimcljlbjnhpnaa
open Go.RowKit Go.Shelf
open Md

set_option maxHeartbeats 1600000 in
theorem trues_any (b : Bl) (w : World) (h : Bls w b) : Calls Try.prog 44 #[.slice b.a b.l.length b.c] w fun e w' => e = .returned (.int .i64 (trues b.l : Nat)) ∧ w' = w := by
  have HB := Lib.hid h
  have hlen := Rd.len h
  obtain ⟨a, c, l⟩ := b
  simp only at hlen ⊢
  clear h
  go_enter Try.func44, Try.ntmps44
  go_wp2
  go_loop [3, 4] (fun n i => ∃ k : Nat, k ≤ l.length ∧ i = .int .i64 k ∧ n = .int .i64 ((trues (l.take k) : Nat) : Int)) (fun _ i => l.length - (intOf i).toNat)
  case atStart => exact ⟨0, Nat.zero_le _, rfl, rfl⟩
  case round =>
    obtain ⟨k, hk, rfl, rfl⟩ := hrel
    by_cases hlt : k < l.length
    · obtain ⟨x, hx⟩ : ∃ x, l[k]? = some x := ⟨_, List.getElem?_eq_getElem hlt⟩
      obtain ⟨g, off, rfl, hg, c0⟩ := HB.out.cell hx
      have HS : Hid (trues (l.take (k + 1)) = trues (l.take k) + if x then 1 else 0) := by
        show _ = _
        unfold trues
        rw [countP_snoc _ hx]
        rfl
      have hle : trues (l.take k) ≤ k := Nat.le_trans List.countP_le_length (List.length_take_le _ _)
      generalize trues (l.take k) = n at *
      clear hx
      cases x
      all_goals
        go_wp2
        go_round
        case rel => exact ⟨k + 1, by omega, by go_num, by rw [HS.out]; go_num⟩
        case measure => simp [intOf]; omega
    · obtain rfl : k = l.length := by omega
      go_wp2
      go_ret
      exact ⟨ret_int (by first | rfl | rw [List.take_length]), rfl⟩

set_option maxRecDepth 100000 in
set_option maxHeartbeats 6400000 in
theorem maxAir_any (m : Me) (w : World) (h : GoodMe w m) : Calls Try.prog 59 #[mev m] w fun e w' => e = .returned (.int .i64 (maxAir m)) ∧ Below w.heap.size w w' := by
  have HM : Hid (Rd encMo 3 w (.slice m.ma m.ml.length m.mc) m.ml ∧ ∀ x ∈ m.ml, GoodMo w x) := h.1.2
  have hlen := h.1.2.1.len
  have HS := Lib.hid (fun k x => @airTo_succ m k x)
  have HB := Lib.hid (airTo_bd m)
  have H0 : Hid (airTo m 0 = 34) := by show _ = _; simp [airTo]
  have HE : Hid (maxAir m = airTo m m.ml.length) := rfl
  obtain ⟨nodes, slot, gap, win, drift, delay, cold, ma, mc, ml⟩ := m
  unfold mev
  simp only at HM hlen HS HE ⊢
  clear h
  generalize airTo _ = aT at *
  generalize maxAir _ = mx at *
  have D : Hid (Blk (w.alloc (.cells #[.int .i64 nodes, .int .i64 slot, .int .i64 gap, .int .i64 win, .int .i64 drift, .int .i64 delay, .slice cold.a cold.l.length cold.c, .slice ma ml.length mc] 25)) w.heap.size 25 #[.int .i64 nodes, .int .i64 slot, .int .i64 gap, .int .i64 win, .int .i64 drift, .int .i64 delay, .slice cold.a cold.l.length cold.c, .slice ma ml.length mc]) := (Blk.new' rfl : Blk _ _ _ _)
  have hb1 := Lib.hid (below1 w (.cells #[.int .i64 nodes, .int .i64 slot, .int .i64 gap, .int .i64 win, .int .i64 drift, .int .i64 delay, .slice cold.a cold.l.length cold.c, .slice ma ml.length mc] 25))
  have hsz := fun W => size_any 1 0 W
  rw [show bitsOf 1 0 = 40 from rfl] at hsz
  have har := fun W => air_any 40 W
  rw [show air 40 = 34 from rfl] at har
  go_enter Try.func59, Try.ntmps59
  go_wp2_with (first | (go_at_call 68; refine (hsz _).mono ?_; rintro e w' ⟨rfl, rfl⟩) | (go_at_call 67; refine (har _).mono ?_; rintro e w' ⟨rfl, rfl⟩))
  clear hsz har
  generalize w.alloc (.cells #[.int .i64 nodes, .int .i64 slot, .int .i64 gap, .int .i64 win, .int .i64 drift, .int .i64 delay, .slice cold.a cold.l.length cold.c, .slice ma ml.length mc] 25) = W0 at *
  go_loopw [3, 14] (fun t i wr => ∃ k : Nat, k ≤ ml.length ∧ i = .int .i64 k ∧ t = .int .i64 (aT k) ∧ Hid (Below W0.heap.size W0 wr)) (fun _ i _ => ml.length - (intOf i).toNat)
  case atStart => exact ⟨0, Nat.zero_le _, rfl, by rw [H0.out], Below.refl _ _⟩
  case round =>
    obtain ⟨k, hk, rfl, rfl, hb⟩ := hrel
    by_cases hlt : k < ml.length
    · obtain ⟨x, hx⟩ : ∃ x, ml[k]? = some x := ⟨_, List.getElem?_eq_getElem hlt⟩
      have hbw := hb1.out.trans (hb.out.mono hb1.out.size)
      have hMo := HM.out.1.below hbw
      obtain ⟨b, off, rfl, hbl, hcc⟩ := hMo.row (by rintro rfl; simp at hlt)
      have e0 : wr.cell? ⟨b, off + k * 3, none⟩ = some (.slice x.d.a x.d.l.length x.d.c) := hcc k x hx 0 _ rfl
      have e1 : wr.cell? ⟨b, off + k * 3 + 1, none⟩ = some (.slice x.e.a x.e.l.length x.e.c) := hcc k x hx 1 _ rfl
      have e2 : wr.cell? ⟨b, off + k * 3 + 2, none⟩ = some (.slice x.n.a x.n.l.length x.n.c) := hcc k x hx 2 _ rfl
      have HX := Lib.hid ((HM.out.2 x (List.mem_of_getElem? hx)).below hbw)
      have HSx := Lib.hid (HS.out k x hx)
      have hA := HB.out k
      have D1 := Blk.keep D.out hb.out
      clear hMo hcc hx hbw
      generalize aT k = A at *
      obtain ⟨⟨da, dc, dl⟩, ⟨ea, ec, el⟩, ⟨na, nc, nl⟩⟩ := x
      simp only at e0 e1 e2
      have hdl := HX.out.1.1.len
      have hel := Rd.len HX.out.2.1
      simp only at hdl hel
      go_upto_region 5 with fail
      have DX : Blk (wr.alloc (.cells #[.slice da dl.length dc, .slice ea el.length ec, .slice na nl.length nc] 69)) wr.heap.size 69 #[.slice da dl.length dc, .slice ea el.length ec, .slice na nl.length nc] := Blk.new' rfl
      have D2 := D1.alloc (.cells #[.slice da dl.length dc, .slice ea el.length ec, .slice na nl.length nc] 69)
      have hb2 := Lib.hid (hb.out.alloc hb.out.size (.cells #[.slice da dl.length dc, .slice ea el.length ec, .slice na nl.length nc] 69))
      replace HX := Lib.hid (HX.out.below (below1 wr (.cells #[.slice da dl.length dc, .slice ea el.length ec, .slice na nl.length nc] 69)))
      clear e0 e1 e2 D1 hb hbl
      generalize wr.heap.size = B5 at *
      generalize wr.alloc (.cells #[.slice da dl.length dc, .slice ea el.length ec, .slice na nl.length nc] 69) = w1 at *
      obtain ⟨e0, e1, e2⟩ := DX.three
      obtain ⟨m0, _, _, _, _, _, _, m7⟩ := D2.eight
      have HMT := Lib.hid (fun k2 d e hd he hn => @modeTo_in nodes A ⟨⟨da, dc, dl⟩, ⟨ea, ec, el⟩, ⟨na, nc, nl⟩⟩ k2 d e hd he hn)
      have HMO := Lib.hid (fun k2 => @modeTo_out nodes A ⟨⟨da, dc, dl⟩, ⟨ea, ec, el⟩, ⟨na, nc, nl⟩⟩ k2)
      have HMB := Lib.hid (fun k2 => modeTo_bd (nodes := nodes) hA.1 hA.2 ⟨⟨da, dc, dl⟩, ⟨ea, ec, el⟩, ⟨na, nc, nl⟩⟩ k2)
      have HM0 := Lib.hid (modeTo_zero nodes A ⟨⟨da, dc, dl⟩, ⟨ea, ec, el⟩, ⟨na, nc, nl⟩⟩)
      have HME : Hid (aT (k + 1) = modeTo nodes A ⟨⟨da, dc, dl⟩, ⟨ea, ec, el⟩, ⟨na, nc, nl⟩⟩ dl.length) := HSx.out
      clear HSx
      simp only at HMT HMO
      generalize modeTo nodes A _ = mT at *
      go_wp2_with fail
      go_loop [3, 21] (fun t i => ∃ k2 : Nat, k2 ≤ dl.length ∧ i = .int .i64 k2 ∧ t = .int .i64 (mT k2)) (fun _ i => dl.length - (intOf i).toNat)
      case atStart => exact ⟨0, Nat.zero_le _, rfl, by rw [HM0.out]⟩
      case round =>
        obtain ⟨k2, hk2, rfl, rfl⟩ := hrel
        by_cases hlt2 : k2 < dl.length
        · obtain ⟨d, hd⟩ : ∃ d, dl[k2]? = some d := ⟨_, List.getElem?_eq_getElem hlt2⟩
          obtain ⟨g1, o1, h1, hg1, c1, hd64⟩ := HX.out.1.cell hd
          simp only at h1
          subst h1
          by_cases hin : (k2 : Int) < nodes ∧ k2 < el.length
          · obtain ⟨hin1, hin2⟩ := hin
            obtain ⟨e, he⟩ : ∃ e, el[k2]? = some e := ⟨_, List.getElem?_eq_getElem hin2⟩
            obtain ⟨g2, o2, h2, hg2, c2⟩ := HX.out.2.1.cell he
            simp only at h2
            subst h2
            have HT := Lib.hid (HMT.out k2 d e hd he hin1)
            have hkd := fun W => kind_any e d W
            have hsz := fun W => size_any (kindOf e d) d W
            have har := fun W => air_any (bitsOf (kindOf e d) d) W
            have HL : Hid (longer (mT k2) e d = if 0 < bitsOf (kindOf e d) d then max (mT k2) (air (bitsOf (kindOf e d) d)) else mT k2) := rfl
            have hk64 : 0 ≤ bitsOf (kindOf e d) d ∧ bitsOf (kindOf e d) d ≤ 143 := size_bd _ _
            clear hd he hg1 hg2
            generalize kindOf e d = kk at *
            generalize bitsOf kk d = z at *
            generalize air z = y at *
            generalize mT k2 = M at *
            generalize longer M e d = M' at *
            by_cases hz : 0 < z
            · by_cases hmy : M < y
              all_goals
                go_wp2_with (first | (go_at_call 69; refine (hkd _).mono ?_; rintro en w' ⟨rfl, rfl⟩) | (go_at_call 68; refine (hsz _).mono ?_; rintro en w' ⟨rfl, rfl⟩) | (go_at_call 67; refine (har _).mono ?_; rintro en w' ⟨rfl, rfl⟩))
                go_round
                case rel => exact ⟨k2 + 1, by omega, by go_num, by rw [HT.out, HL.out, if_pos hz]; first | (rw [Int.max_eq_left (by omega)]) | (rw [Int.max_eq_right (by omega)])⟩
                case measure => simp [intOf]; omega
            · go_wp2_with (first | (go_at_call 69; refine (hkd _).mono ?_; rintro en w' ⟨rfl, rfl⟩) | (go_at_call 68; refine (hsz _).mono ?_; rintro en w' ⟨rfl, rfl⟩) | (go_at_call 67; refine (har _).mono ?_; rintro en w' ⟨rfl, rfl⟩))
              go_round
              case rel => exact ⟨k2 + 1, by omega, by go_num, by rw [HT.out, HL.out, if_neg (by omega)]⟩
              case measure => simp [intOf]; omega
          · have HT := Lib.hid (HMO.out k2 hin)
            clear hd
            by_cases hin1 : (k2 : Int) < nodes
            · have hin2 : ¬ k2 < el.length := fun h => hin ⟨hin1, h⟩
              clear hin
              go_wp2
              go_round
              case rel => exact ⟨k2 + 1, by omega, by go_num, by rw [HT.out]⟩
              case measure => simp [intOf]; omega
            · clear hin
              go_wp2
              go_round
              case rel => exact ⟨k2 + 1, by omega, by go_num, by rw [HT.out]⟩
              case measure => simp [intOf]; omega
        · obtain rfl : k2 = dl.length := by omega
          go_wp2
          go_roundw
          case rel => exact ⟨k + 1, by omega, by go_num, by rw [HME.out], hb2.out⟩
          case measure => simp [intOf]; omega
    · obtain rfl : k = ml.length := by omega
      go_wp2
      go_ret
      exact ⟨ret_int HE.out.symm, hb1.out.trans (hb.out.mono hb1.out.size)⟩
set_option maxRecDepth 100000 in
set_option maxHeartbeats 6400000 in
theorem rmaxAir_any (m : Me) (w : World) (h : GoodMe w m) : Calls Try.prog 15 #[mev m] w fun e w' => e = .returned (.int .i64 (maxAir m)) ∧ Below w.heap.size w w' := by
  have HM : Hid (Rd encMo 3 w (.slice m.ma m.ml.length m.mc) m.ml ∧ ∀ x ∈ m.ml, GoodMo w x) := h.1.2
  have hlen := h.1.2.1.len
  have HS := Lib.hid (fun k x => @airTo_succ m k x)
  have HB := Lib.hid (airTo_bd m)
  have H0 : Hid (airTo m 0 = 34) := by show _ = _; simp [airTo]
  have HE : Hid (maxAir m = airTo m m.ml.length) := rfl
  obtain ⟨nodes, slot, gap, win, drift, delay, cold, ma, mc, ml⟩ := m
  unfold mev
  simp only at HM hlen HS HE ⊢
  clear h
  generalize airTo _ = aT at *
  generalize maxAir _ = mx at *
  have D : Hid (Blk (w.alloc (.cells #[.int .i64 nodes, .int .i64 slot, .int .i64 gap, .int .i64 win, .int .i64 drift, .int .i64 delay, .slice cold.a cold.l.length cold.c, .slice ma ml.length mc] 25)) w.heap.size 25 #[.int .i64 nodes, .int .i64 slot, .int .i64 gap, .int .i64 win, .int .i64 drift, .int .i64 delay, .slice cold.a cold.l.length cold.c, .slice ma ml.length mc]) := (Blk.new' rfl : Blk _ _ _ _)
  have hb1 := Lib.hid (below1 w (.cells #[.int .i64 nodes, .int .i64 slot, .int .i64 gap, .int .i64 win, .int .i64 drift, .int .i64 delay, .slice cold.a cold.l.length cold.c, .slice ma ml.length mc] 25))
  have hsz := fun W => rsize_any 1 0 W
  rw [show bitsOf 1 0 = 40 from rfl] at hsz
  have har := fun W => rair_any 40 W
  rw [show air 40 = 34 from rfl] at har
  go_enter Try.func15, Try.ntmps15
  go_wp2_with (first | (go_at_call 38; refine (hsz _).mono ?_; rintro e w' ⟨rfl, rfl⟩) | (go_at_call 37; refine (har _).mono ?_; rintro e w' ⟨rfl, rfl⟩))
  clear hsz har
  generalize w.alloc (.cells #[.int .i64 nodes, .int .i64 slot, .int .i64 gap, .int .i64 win, .int .i64 drift, .int .i64 delay, .slice cold.a cold.l.length cold.c, .slice ma ml.length mc] 25) = W0 at *
  go_loopw [3, 4] (fun t i wr => ∃ k : Nat, k ≤ ml.length ∧ i = .int .i64 k ∧ t = .int .i64 (aT k) ∧ Hid (Below W0.heap.size W0 wr)) (fun _ i _ => ml.length - (intOf i).toNat)
  case atStart => exact ⟨0, Nat.zero_le _, rfl, by rw [H0.out], Below.refl _ _⟩
  case round =>
    obtain ⟨k, hk, rfl, rfl, hb⟩ := hrel
    have D1 := Blk.keep D.out hb.out
    obtain ⟨m0, _, _, _, _, _, _, m7⟩ := D1.eight
    by_cases hlt : k < ml.length
    · obtain ⟨x, hx⟩ : ∃ x, ml[k]? = some x := ⟨_, List.getElem?_eq_getElem hlt⟩
      have hbw := hb1.out.trans (hb.out.mono hb1.out.size)
      have hMo := HM.out.1.below hbw
      obtain ⟨b, off, rfl, hbl, hcc⟩ := hMo.row (by rintro rfl; simp at hlt)
      have e0 : wr.cell? ⟨b, off + k * 3, none⟩ = some (.slice x.d.a x.d.l.length x.d.c) := hcc k x hx 0 _ rfl
      have e1 : wr.cell? ⟨b, off + k * 3 + 1, none⟩ = some (.slice x.e.a x.e.l.length x.e.c) := hcc k x hx 1 _ rfl
      have e2 : wr.cell? ⟨b, off + k * 3 + 2, none⟩ = some (.slice x.n.a x.n.l.length x.n.c) := hcc k x hx 2 _ rfl
      have HX := Lib.hid ((HM.out.2 x (List.mem_of_getElem? hx)).below hbw)
      have HSx := Lib.hid (HS.out k x hx)
      have hA := HB.out k
      clear hMo hcc hx hbw
      generalize aT k = A at *
      obtain ⟨⟨da, dc, dl⟩, ⟨ea, ec, el⟩, ⟨na, nc, nl⟩⟩ := x
      simp only at e0 e1 e2
      have hdl := HX.out.1.1.len
      have hel := Rd.len HX.out.2.1
      simp only at hdl hel
      go_upto_region 6 with fail
      have DX : Blk (wr.alloc (.cells #[.slice da dl.length dc, .slice ea el.length ec, .slice na nl.length nc] 69)) wr.heap.size 69 #[.slice da dl.length dc, .slice ea el.length ec, .slice na nl.length nc] := Blk.new' rfl
      have D2 := D1.alloc (.cells #[.slice da dl.length dc, .slice ea el.length ec, .slice na nl.length nc] 69)
      have hb2 := Lib.hid (hb.out.alloc hb.out.size (.cells #[.slice da dl.length dc, .slice ea el.length ec, .slice na nl.length nc] 69))
      replace HX := Lib.hid (HX.out.below (below1 wr (.cells #[.slice da dl.length dc, .slice ea el.length ec, .slice na nl.length nc] 69)))
      clear e0 e1 e2 D1 hb hbl m0 m7
      generalize wr.heap.size = B5 at *
      generalize wr.alloc (.cells #[.slice da dl.length dc, .slice ea el.length ec, .slice na nl.length nc] 69) = w1 at *
      have HMT := Lib.hid (fun k2 d e hd he hn => @modeTo_in nodes A ⟨⟨da, dc, dl⟩, ⟨ea, ec, el⟩, ⟨na, nc, nl⟩⟩ k2 d e hd he hn)
      have HMO := Lib.hid (fun k2 => @modeTo_out nodes A ⟨⟨da, dc, dl⟩, ⟨ea, ec, el⟩, ⟨na, nc, nl⟩⟩ k2)
      have HMB := Lib.hid (fun k2 => modeTo_bd (nodes := nodes) hA.1 hA.2 ⟨⟨da, dc, dl⟩, ⟨ea, ec, el⟩, ⟨na, nc, nl⟩⟩ k2)
      have HM0 := Lib.hid (modeTo_zero nodes A ⟨⟨da, dc, dl⟩, ⟨ea, ec, el⟩, ⟨na, nc, nl⟩⟩)
      have HMN := Lib.hid (fun k2 hin => @modeTo_end nodes A ⟨⟨da, dc, dl⟩, ⟨ea, ec, el⟩, ⟨na, nc, nl⟩⟩ k2 hin)
      have HME : Hid (aT (k + 1) = modeTo nodes A ⟨⟨da, dc, dl⟩, ⟨ea, ec, el⟩, ⟨na, nc, nl⟩⟩ dl.length) := HSx.out
      clear HSx
      unfold modeAir at HMN
      simp only at HMT HMO HMN
      generalize modeTo nodes A _ = mT at *
      go_wp2_with fail
      go_loopw [3, 6] (fun t i wq => ∃ k2 : Nat, k2 ≤ dl.length ∧ i = .int .i64 k2 ∧ t = .int .i64 (mT k2) ∧ Hid (Below w1.heap.size w1 wq)) (fun _ i _ => dl.length - (intOf i).toNat)
      case atStart => exact ⟨0, Nat.zero_le _, rfl, by rw [HM0.out], Below.refl _ _⟩
      case round =>
        obtain ⟨k2, hk2, rfl, rfl, hb5⟩ := hrel
        have D3 := Blk.keep D2 hb5.out
        have DX3 := Blk.keep DX hb5.out
        have HX3 := Lib.hid (HX.out.below hb5.out)
        obtain ⟨e0, e1, e2⟩ := DX3.three
        obtain ⟨m0, _, _, _, _, _, _, m7⟩ := D3.eight
        by_cases hin : k2 < dl.length ∧ k2 < el.length ∧ (k2 : Int) < nodes
        · obtain ⟨hlt2, hin2, hin1⟩ := hin
          obtain ⟨d, hd⟩ : ∃ d, dl[k2]? = some d := ⟨_, List.getElem?_eq_getElem hlt2⟩
          obtain ⟨g1, o1, h1, hg1, c1, hd64⟩ := HX3.out.1.cell hd
          simp only at h1
          subst h1
          obtain ⟨e, he⟩ : ∃ e, el[k2]? = some e := ⟨_, List.getElem?_eq_getElem hin2⟩
          obtain ⟨g2, o2, h2, hg2, c2⟩ := HX3.out.2.1.cell he
          simp only at h2
          subst h2
          have HT := Lib.hid (HMT.out k2 d e hd he hin1)
          have hkd := fun W => rkind_any e d W
          have hsz := fun W => rsize_any (kindOf e d) d W
          have har := fun W => rair_any (bitsOf (kindOf e d) d) W
          have HL : Hid (longer (mT k2) e d = if 0 < bitsOf (kindOf e d) d then max (mT k2) (air (bitsOf (kindOf e d) d)) else mT k2) := rfl
          have hk64 : 0 ≤ bitsOf (kindOf e d) d ∧ bitsOf (kindOf e d) d ≤ 143 := size_bd _ _
          have hi2 : (k2 : Int) < (el.length : Int) := by omega
          have hi1 : (k2 : Int) < (dl.length : Int) := by omega
          clear hd he hg1 hg2
          generalize kindOf e d = kk at *
          generalize bitsOf kk d = z at *
          generalize air z = y at *
          generalize mT k2 = M at *
          generalize longer M e d = M' at *
          go_upto_region 9 with fail
          go_quiet ((first | (go_at_call 39; exact Calls.quiet_of_same (hkd _)) | (go_at_call 38; exact Calls.quiet_of_same (hsz _))))
          by_cases hz : 0 < z
          · by_cases hmy : M < y
            all_goals
              go_wp2_with (go_at_call 37; refine (har _).mono ?_; rintro en w' ⟨rfl, rfl⟩)
              go_roundw
              case rel => exact ⟨k2 + 1, by omega, by go_num, by rw [HT.out, HL.out, if_pos hz]; first | (rw [Int.max_eq_left (by omega)]) | (rw [Int.max_eq_right (by omega)]), below_drewN hb5.out _⟩
              case measure => simp [intOf]; omega
          · go_wp2
            go_roundw
            case rel => exact ⟨k2 + 1, by omega, by go_num, by rw [HT.out, HL.out, if_neg (by omega)], below_drewN hb5.out _⟩
            case measure => simp [intOf]; omega
        · have HE2 := Lib.hid (HMN.out k2 hin)
          by_cases h1 : k2 < dl.length
          · by_cases h2 : k2 < el.length
            · have h3 : ¬ (k2 : Int) < nodes := fun h3 => hin ⟨h1, h2, h3⟩
              clear hin
              go_wp2
              go_roundw
              case rel => exact ⟨k + 1, by omega, by go_num, by rw [HME.out, ← HE2.out], hb2.out.trans (hb5.out.mono hb2.out.size)⟩
              case measure => simp [intOf]; omega
            · clear hin
              go_wp2
              go_roundw
              case rel => exact ⟨k + 1, by omega, by go_num, by rw [HME.out, ← HE2.out], hb2.out.trans (hb5.out.mono hb2.out.size)⟩
              case measure => simp [intOf]; omega
          · clear hin
            go_wp2
            go_roundw
            case rel => exact ⟨k + 1, by omega, by go_num, by rw [HME.out, ← HE2.out], hb2.out.trans (hb5.out.mono hb2.out.size)⟩
            case measure => simp [intOf]; omega
    · obtain rfl : k = ml.length := by omega
      go_wp2
      go_ret
      exact ⟨ret_int HE.out.symm, hb1.out.trans (hb.out.mono hb1.out.size)⟩
end Go.Proofs.Ytimcljlbjnhpnaa
