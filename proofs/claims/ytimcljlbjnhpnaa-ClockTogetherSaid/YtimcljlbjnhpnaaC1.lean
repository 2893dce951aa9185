/- ClockWithin: the walk. -/
import Derived.Test.YtimcljlbjnhpnaaN6
namespace Go.Proofs.Ytimcljlbjnhpnaa
open Go.RowKit Go.Shelf
open Md

theorem ord_mem {l : List Int} {i : Nat} (h : i < l.length) : Fta.ord l i ∈ l := by
  have hl : i < (Fta.srt l).length := by rw [Fta.srt_len]; exact h
  have : Fta.ord l i = (Fta.srt l)[i] := by simp [Fta.ord, List.getD_eq_getElem?_getD, hl]
  rw [this]
  exact (Fta.srt_perm l).mem_iff.1 (List.getElem_mem hl)
theorem kept_mem {l : List Int} (h0 : l ≠ []) (hf : l.any (Fta.far Fta.bigB) = false) : (Fta.kept l).1 ∈ l ∧ (Fta.kept l).2.1 ∈ l := by
  have hp : 0 < l.length := List.length_pos_iff.2 h0
  rw [Fta.kept_ord h0 hf]
  by_cases h4 : 4 ≤ l.length
  · simp only [if_pos h4]
    exact ⟨ord_mem (by omega), ord_mem (by omega)⟩
  · simp only [if_neg h4]
    exact ⟨ord_mem (by omega), ord_mem (by omega)⟩
theorem mid_between {l : List Int} (h : (Fta.mid (0 :: l)).2 = 0) : l.foldl min 0 ≤ (Fta.mid (0 :: l)).1 ∧ (Fta.mid (0 :: l)).1 ≤ l.foldl max 0 := by
  have hok := Fta.mid_ok.1 h
  have hf : (0 :: l).any (Fta.far Fta.bigB) = false := by
    rw [List.any_eq_false]
    intro x hx
    have := hok.2 x hx
    simp [Fta.far]; omega
  obtain ⟨k1, k2⟩ := kept_mem hok.1 hf
  obtain ⟨w1, w2⟩ := Fta.mid_within (0 :: l)
  have a := Fta.foldl_min_le l 0
  have b := Fta.foldl_max_le l 0
  have hmn : ∀ x ∈ 0 :: l, l.foldl min 0 ≤ x ∧ x ≤ l.foldl max 0 := fun x hx => by
    rcases List.mem_cons.1 hx with rfl | hx
    · exact ⟨a.1, b.1⟩
    · exact ⟨a.2 x hx, b.2 x hx⟩
  exact ⟨Int.le_trans (hmn _ k1).1 w1, Int.le_trans w2 (hmn _ k2).2⟩
theorem foldl_snoc {f : Int → Int → Int} {a : Int} {l : List Int} {k : Nat} {x : Int} (h : l[k]? = some x) : (l.take (k + 1)).foldl f a = f ((l.take k).foldl f a) x := by
  rw [take_snoc h, List.foldl_append]; rfl
theorem cor_ok {m : Me} {c : Ck} (h : (corV m c).2 = 0) : errC m c = 0 ∧ corV m c = Fta.mid (0 :: c.dl) := by
  unfold corV at h ⊢
  by_cases he : errC m c = 0
  · exact ⟨he, if_pos he⟩
  · rw [if_neg he] at h; exact absurd h he

set_option maxRecDepth 100000 in
set_option maxHeartbeats 6400000 in
theorem within_walk (m : Me) (c : Ck) (w : World) (h : GoodMe w m) (hc : GoodCk w c) :
    Calls Try.prog 3 #[mev m, clv c] w fun e w' => e = .returned (.bool true) ∧ Below w.heap.size w w' := by
  have hco : ∀ W, Below w.heap.size w W → _ := fun W hW => correct_any m c W (h.below hW) (hc.below hW)
  have HCO := Lib.hid (@cor_ok m c)
  have HCI := Lib.hid hc.1
  have hlen := hc.1.len
  have HBD := Lib.hid hc.1.bd
  have HFB : Hid (∀ k, I64 ((c.dl.take k).foldl min 0) ∧ I64 ((c.dl.take k).foldl max 0)) := fun k => by
    have hb : ∀ x ∈ c.dl.take k, I64 x := fun x hx => hc.1.bd x (List.mem_of_mem_take hx)
    have h0 : I64 0 := by unfold I64; omega
    refine ⟨?_, ?_⟩
    · rcases Fta.foldl_min_mem (c.dl.take k) 0 with e | e
      · rw [e]; exact h0
      · exact hb _ e
    · rcases Fta.foldl_max_mem (c.dl.take k) 0 with e | e
      · rw [e]; exact h0
      · exact hb _ e
  obtain ⟨nodes, slot, gap, win, drift, delay, ⟨ca, cc, cl⟩, ma, mc, ml⟩ := m
  obtain ⟨st, sl, da, dc, dl⟩ := c
  unfold mev clv at *
  simp only at *
  generalize corV _ _ = v at *
  obtain ⟨k, ke⟩ := v
  simp only at *
  clear h hc
  have HJ : Hid (Blk ((w.alloc (.cells #[.int .i64 nodes, .int .i64 slot, .int .i64 gap, .int .i64 win, .int .i64 drift, .int .i64 delay, .slice ca cl.length cc, .slice ma ml.length mc] 25)).alloc (.cells #[.int .i64 st, .int .i64 sl, .slice da dl.length dc] 28)) w.heap.size 25 #[.int .i64 nodes, .int .i64 slot, .int .i64 gap, .int .i64 win, .int .i64 drift, .int .i64 delay, .slice ca cl.length cc, .slice ma ml.length mc] ∧ Blk ((w.alloc (.cells #[.int .i64 nodes, .int .i64 slot, .int .i64 gap, .int .i64 win, .int .i64 drift, .int .i64 delay, .slice ca cl.length cc, .slice ma ml.length mc] 25)).alloc (.cells #[.int .i64 st, .int .i64 sl, .slice da dl.length dc] 28)) (w.heap.size + 1) 28 #[.int .i64 st, .int .i64 sl, .slice da dl.length dc] ∧ Below w.heap.size w ((w.alloc (.cells #[.int .i64 nodes, .int .i64 slot, .int .i64 gap, .int .i64 win, .int .i64 drift, .int .i64 delay, .slice ca cl.length cc, .slice ma ml.length mc] 25)).alloc (.cells #[.int .i64 st, .int .i64 sl, .slice da dl.length dc] 28))) :=
    ⟨(Blk.new' rfl).alloc _, Blk.new' (by simp), below2 w _ _⟩
  go_enter Try.func3, Try.ntmps3
  go_wp2_with fail
  refine (hco _ HJ.out.2.2).mono ?_
  rintro e w1 ⟨rfl, hb⟩
  replace HJ := Lib.hid (two_boxes HJ.out hb)
  clear hb hco
  obtain ⟨m0, m1, m2, m3, m4, m5, m6, m7⟩ := HJ.out.1.eight; obtain ⟨c0, c1, c2⟩ := HJ.out.2.1.three; have hz0 := HJ.out.1.lt; have hz1 := HJ.out.2.1.lt
  go_wp2_with fail
  refine (begun_any _).mono ?_
  rintro e w2 ⟨rfl, hb⟩
  clear m0 m1 m2 m3 m4 m5 m6 m7 c0 c1 c2 hz0 hz1
  replace HJ := Lib.hid (two_boxes HJ.out hb)
  clear hb
  obtain ⟨m0, m1, m2, m3, m4, m5, m6, m7⟩ := HJ.out.1.eight; obtain ⟨c0, c1, c2⟩ := HJ.out.2.1.three; have hz0 := HJ.out.1.lt; have hz1 := HJ.out.2.1.lt
  by_cases he : ke = 0
  rotate_left
  · have hne : (ke != 0) = true := by simpa using he
    clear he
    go_wp2_with fail
    refine (begun_any _).mono ?_
    rintro e w3 ⟨rfl, hb⟩
    go_wp2
    go_ret
    exact ⟨rfl, bt HJ.out.2.2 hb⟩
  subst he
  obtain ⟨hec, hcv⟩ := HCO.out rfl
  have hbt := mid_between (l := dl) (by rw [← hcv])
  rw [← hcv] at hbt
  simp only at hbt
  have HBT := Lib.hid hbt
  clear hec hcv hbt HCO
  go_wp2_with fail
  go_loop [7, 8, 27] (fun x y i => ∃ j : Nat, j ≤ dl.length ∧ i = .int .i64 j ∧ x = .int .i64 ((dl.take j).foldl min 0) ∧ y = .int .i64 ((dl.take j).foldl max 0)) (fun _ _ i => dl.length - (intOf i).toNat)
  case atStart => exact ⟨0, Nat.zero_le _, rfl, rfl, rfl⟩
  case round =>
    obtain ⟨j, hj, rfl, rfl, rfl⟩ := hrel
    by_cases hlt : j < dl.length
    · obtain ⟨d, hd⟩ : ∃ d, dl[j]? = some d := ⟨_, List.getElem?_eq_getElem hlt⟩
      obtain ⟨b, off, rfl, hbl, hcc⟩ := (HCI.out.below HJ.out.2.2).row (by rintro rfl; simp at hlt)
      have e0 : w2.cell? ⟨b, off + j, none⟩ = some (.int .i64 d) := by
        have := hcc j hlt
        rw [List.getD_eq_getElem?_getD, hd] at this
        exact this
      have S1 := Lib.hid (foldl_snoc (f := min) (a := 0) hd)
      have S2 := Lib.hid (foldl_snoc (f := max) (a := 0) hd)
      clear hcc hd hbl
      generalize (dl.take j).foldl min 0 = x at *
      generalize (dl.take j).foldl max 0 = y at *
      by_cases g1 : d < x <;> by_cases g2 : y < d
      all_goals
        go_wp2
        go_round
        case rel =>
          refine ⟨j + 1, by omega, by go_num, ?_, ?_⟩
          · rw [S1.out]; try first | rfl | (rw [Int.min_eq_left (by omega)]) | (rw [Int.min_eq_right (by omega)])
          · rw [S2.out]; try first | rfl | (rw [Int.max_eq_left (by omega)]) | (rw [Int.max_eq_right (by omega)])
        case measure => simp [intOf]; omega
    · obtain rfl : j = dl.length := by omega
      have hbt := HBT.out
      have HT1 : Hid ((dl.take dl.length).foldl min 0 = dl.foldl min 0) := by show _ = _; rw [List.take_length]
      have HT2 : Hid ((dl.take dl.length).foldl max 0 = dl.foldl max 0) := by show _ = _; rw [List.take_length]
      rw [HT1.out, HT2.out]
      obtain ⟨g1, g2⟩ := hbt
      generalize dl.foldl min 0 = x at *
      generalize dl.foldl max 0 = y at *
      go_wp2
      go_ret
      exact ⟨rfl, HJ.out.2.2⟩
end Go.Proofs.Ytimcljlbjnhpnaa
