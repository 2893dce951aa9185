/- Contracts: counts, isMode of the program, mode of the document. -/
import Derived.Test.YtimcljlbjnhpnaaM2
namespace Go.Proofs.Ytimcljlbjnhpnaa
open Go.RowKit Go.Shelf
open Md

theorem trues_snoc {l : List Bool} {k : Nat} {x : Bool} (hx : l[k]? = some x) : trues (l.take (k + 1)) = trues (l.take k) + if x then 1 else 0 := by
  unfold trues
  rw [countP_snoc _ hx]
  rfl

set_option maxRecDepth 100000 in
set_option maxHeartbeats 6400000 in
theorem counts_any (m : Me) (w : World) (h : GoodMe w m) : Calls Try.prog 48 #[mev m] w fun e w' => e = .returned (.bool (okCounts m)) ∧ Below w.heap.size w w' := by
  have HC := Lib.hid h.1.1
  have hlen := Rd.len h.1.1
  have hml := h.1.2.1.len
  have HO : Hid (okCounts m = (decide (4 ≤ m.nodes) && decide (m.nodes ≤ 8) && decide (1 ≤ m.ml.length) && decide (m.ml.length ≤ 4) && decide ((m.cold.l.length : Int) = m.nodes) && decide (2 ≤ trues m.cold.l))) := rfl
  obtain ⟨nodes, slot, gap, win, drift, delay, ⟨a, c, l⟩, ma, mc, ml⟩ := m
  unfold mev
  simp only at hlen HO hml ⊢
  clear h
  generalize okCounts _ = z at *
  generalize ml.length = ML at *
  have D : Hid (Blk (w.alloc (.cells #[.int .i64 nodes, .int .i64 slot, .int .i64 gap, .int .i64 win, .int .i64 drift, .int .i64 delay, .slice a l.length c, .slice ma ML mc] 25)) w.heap.size 25 #[.int .i64 nodes, .int .i64 slot, .int .i64 gap, .int .i64 win, .int .i64 drift, .int .i64 delay, .slice a l.length c, .slice ma ML mc]) := (Blk.new' rfl : Blk _ _ _ _)
  have hb1 := Lib.hid (below1 w (.cells #[.int .i64 nodes, .int .i64 slot, .int .i64 gap, .int .i64 win, .int .i64 drift, .int .i64 delay, .slice a l.length c, .slice ma ML mc] 25))
  replace HC := Lib.hid (HC.out.below hb1.out)
  have hw1 := fun n a b W => within7_any n a b W
  go_enter Try.func48, Try.ntmps48
  go_wp2_with fail
  generalize w.alloc (.cells #[.int .i64 nodes, .int .i64 slot, .int .i64 gap, .int .i64 win, .int .i64 drift, .int .i64 delay, .slice a l.length c, .slice ma ML mc] 25) = W0 at *
  obtain ⟨m0, _, _, _, _, _, m6, m7⟩ := D.out.eight
  go_loop [3, 9] (fun n i => ∃ k : Nat, k ≤ l.length ∧ i = .int .i64 k ∧ n = .int .i64 ((trues (l.take k) : Nat) : Int)) (fun _ i => l.length - (intOf i).toNat)
  case atStart => exact ⟨0, Nat.zero_le _, rfl, rfl⟩
  case round =>
    obtain ⟨k, hk, rfl, rfl⟩ := hrel
    by_cases hlt : k < l.length
    · obtain ⟨x, hx⟩ : ∃ x, l[k]? = some x := ⟨_, List.getElem?_eq_getElem hlt⟩
      obtain ⟨g, off, h1, hg, c0⟩ := HC.out.cell hx
      simp only at h1
      subst h1
      have HS := Lib.hid (trues_snoc hx)
      have hle : trues (l.take k) ≤ k := Nat.le_trans List.countP_le_length (List.length_take_le _ _)
      generalize trues (l.take k) = n at *
      clear hx
      cases x
      all_goals
        go_wp2
        go_round
        case rel => exact ⟨k + 1, by omega, by go_num, by rw [HS.out]; go_num⟩
        case measure => simp [intOf]; omega
    · obtain rfl : k = l.length := by omega
      have HT : Hid (trues (l.take l.length) = trues l) := by show _ = _; rw [List.take_length]
      have htl : trues l ≤ l.length := List.countP_le_length
      rw [HT.out]
      generalize trues l = T at *
      by_cases h1 : 4 ≤ nodes ∧ nodes ≤ 8
      · obtain ⟨h1, h2⟩ := h1
        have q1 : (decide (4 ≤ nodes) && decide (nodes ≤ 8)) = true := by simp [h1, h2]
        have HW := Lib.hid (hw1 nodes 4 8 W0)
        rw [q1] at HW
        clear q1 hw1
        by_cases h3 : 1 ≤ ML ∧ ML ≤ 4
        · obtain ⟨h3, h4⟩ := h3
          have q2 : (decide ((1 : Int) ≤ (ML : Int)) && decide ((ML : Int) ≤ 4)) = true := by simp; omega
          have HW2 := Lib.hid (within7_any (ML : Int) 1 4 W0)
          rw [q2] at HW2
          clear q2
          by_cases h5 : (l.length : Int) = nodes
          · have q3 : ((l.length : Int) == nodes) = true := by simpa using h5
            have HQ := Lib.hid h5
            clear h5
            go_wp2_with fail
            refine HW.out.mono ?_
            rintro e w' ⟨rfl, rfl⟩
            go_wp2_with fail
            refine HW2.out.mono ?_
            rintro e w' ⟨rfl, rfl⟩
            go_wp2
            go_ret
            exact ⟨ret_bool (by rw [HO.out, Bool.eq_iff_iff]; simp [HQ.out]; omega), hb1.out⟩
          · have q3 : ((l.length : Int) == nodes) = false := by simpa using h5
            have HQ := Lib.hid h5
            clear h5
            go_wp2_with fail
            refine HW.out.mono ?_
            rintro e w' ⟨rfl, rfl⟩
            go_wp2_with fail
            refine HW2.out.mono ?_
            rintro e w' ⟨rfl, rfl⟩
            go_wp2
            go_ret
            exact ⟨ret_bool (by rw [HO.out]; simp [HQ.out]), hb1.out⟩
        · have q2 : (decide ((1 : Int) ≤ (ML : Int)) && decide ((ML : Int) ≤ 4)) = false := by simp; omega
          have HW2 := Lib.hid (within7_any (ML : Int) 1 4 W0)
          rw [q2] at HW2
          have HN := Lib.hid h3
          clear q2 h3
          go_wp2_with fail
          refine HW.out.mono ?_
          rintro e w' ⟨rfl, rfl⟩
          go_wp2_with fail
          refine HW2.out.mono ?_
          rintro e w' ⟨rfl, rfl⟩
          go_wp2
          go_ret
          exact ⟨ret_bool (by rw [HO.out]; have := HN.out; simp; omega), hb1.out⟩
      · have q1 : (decide (4 ≤ nodes) && decide (nodes ≤ 8)) = false := by simp; omega
        have HW := Lib.hid (hw1 nodes 4 8 W0)
        rw [q1] at HW
        have HN := Lib.hid h1
        clear q1 hw1 h1
        go_wp2_with fail
        refine HW.out.mono ?_
        rintro e w' ⟨rfl, rfl⟩
        go_wp2
        go_ret
        exact ⟨ret_bool (by rw [HO.out]; have := HN.out; simp; omega), hb1.out⟩

theorem okMode_len {m : Me} {x : Mo} (h : ¬ ((x.d.l.length : Int) = m.nodes ∧ (x.e.l.length : Int) = m.nodes ∧ x.n.l.length = m.ml.length)) : okMode m x = false := by
  unfold okMode
  rw [Bool.eq_false_iff]
  simp only [ne_eq, Bool.and_eq_true, decide_eq_true_eq]
  exact fun h' => h ⟨h'.1.1.1, h'.1.1.2, h'.1.2⟩
theorem okMode_all {m : Me} {x : Mo} (h1 : (x.d.l.length : Int) = m.nodes) (h2 : (x.e.l.length : Int) = m.nodes) (h3 : x.n.l.length = m.ml.length) : okMode m x = (List.range x.d.l.length).all (okAt m x) := by
  unfold okMode
  simp [h1, h2, h3]
theorem range_all_succ (p : Nat → Bool) (k : Nat) : (List.range (k + 1)).all p = ((List.range k).all p && p k) := by
  rw [List.range_succ, List.all_append]; simp
theorem range_all_lt {p : Nat → Bool} {n k : Nat} (hk : k < n) (h : p k = false) : (List.range n).all p = false := by
  rw [Bool.eq_false_iff]
  intro h'
  have := List.all_eq_true.1 h' k (List.mem_range.2 hk)
  rw [h] at this
  cases this
end Go.Proofs.Ytimcljlbjnhpnaa
