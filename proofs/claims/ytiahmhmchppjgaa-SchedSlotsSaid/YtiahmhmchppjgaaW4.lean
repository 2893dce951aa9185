/- Contracts: a slot's span; slices.Equal at spans; the law's own beginning. -/
import Derived.Test.YtiahmhmchppjgaaW3
namespace Go.Proofs.Ytiahmhmchppjgaa
open Go.RowKit Go.Shelf
open Sched (Sp bad)

theorem bfroz {w w' : World} {B : Nat} (hb : Below B w w') : ∀ (b o : Nat), b < B → w'.frozen? ⟨b, o, none⟩ = w.frozen? ⟨b, o, none⟩ := fun _ _ h => hb.frozen h

theorem bs2 {B g : Nat} {w w1 : World} (hb : Below B w w1) (hg : B ≤ g) (x y : Value) : Below B w ((w1.setCell ⟨g, 0, none⟩ x).setCell ⟨g, 1, none⟩ y) := (hb.setCell hg x).setCell hg y
theorem bt2 {w w1 : World} {o o' : Obj} (hb : Below ((w.alloc o).alloc o').heap.size ((w.alloc o).alloc o') w1) : Below w.heap.size w w1 := bt ((Below.refl _ _).alloc (Nat.le_refl _) _ |>.alloc (by simp) _) hb

def slot (s l n k : Int) : Sp × Int := if GBad s l n then ((0, 0), 61) else if k < 0 ∨ (1099511627776 - s) / l ≤ k then ((0, 0), 2) else ((s + k * l, s + k * l + l), 0)

theorem slot_fit {s l k : Int} (g3 : 1 ≤ l) (k1 : 0 ≤ k) (k2 : k < (1099511627776 - s) / l) : 0 ≤ k * l ∧ s + k * l + l ≤ 1099511627776 := by
  refine ⟨Int.mul_nonneg k1 (by omega), ?_⟩
  have h1 := Int.ediv_mul_le (1099511627776 - s) (b := l) (by omega)
  have h2 : (k + 1) * l ≤ (1099511627776 - s) / l * l := Int.mul_le_mul_of_nonneg_right (by omega) (by omega)
  rw [Int.add_mul] at h2
  omega

theorem slot_any (s l n k : Int) (w : World) :
    Calls Try.prog 24 #[grv s l n, .int .i64 k] w fun e w' => e = .returned (.tuple #[spv (slot s l n k).1, .int .i64 (slot s l n k).2]) ∧ Below w.heap.size w w' := by
  have hck := checkGrid_any s l n
  by_cases hg : GBad s l n
  · have hz : chkG s l n = 61 := if_pos hg
    have HR : Hid (slot s l n k = ((0, 0), 61)) := if_pos hg
    rw [hz] at hck
    unfold grv at *
    clear hz hg
    go_enter Try.func24, Try.ntmps24
    go_wp2_with fail
    refine (hck _).mono ?_
    rintro e w1 ⟨rfl, hb1⟩
    have hc1 := bcell hb1
    have hf1 := bfroz hb1
    go_wp2
    refine bodyPost_ret (v := .tuple #[.agg #[.int .i64 0, .int .i64 0], .int .i64 61]) (by simp [results, Try.results24, go_sem, hc1]) rfl ?_
    exact ⟨by rw [HR.out]; rfl, bs2 (bt2 hb1) (Nat.le_succ _) _ _⟩
  · have hz : chkG s l n = 0 := if_neg hg
    rw [hz] at hck
    unfold GBad at hg
    have HR : Hid (slot s l n k = if k < 0 ∨ (1099511627776 - s) / l ≤ k then ((0, 0), 2) else ((s + k * l, s + k * l + l), 0)) := if_neg hg
    have g1 : 0 ≤ s := by omega
    have g2 : s ≤ 1099511627776 := by omega
    have g3 : 1 ≤ l := by omega
    have g4 : l ≤ 16777216 := by omega
    clear hz hg
    generalize hq : (1099511627776 - s) / l = q at HR
    have HQ := Lib.hid hq
    have q1 : (1099511627776 - s).tdiv l = q := by rw [Int.tdiv_eq_ediv_of_nonneg (by omega)]; exact hq
    have q2 : 0 ≤ q := by rw [← hq]; exact Int.ediv_nonneg (by omega) (by omega)
    have q3 : q ≤ 1099511627776 := by have := (div_le_self' (a := 1099511627776 - s) (b := l) (by omega) g3).2; omega
    by_cases hk : k < 0 ∨ q ≤ k
    · have HR2 : Hid (slot s l n k = ((0, 0), 2)) := HR.out.trans (if_pos hk)
      unfold grv at *
      clear HR hq
      go_enter Try.func24, Try.ntmps24
      go_wp2_with fail
      refine (hck _).mono ?_
      rintro e w1 ⟨rfl, hb1⟩
      have hc1 := bcell hb1
      have hf1 := bfroz hb1
      go_wp2
      all_goals try (refine bodyPost_ret (v := .tuple #[.agg #[.int .i64 0, .int .i64 0], .int .i64 2]) (by simp [results, Try.results24, go_sem, hc1]) rfl ?_)
      all_goals try exact ⟨by rw [HR2.out]; rfl, bs2 (bt2 hb1) (Nat.le_succ _) _ _⟩
    · have HR2 : Hid (slot s l n k = ((s + k * l, s + k * l + l), 0)) := HR.out.trans (if_neg hk)
      have k1 : 0 ≤ k := by omega
      have k2 : k < q := by omega
      obtain ⟨f1, f2⟩ := slot_fit g3 k1 (hq ▸ k2)
      unfold grv at *
      clear HR hq hk
      go_enter Try.func24, Try.ntmps24
      go_wp2_with fail
      refine (hck _).mono ?_
      rintro e w1 ⟨rfl, hb1⟩
      have hc1 := bcell hb1
      have hf1 := bfroz hb1
      go_wp2
      all_goals try (refine bodyPost_ret (v := .tuple #[.agg #[.int .i64 (s + k * l), .int .i64 (s + k * l + l)], .int .i64 0]) (by simp [results, Try.results24, go_sem, hc1]) rfl ?_)
      all_goals try exact ⟨by rw [HR2.out]; rfl, bs2 (bt2 hb1) (Nat.le_succ _) _ _⟩

theorem equal_any (l m : List Sp) (v u : Value) (w : World) (h : Spans w v l) (h' : Spans w u m) :
    Calls Try.prog 17 #[v, u] w fun e w' => e = .returned (.bool (decide (l = m))) ∧ Below w.heap.size w w' := by
  have h0 := h
  have h0' := h'
  obtain ⟨a, cap, rfl, h1, h2, h3⟩ := h.shape
  obtain ⟨a', cap', rfl, h1', h2', h3'⟩ := h'.shape
  clear h h'
  by_cases hl : l.length = m.length
  · have HL := Lib.hid hl
    rw [hl] at h1 h3 h0 ⊢
    clear hl
    have hgd := guardSp
    go_enter Try.func17, Try.ntmps17
    go_wp2
    go_loopw [13] (fun i wr => ∃ k : Nat, k ≤ m.length ∧ i = .int .i64 k ∧ Hid (l.take k = m.take k) ∧ Below w.heap.size w wr) (fun i _ => m.length - (intOf i).toNat)
    case atStart => exact ⟨0, Nat.zero_le _, rfl, rfl, Below.refl _ _⟩
    case round =>
      obtain ⟨k, hk, rfl, hany, hb⟩ := hrel
      by_cases hlt : k < m.length
      · obtain ⟨b, off, rfl, hbl, hc⟩ := h0.row (by rintro rfl; simp [← HL.out] at hlt)
        obtain ⟨b', off', rfl, hbl', hc'⟩ := h0'.row (by rintro rfl; simp at hlt)
        have hck : wr.cell? ⟨b, off + k * 2, none⟩ = some (.int .i64 (l.getD k (0, 0)).1) := by rw [hb.cell hbl, (hc k (by rw [HL.out]; exact hlt)).1]
        have hck1 : wr.cell? ⟨b, off + k * 2 + 1, none⟩ = some (.int .i64 (l.getD k (0, 0)).2) := by rw [hb.cell hbl, (hc k (by rw [HL.out]; exact hlt)).2]
        have hcu : wr.cell? ⟨b', off' + k * 2, none⟩ = some (.int .i64 (m.getD k (0, 0)).1) := by rw [hb.cell hbl', (hc' k hlt).1]
        have hcu1 : wr.cell? ⟨b', off' + k * 2 + 1, none⟩ = some (.int .i64 (m.getD k (0, 0)).2) := by rw [hb.cell hbl', (hc' k hlt).2]
        have hi : (k : Int) < m.length := by omega
        clear hc hc' h0 h0'
        obtain ⟨x, hx⟩ : ∃ x, x = l.getD k (0, 0) := ⟨_, rfl⟩
        obtain ⟨y, hy⟩ : ∃ y, y = m.getD k (0, 0) := ⟨_, rfl⟩
        rw [← hx] at hck hck1
        rw [← hy] at hcu hcu1
        have HT : Hid (l.take (k + 1) = l.take k ++ [x] ∧ m.take (k + 1) = m.take k ++ [y]) := ⟨by rw [hx]; exact take_getD l k (by rw [HL.out]; exact hlt), by rw [hy]; exact take_getD m k hlt⟩
        have HX := Lib.hid hx
        have HY := Lib.hid hy
        clear hx hy
        obtain ⟨f, t⟩ := x
        obtain ⟨g, u⟩ := y
        by_cases hxy : f = g ∧ t = u
        · obtain ⟨rfl, rfl⟩ := hxy
          have hne := neSp f t f t
          simp only [beq_self_eq_true, Bool.and_self, Bool.not_true] at hne
          go_wp2
          go_quiet (fail)
          go_wp2
          go_roundw
          case rel => exact ⟨k + 1, by omega, by go_num, show _ = _ by rw [HT.out.1, HT.out.2, hany.out], below_drewN hb _⟩
          case measure => simp [intOf]; omega
        · have hne := neSp f t g u
          rw [show (f == g && t == u) = false by simpa using hxy] at hne
          simp only [Bool.not_false] at hne
          have HN := Lib.hid hxy
          clear hxy
          go_wp2
          go_quiet (fail)
          go_wp2
          go_ret
          refine ⟨ret_bool ?_, below_drewN hb _⟩
          rw [eq_comm, decide_eq_false_iff_not]
          intro e
          subst e
          have := HX.out.trans HY.out.symm
          exact HN.out (by simpa using this)
      · go_wp2
        go_ret
        refine ⟨ret_bool ?_, hb⟩
        rw [eq_comm, decide_eq_true_iff]
        have := hany.out
        rwa [List.take_of_length_le (by rw [HL.out]; omega), List.take_of_length_le (by omega)] at this
  · have hl' : ((l.length : Int) != m.length) = true := by simp; omega
    have HL := Lib.hid hl
    clear hl
    go_enter Try.func17, Try.ntmps17
    go_wp2
    go_ret
    refine ⟨ret_bool ?_, Below.refl _ _⟩
    rw [eq_comm, decide_eq_false_iff_not]
    intro e
    exact HL.out (by rw [e])
end Go.Proofs.Ytiahmhmchppjgaa
