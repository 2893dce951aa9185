/- The walk of SchedGrid. -/
import Derived.Test.YtiahmhmchppjgaaT3
namespace Go.Proofs.Ytiahmhmchppjgaa
open Go.RowKit Go.Shelf
open Sched (Sp bad)

theorem cellN (w : World) (f t : Value) (y : TypeId) : (w.alloc (.cells #[f, t] y)).cell? ⟨w.heap.size, 0, none⟩ = some f ∧ (w.alloc (.cells #[f, t] y)).cell? ⟨w.heap.size, 1, none⟩ = some t :=
  ⟨by rw [World.cell?_alloc_at _ _ _ _ rfl]; rfl, by rw [World.cell?_alloc_at _ _ _ _ rfl]; rfl⟩

set_option maxRecDepth 100000 in
set_option maxHeartbeats 3200000 in
theorem grid_walk (s l n t a b pos : Int) (w : World) (a0 : 0 ≤ a) (a1 : a ≤ 65535) (b0 : 0 ≤ b) (b1 : b ≤ 65535) :
    Calls Try.prog 6 #[grv s l n, .int .i64 t, .int .u16 a, .int .u16 b, .int .i64 pos] w fun e w' => e = .returned (.bool true) ∧ Below w.heap.size w w' := by
  have c1 := slotOf_any s l n t
  have c2 := slot_any s l n (slotOf s l n t).1
  have c3 := slot_any s l n a
  have c4 := slot_any s l n b
  have c5 := meets_any (slot s l n a).1.1 (slot s l n a).1.2 (slot s l n b).1.1 (slot s l n b).1.2
  have c6 := next_any s l n t pos
  have c7 := slot_any s l n (next s l n t pos).1
  have c8 := slot_any s l n ((next s l n t pos).1 - n)
  have p1 := grid_at s l n t
  have p2 := grid_meets s l n a b
  have p3 := grid_next s l n t pos
  have e5 : meets ((slot s l n a).1.1, (slot s l n a).1.2) ((slot s l n b).1.1, (slot s l n b).1.2) = meets (slot s l n a).1 (slot s l n b).1 := rfl
  rw [e5] at c5
  clear e5
  unfold spv grv at *
  generalize slotOf s l n t = r1 at *
  generalize slot s l n r1.1 = r2 at *
  generalize slot s l n a = r3 at *
  generalize slot s l n b = r4 at *
  generalize meets r3.1 r4.1 = m at *
  generalize next s l n t pos = r6 at *
  generalize slot s l n r6.1 = r7 at *
  generalize slot s l n (r6.1 - n) = r8 at *
  obtain ⟨k1, e1⟩ := r1
  obtain ⟨⟨x2, y2⟩, e2⟩ := r2
  obtain ⟨⟨x3, y3⟩, e3⟩ := r3
  obtain ⟨⟨x4, y4⟩, e4⟩ := r4
  obtain ⟨k6, e6⟩ := r6
  obtain ⟨⟨x7, y7⟩, e7⟩ := r7
  obtain ⟨⟨x8, y8⟩, e8⟩ := r8
  dsimp only at *
  have D1 : e1 ≠ 0 ∨ (e1 = 0 ∧ e2 ≠ 0) ∨ (e1 = 0 ∧ e2 = 0 ∧ x2 ≤ t ∧ t < y2) := by
    by_cases h : e1 = 0
    · by_cases h' : e2 = 0
      · exact .inr (.inr ⟨h, h', p1 h h'⟩)
      · exact .inr (.inl ⟨h, h'⟩)
    · exact .inl h
  have D2 : e3 ≠ 0 ∨ (e3 = 0 ∧ e4 ≠ 0) ∨ (e3 = 0 ∧ e4 = 0 ∧ m = decide (a = b)) := by
    by_cases h : e3 = 0
    · by_cases h' : e4 = 0
      · exact .inr (.inr ⟨h, h', p2 h h'⟩)
      · exact .inr (.inl ⟨h, h'⟩)
    · exact .inl h
  have D1 := Lib.hid D1
  have D2 := Lib.hid D2
  have D3 := Lib.hid p3
  clear p1 p2 p3 
  go_enter Try.func6, Try.ntmps6
  go_wp2_with fail
  refine (begun_any _).mono ?_
  rintro e w1 ⟨rfl, hb1⟩
  have hc1 := bcell hb1
  go_wp2_with fail
  refine (c1 _).mono ?_
  rintro e w2 ⟨rfl, hb2⟩
  have hc2 := bcell (bt hb1 hb2)
  clear hc1
  go_upto_if 32 with fail
  have bz : Below w.heap.size w w2 := bt (bt (below1 w _) hb1) hb2
  have q0 : w2.cell? ⟨w.heap.size, 0, none⟩ = some (.int .i64 s) := by rw [hc2 _ _ (by simp), World.cell?_alloc_at _ _ _ _ rfl]; rfl
  have q1 : w2.cell? ⟨w.heap.size, 1, none⟩ = some (.int .i64 l) := by rw [hc2 _ _ (by simp), World.cell?_alloc_at _ _ _ _ rfl]; rfl
  have q2 : w2.cell? ⟨w.heap.size, 2, none⟩ = some (.int .i64 n) := by rw [hc2 _ _ (by simp), World.cell?_alloc_at _ _ _ _ rfl]; rfl
  clear hc2 hb1 hb2
  go_cut [13, 14] from 31 to 52 (fun _ _ wx => wx.cell? ⟨w.heap.size, 0, none⟩ = some (.int .i64 s) ∧ wx.cell? ⟨w.heap.size, 1, none⟩ = some (.int .i64 l) ∧ wx.cell? ⟨w.heap.size, 2, none⟩ = some (.int .i64 n) ∧ Below w.heap.size w wx)
  case first =>
    rcases D1.out with h | ⟨rfl, h⟩ | ⟨rfl, rfl, h, h'⟩
    · go_wp2_with fail
      go_meet
      exact ⟨q0, q1, q2, bz⟩
    · go_wp2_with fail
      refine (c2 _).mono ?_
      rintro e w3 ⟨rfl, hb3⟩
      go_wp2_with fail
      go_meet
      have hb4 := bt hb3 (below1 w3 (.cells #[.int .i64 x2, .int .i64 y2] 23))
      exact ⟨keepCell hb4 q0, keepCell hb4 q1, keepCell hb4 q2, bt bz hb4⟩
    · go_wp2_with fail
      refine (c2 _).mono ?_
      rintro e w3 ⟨rfl, hb3⟩
      go_wp2_with fail
      go_meet
      have hb4 := bt hb3 (below1 w3 (.cells #[.int .i64 x2, .int .i64 y2] 23))
      exact ⟨keepCell hb4 q0, keepCell hb4 q1, keepCell hb4 q2, bt bz hb4⟩
  case rest =>
    obtain ⟨q0', q1', q2', bz'⟩ := hcut
    rename World => wy
    clear q0 q1 q2 bz c1 c2 D1
    go_wp2_with fail
    refine (c3 _).mono ?_
    rintro e w3 ⟨rfl, hb3⟩
    have q3 := keepCell hb3 q0'
    have q4 := keepCell hb3 q1'
    have q5 := keepCell hb3 q2'
    have b3 := bt bz' hb3
    have l3 : w.heap.size < w3.heap.size := World.block_lt_of_cell? _ _ q3
    clear q0' q1' q2' bz' hb3
    go_wp2_with fail
    refine (c4 _).mono ?_
    rintro e w4 ⟨rfl, hb4⟩
    have q6 := keepCell (bt (below1 w3 (.cells #[.int .i64 x3, .int .i64 y3] 23)) hb4) q3
    have q7 := keepCell (bt (below1 w3 (.cells #[.int .i64 x3, .int .i64 y3] 23)) hb4) q4
    have q8 := keepCell (bt (below1 w3 (.cells #[.int .i64 x3, .int .i64 y3] 23)) hb4) q5
    obtain ⟨z1, z2⟩ := cellN w3 (.int .i64 x3) (.int .i64 y3) 23
    have z3 := keepCell hb4 z1
    have z4 := keepCell hb4 z2
    have b4 := bt (bt b3 (below1 w3 (.cells #[.int .i64 x3, .int .i64 y3] 23))) hb4
    have l4 : w.heap.size < w4.heap.size := World.block_lt_of_cell? _ _ q6
    have l5 : w3.heap.size < w4.heap.size := World.block_lt_of_cell? _ _ z3
    clear z1 z2 hb4 q3 q4 q5 b3 l3
    go_upto_region 10 with fail
    have hb5 := below1 w4 (.cells #[.int .i64 x4, .int .i64 y4] 23)
    have f0 := keepCell hb5 q6
    have f1 := keepCell hb5 q7
    have f2 := keepCell hb5 q8
    have f3 := keepCell hb5 z3
    have f4 := keepCell hb5 z4
    obtain ⟨f5, f6⟩ := cellN w4 (.int .i64 x4) (.int .i64 y4) 23
    have b5 := bt b4 hb5
    clear q6 q7 q8 z3 z4 b4 hb5 l5
    generalize w4.alloc (.cells #[.int .i64 x4, .int .i64 y4] 23) = w5 at *
    go_cut [81] from 67 to 80 (fun u wx => u = .bool false ∧ wx.cell? ⟨w.heap.size, 0, none⟩ = some (.int .i64 s) ∧ wx.cell? ⟨w.heap.size, 1, none⟩ = some (.int .i64 l) ∧ wx.cell? ⟨w.heap.size, 2, none⟩ = some (.int .i64 n) ∧ Below w.heap.size w wx)
    case first =>
      rcases D2.out with h | ⟨rfl, h⟩ | ⟨rfl, rfl, rfl⟩
      · go_wp2_with fail
        go_meet
        exact ⟨rfl, f0, f1, f2, b5⟩
      · go_wp2_with fail
        go_meet
        exact ⟨rfl, f0, f1, f2, b5⟩
      · go_wp2_with fail
        refine (c5 _).mono ?_
        rintro e w6 ⟨rfl, hb6⟩
        go_wp2_with fail
        go_meet
        exact ⟨by simp; rfl, keepCell hb6 f0, keepCell hb6 f1, keepCell hb6 f2, bt b5 hb6⟩
    case rest =>
      obtain ⟨rfl, g0, g1, g2, bb⟩ := hcut
      rename World => wz
      clear f0 f1 f2 f3 f4 f5 f6 b5 c3 c4 c5 D2
      go_wp2_with fail
      refine (c6 _).mono ?_
      rintro e w7 ⟨rfl, hb7⟩
      have h0 := keepCell hb7 g0
      have h1 := keepCell hb7 g1
      have h2 := keepCell hb7 g2
      have b7 := bt bb hb7
      clear g0 g1 g2 bb hb7
      by_cases he : e6 = 0
      · obtain ⟨n1, n2, k0, k9, km, p7, p8⟩ := D3.out he
        subst he
        go_wp2_with fail
        refine (c7 _).mono ?_
        rintro e w8 ⟨rfl, hb8⟩
        have j0 := keepCell hb8 h0
        have j1 := keepCell hb8 h1
        have j2 := keepCell hb8 h2
        have b8 := bt b7 hb8
        have l8 : w.heap.size < w8.heap.size := World.block_lt_of_cell? _ _ j0
        have b9 := bt b8 (below1 w8 (.cells #[.int .i64 x7, .int .i64 y7] 23))
        clear h0 h1 h2 b7 hb8 c7
        have D7 : e7 ≠ 0 ∨ (e7 = 0 ∧ t ≤ x7) := by
          by_cases h : e7 = 0
          · exact .inr ⟨h, p7 h⟩
          · exact .inl h
        have D8 : k6 < n ∨ (n ≤ k6 ∧ e8 ≠ 0) ∨ (n ≤ k6 ∧ e8 = 0 ∧ x8 < t) := by
          by_cases h : k6 < n
          · exact .inl h
          · by_cases h' : e8 = 0
            · exact .inr (.inr ⟨by omega, h', p8 h'⟩)
            · exact .inr (.inl ⟨by omega, h'⟩)
        clear p7 p8 D3 D1
        rcases D7 with h7 | ⟨rfl, h7⟩ <;> rcases D8 with hn | ⟨hn, h8⟩ | ⟨hn, rfl, h8⟩
        all_goals go_wp2_with fail
        all_goals first
          | (go_ret; exact ⟨rfl, b9⟩)
          | (refine (c8 _).mono ?_
             rintro e w9 ⟨rfl, hb9⟩
             go_wp2_with fail
             go_ret
             refine ⟨ret_bool ?_, bt (bt b9 hb9) (below1 w9 _)⟩
             simp)
      · go_wp2_with fail
        go_ret
        exact ⟨rfl, b7⟩
end Go.Proofs.Ytiahmhmchppjgaa
