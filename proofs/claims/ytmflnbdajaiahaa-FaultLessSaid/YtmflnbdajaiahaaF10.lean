/- The document's Less of faults. -/
import Derived.Test.YtmflnbdajaiahaaP1
import Derived.Test.YtmflnbdajaiahaaM8
namespace Go.Proofs.Ytmflnbdajaiahaa
open Go.RowKit Go.Shelf

theorem lexC_at {xs ys : List Int} {k : Nat} {p q : Int} (hp : xs[k]? = some p) (hq : ys[k]? = some q) : lexC (xs.drop k) (ys.drop k) = if p < q then -1 else if q < p then 1 else lexC (xs.drop (k + 1)) (ys.drop (k + 1)) := by
  have h1 := (List.getElem?_eq_some_iff.1 hp)
  have h2 := (List.getElem?_eq_some_iff.1 hq)
  obtain ⟨h1, e1⟩ := h1
  obtain ⟨h2, e2⟩ := h2
  rw [List.drop_eq_getElem_cons h1, List.drop_eq_getElem_cons h2, e1, e2]
  rfl
theorem below_drewN' {B : Nat} {a w : World} (h : Below B a w) (q : Nat) : Below B a (w.drewN q) := ⟨h.os, h.tape, h.output, h.size, h.block⟩
set_option maxRecDepth 100000 in
set_option maxHeartbeats 1600000 in
theorem rless_any (x y : Fa) (w : World) : Calls Try.prog 57 #[.agg (encF x).toArray, .agg (encF y).toArray] w fun e w' => e = .returned (.bool (decide (cmpF x y < 0))) ∧ Below w.heap.size w w' := by
  have HP : Hid (∀ w' b, Below w.heap.size w w' → b = decide (lexC (keyF x) (keyF y) < 0) → (fun e w' => e = Ending.returned (.bool (decide (cmpF x y < 0))) ∧ Below w.heap.size w w') (.returned (.bool b)) w') := fun w' b h hb => by subst hb; rw [← cmpF_lex]; exact ⟨rfl, h⟩
  generalize (fun e w' => e = Ending.returned (.bool (decide (cmpF x y < 0))) ∧ Below w.heap.size w w') = R at *
  have HB0 := Lib.hid (below2 w (.cells (encF x).toArray 33) (.cells (encF y).toArray 33))
  have HX0 : Hid (Blk ((w.alloc (.cells (encF x).toArray 33)).alloc (.cells (encF y).toArray 33)) w.heap.size 33 (encF x).toArray) := (Blk.new' rfl : Blk _ _ _ _).alloc _
  have HY0 : Hid (Blk ((w.alloc (.cells (encF x).toArray 33)).alloc (.cells (encF y).toArray 33)) (w.heap.size + 1) 33 (encF y).toArray) := Blk.new' (by simp)
  go_enter Try.func57, Try.ntmps57
  go_upto_region 1 with fail
  change Code.wp _ _ _ _ ((w.alloc (.cells (encF x).toArray 33)).alloc (.cells (encF y).toArray 33))
  generalize (w.alloc (.cells (encF x).toArray 33)).alloc (.cells (encF y).toArray 33) = W0 at *
  have cxr : W0.cell? ⟨w.heap.size, 3, none⟩ = some (.int .i64 x.r) := HX0.out.list0 rfl
  have cxs : W0.cell? ⟨w.heap.size, 4, none⟩ = some (.int .i64 x.s) := HX0.out.list0 rfl
  have cxk : W0.cell? ⟨w.heap.size, 0, none⟩ = some (.int .i64 x.k) := HX0.out.list0 rfl
  have cxn : W0.cell? ⟨w.heap.size, 1, none⟩ = some (.int .i64 x.n) := HX0.out.list0 rfl
  have cxc : W0.cell? ⟨w.heap.size, 2, none⟩ = some (.int .i64 x.c) := HX0.out.list0 rfl
  have cxa : W0.cell? ⟨w.heap.size, 5, none⟩ = some (.int .i64 x.a) := HX0.out.list0 rfl
  have cxb : W0.cell? ⟨w.heap.size, 6, none⟩ = some (.int .i64 x.b) := HX0.out.list0 rfl
  go_upto_region 2 with ((with_reducible show wpList _ _ _ (Oper.mk (some 22) _ _ _ _ _ :: _) _ _); refine wpList_val rfl (exec_slice7 (p0 := x.r) (p1 := x.s) (p2 := x.k) (p3 := x.n) (p4 := x.c) (p5 := x.a) (p6 := x.b) rfl rfl rfl rfl rfl rfl rfl rfl) ?_)
  clear cxr cxs cxk cxn cxc cxa cxb
  have HR1 : Hid (Rd (encI .i64) 1 (W0.alloc (.cells #[.int .i64 x.r, .int .i64 x.s, .int .i64 x.k, .int .i64 x.n, .int .i64 x.c, .int .i64 x.a, .int .i64 x.b] 3)) (.slice (some ⟨W0.heap.size, 0, none⟩) 7 7) (keyF x)) := row7 rfl _ _ _ _ _ _ _
  have HY1 := Lib.hid (HY0.out.keep (below1 W0 (.cells #[.int .i64 x.r, .int .i64 x.s, .int .i64 x.k, .int .i64 x.n, .int .i64 x.c, .int .i64 x.a, .int .i64 x.b] 3)))
  have HB1 : Hid (Below w.heap.size w (W0.alloc (.cells #[.int .i64 x.r, .int .i64 x.s, .int .i64 x.k, .int .i64 x.n, .int .i64 x.c, .int .i64 x.a, .int .i64 x.b] 3))) := HB0.out.trans ((below1 W0 (.cells #[.int .i64 x.r, .int .i64 x.s, .int .i64 x.k, .int .i64 x.n, .int .i64 x.c, .int .i64 x.a, .int .i64 x.b] 3)).mono HB0.out.size)
  clear HX0 HY0 HB0
  generalize W0.alloc (.cells #[.int .i64 x.r, .int .i64 x.s, .int .i64 x.k, .int .i64 x.n, .int .i64 x.c, .int .i64 x.a, .int .i64 x.b] 3) = W1 at *
  generalize W0.heap.size = bx at *
  have cyr : W1.cell? ⟨w.heap.size + 1, 3, none⟩ = some (.int .i64 y.r) := HY1.out.list0 rfl
  have cys : W1.cell? ⟨w.heap.size + 1, 4, none⟩ = some (.int .i64 y.s) := HY1.out.list0 rfl
  have cyk : W1.cell? ⟨w.heap.size + 1, 0, none⟩ = some (.int .i64 y.k) := HY1.out.list0 rfl
  have cyn : W1.cell? ⟨w.heap.size + 1, 1, none⟩ = some (.int .i64 y.n) := HY1.out.list0 rfl
  have cyc : W1.cell? ⟨w.heap.size + 1, 2, none⟩ = some (.int .i64 y.c) := HY1.out.list0 rfl
  have cya : W1.cell? ⟨w.heap.size + 1, 5, none⟩ = some (.int .i64 y.a) := HY1.out.list0 rfl
  have cyb : W1.cell? ⟨w.heap.size + 1, 6, none⟩ = some (.int .i64 y.b) := HY1.out.list0 rfl
  go_upto_region 3 with ((with_reducible show wpList _ _ _ (Oper.mk (some 37) _ _ _ _ _ :: _) _ _); refine wpList_val rfl (exec_slice7 (p0 := y.r) (p1 := y.s) (p2 := y.k) (p3 := y.n) (p4 := y.c) (p5 := y.a) (p6 := y.b) rfl rfl rfl rfl rfl rfl rfl rfl) ?_)
  clear cyr cys cyk cyn cyc cya cyb
  have HRY : Hid (Rd (encI .i64) 1 (W1.alloc (.cells #[.int .i64 y.r, .int .i64 y.s, .int .i64 y.k, .int .i64 y.n, .int .i64 y.c, .int .i64 y.a, .int .i64 y.b] 3)) (.slice (some ⟨W1.heap.size, 0, none⟩) 7 7) (keyF y)) := row7 rfl _ _ _ _ _ _ _
  have HRX := Lib.hid (HR1.out.below (below1 W1 (.cells #[.int .i64 y.r, .int .i64 y.s, .int .i64 y.k, .int .i64 y.n, .int .i64 y.c, .int .i64 y.a, .int .i64 y.b] 3)))
  have HB2 : Hid (Below w.heap.size w (W1.alloc (.cells #[.int .i64 y.r, .int .i64 y.s, .int .i64 y.k, .int .i64 y.n, .int .i64 y.c, .int .i64 y.a, .int .i64 y.b] 3))) := HB1.out.trans ((below1 W1 (.cells #[.int .i64 y.r, .int .i64 y.s, .int .i64 y.k, .int .i64 y.n, .int .i64 y.c, .int .i64 y.a, .int .i64 y.b] 3)).mono HB1.out.size)
  clear HR1 HY1 HB1
  generalize W1.alloc (.cells #[.int .i64 y.r, .int .i64 y.s, .int .i64 y.k, .int .i64 y.n, .int .i64 y.c, .int .i64 y.a, .int .i64 y.b] 3) = W2 at *
  generalize W1.heap.size = by' at *
  have HLX : Hid ((keyF x).length = 7) := rfl
  have HLY : Hid ((keyF y).length = 7) := rfl
  generalize keyF x = xs at *
  generalize keyF y = ys at *
  go_wp2_with fail
  go_loopw [7] (fun i wr => ∃ k : Nat, k ≤ 7 ∧ i = .int .i64 k ∧ Hid (lexC xs ys = lexC (xs.drop k) (ys.drop k)) ∧ Hid (Below W2.heap.size W2 wr)) (fun i _ => 7 - (intOf i).toNat)
  case atStart => exact ⟨0, by omega, rfl, rfl, Below.refl _ _⟩
  case round =>
    obtain ⟨k, hk, rfl, HL, HW⟩ := hrel
    obtain ⟨wo, rfl⟩ : ∃ wo : World, wo = wr := ⟨_, rfl⟩
    by_cases hlt : k < 7
    · obtain ⟨p, hp⟩ : ∃ p, xs[k]? = some p := ⟨_, List.getElem?_eq_getElem (by have := HLX.out; omega)⟩
      obtain ⟨q, hq⟩ : ∃ q, ys[k]? = some q := ⟨_, List.getElem?_eq_getElem (by have := HLY.out; omega)⟩
      have HAT := Lib.hid (lexC_at hp hq)
      obtain ⟨b1, o1, e1, -, h1⟩ := (HRX.out.below HW.out).row (by rintro rfl; simp at hp)
      simp only [Option.some.injEq, Addr.mk.injEq, and_true] at e1
      obtain ⟨rfl, rfl⟩ := e1
      obtain ⟨b2, o2, e2, -, h2⟩ := (HRY.out.below HW.out).row (by rintro rfl; simp at hq)
      simp only [Option.some.injEq, Addr.mk.injEq, and_true] at e2
      obtain ⟨rfl, rfl⟩ := e2
      have c1 : wo.cell? ⟨bx, k, none⟩ = some (.int .i64 p) := by have := h1.one (f := fun x => .int .i64 x) hp; rwa [Nat.zero_add] at this
      have c2 : wo.cell? ⟨by', k, none⟩ = some (.int .i64 q) := by have := h2.one (f := fun x => .int .i64 x) hq; rwa [Nat.zero_add] at this
      have hk7 : (k : Int) < 7 := by omega
      have HBW : Hid (∀ nq, Below w.heap.size w (wo.drewN nq)) := fun nq => below_drewN' (HB2.out.trans (HW.out.mono HB2.out.size)) nq
      have HWD : Hid (∀ nq, Below W2.heap.size W2 (wo.drewN nq)) := fun nq => below_drewN' HW.out nq
      clear hp hq h1 h2
      by_cases hpq : p = q
      · subst hpq
        have HL2 : Hid (lexC xs ys = lexC (xs.drop (k + 1)) (ys.drop (k + 1))) := by show _ = _; rw [HL.out, HAT.out, if_neg (by omega), if_neg (by omega)]
        clear HAT HL
        go_upto_region 6 with fail
        go_quiet (fail)
        go_wp2
        go_roundw
        case rel => exact ⟨k + 1, by omega, by go_num, HL2, HWD.out _⟩
        case measure => simp [intOf]; omega
      · have hne : (p != q) = true := by simpa using hpq
        have HEND : Hid (decide (p < q) = decide (lexC xs ys < 0)) := by
          show _ = _
          rw [HL.out, HAT.out]
          by_cases h : p < q
          · rw [if_pos h]; simp [h]
          · rw [if_neg h, if_pos (by omega)]; simp [h]
        clear HAT HL hpq
        go_upto_region 6 with fail
        go_quiet (fail)
        go_upto_region 7 with fail
        go_quiet (fail)
        go_wp2
        exact HP.out _ _ (below_drewN' (HBW.out _) _) HEND.out
    · obtain rfl : k = 7 := by omega
      have HEND : Hid (false = decide (lexC xs ys < 0)) := by
        show _ = _
        rw [HL.out, List.drop_of_length_le (by have := HLX.out; omega), List.drop_of_length_le (by have := HLY.out; omega)]
        rfl
      have HBW := Lib.hid (HB2.out.trans (HW.out.mono HB2.out.size))
      clear HL hlt hk
      go_wp2
      exact HP.out _ _ HBW.out HEND.out
end Go.Proofs.Ytmflnbdajaiahaa
