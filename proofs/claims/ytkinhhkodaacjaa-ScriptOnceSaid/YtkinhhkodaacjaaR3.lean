/- Precision. -/
import Derived.Test.YtkinhhkodaacjaaMB
import Derived.Test.YtkinhhkodaacjaaR2
import Derived.Test.YtkinhhkodaacjaaF3
namespace Go.Proofs.Ytkinhhkodaacjaa
open Go.RowKit Go.Shelf
open Md

def precM (m : Me) : Int := 14 * m.nodes * m.drift + 8
theorem okM_drift {m : Me} (h : okM m = true) : 0 ≤ m.drift ∧ m.drift ≤ 64 ∧ 4 ≤ m.nodes ∧ m.nodes ≤ 8 := by
  have hb := okM_bd h
  unfold okM at h
  simp only [Bool.and_eq_true, decide_eq_true_eq] at h
  exact ⟨h.1.2.1.1.1.1.1.1, h.1.2.1.1.1.1.1.2, hb.n0, hb.n1⟩
set_option maxRecDepth 100000 in
set_option maxHeartbeats 1600000 in
theorem prec_any (m : Me) (w : World) (h : GoodMe w m) : Calls Try.prog 23 #[.agg (encMe m).toArray] w fun e w' => e = .returned (.tuple (if okM m then #[.int .i64 (precM m), .int .i64 0] else #[.int .i64 0, .int .i64 70])) ∧ Below w.heap.size w w' := by
  have HPO : Hid (∀ t w', Below w.heap.size w w' → t = (if okM m then #[.int .i64 (precM m), .int .i64 0] else #[.int .i64 0, .int .i64 70]) → (fun e w' => e = Ending.returned (.tuple (if okM m then #[.int .i64 (precM m), .int .i64 0] else #[.int .i64 0, .int .i64 70])) ∧ Below w.heap.size w w') (.returned (.tuple t)) w') := fun t w' hb ht => ⟨by rw [ht], hb⟩
  generalize (fun e w' => e = Ending.returned (.tuple (if okM m then #[.int .i64 (precM m), .int .i64 0] else #[.int .i64 0, .int .i64 70])) ∧ Below w.heap.size w w') = POST at *
  have HB0 := Lib.hid (below1 w (.cells (encMe m).toArray 25))
  have HM0 : Hid (Blk (w.alloc (.cells (encMe m).toArray 25)) w.heap.size 25 (encMe m).toArray) := Blk.new' rfl
  have HCK : Hid (Calls Try.prog 55 #[.agg (encMe m).toArray] (w.alloc (.cells (encMe m).toArray 25)) fun e w' => e = .returned (.int .i64 (errM m)) ∧ Below (w.alloc (.cells (encMe m).toArray 25)).heap.size (w.alloc (.cells (encMe m).toArray 25)) w') := Lib.hid (mcheck_any m _ (h.below HB0.out))
  clear h
  go_enter Try.func23, Try.ntmps23
  go_upto_region 1 with fail
  change Code.wp _ _ _ _ (w.alloc (.cells (encMe m).toArray 25))
  generalize w.alloc (.cells (encMe m).toArray 25) = W0 at *
  by_cases ho : okM m = true
  · have he : errM m = 0 := by unfold errM; rw [if_pos ho]
    rw [he] at HCK
    have hd := okM_drift ho
    have HT : Hid ((#[Value.int .i64 (14 * m.nodes * m.drift + 8), Value.int .i64 0] : Array Value) = (if okM m then #[.int .i64 (precM m), .int .i64 0] else #[.int .i64 0, .int .i64 70])) := by show _ = _; rw [if_pos ho]; rfl
    have hb1 : 0 ≤ 14 * m.nodes * m.drift ∧ 14 * m.nodes * m.drift ≤ 7168 := by
      have h1 : 0 ≤ m.nodes * m.drift := Int.mul_nonneg (by omega) (by omega)
      have h2 : m.nodes * m.drift ≤ 8 * 64 := Int.mul_le_mul (by omega) (by omega) (by omega) (by omega)
      rw [Int.mul_assoc]; omega
    clear ho he
    go_wp2_with ((with_reducible show wpList _ _ _ (Oper.mk (some 5) _ _ _ _ _ :: _) _ _); refine wpList_loadW W25 rfl rfl rfl (encMe m) rfl HM0.out.list ?_)
    refine HCK.out.mono ?_
    rintro e w1 ⟨rfl, hb⟩
    have HB1 := Lib.hid (HB0.out.trans (hb.mono HB0.out.size))
    have HM1 := Lib.hid (HM0.out.keep hb)
    have c0 : w1.cell? ⟨w.heap.size, 0, none⟩ = some (.int .i64 m.nodes) := HM1.out.list0 rfl
    have c4 : w1.cell? ⟨w.heap.size, 4, none⟩ = some (.int .i64 m.drift) := HM1.out.list0 rfl
    have hw1 : IntKind.i64.wrap (14 * m.nodes) = 14 * m.nodes := IntWalk.i64_in _ (by omega)
    have hw2 : IntKind.i64.wrap (14 * m.nodes * m.drift) = 14 * m.nodes * m.drift := IntWalk.i64_in _ (by omega)
    have hw3 : IntKind.i64.wrap (14 * m.nodes * m.drift + 8) = 14 * m.nodes * m.drift + 8 := IntWalk.i64_in _ (by omega)
    clear hb hb1 hd HM0 HM1 HCK
    go_wp2
    exact HPO.out _ _ HB1.out HT.out
  · have he : errM m = 70 := by unfold errM; rw [if_neg ho]
    rw [he] at HCK
    have HT : Hid ((#[Value.int .i64 0, Value.int .i64 70] : Array Value) = (if okM m then #[.int .i64 (precM m), .int .i64 0] else #[.int .i64 0, .int .i64 70])) := by show _ = _; rw [if_neg ho]
    clear ho he
    go_wp2_with ((with_reducible show wpList _ _ _ (Oper.mk (some 5) _ _ _ _ _ :: _) _ _); refine wpList_loadW W25 rfl rfl rfl (encMe m) rfl HM0.out.list ?_)
    refine HCK.out.mono ?_
    rintro e w1 ⟨rfl, hb⟩
    have HB1 := Lib.hid (HB0.out.trans (hb.mono HB0.out.size))
    clear hb HM0 HCK
    go_wp2
    exact HPO.out _ _ HB1.out HT.out
end Go.Proofs.Ytkinhhkodaacjaa
