/- begun: three events, in order. -/
import Derived.Test.YtbmnecdkjkffdaaP4
import Derived.Test.YtbmnecdkjkffdaaE11
import Derived.Test.YtbmnecdkjkffdaaE6
namespace Go.Proofs.Ytbmnecdkjkffdaa
open Go.RowKit

theorem new_good (v : Value) (l : List Ev) (w : World) (h : Rd encE 4 w v l) (hl : l.length ≤ 16384) (hb : l.any badE = false) : Calls Try.prog 9 #[v] w (NewSome l w) :=
  (new_any v l w h hl).mono fun e w' h => by simpa [hb] using h
theorem new_bad (v : Value) (l : List Ev) (w : World) (h : Rd encE 4 w v l) (hl : l.length ≤ 16384) (hb : l.any badE = true) : Calls Try.prog 9 #[v] w (NewNone l w) :=
  (new_any v l w h hl).mono fun e w' h => by simpa [hb] using h
theorem exec_eqE {w : World} {o : Oper} {ac : Act} {x y : Operand} {ty : TypeId} {u v : Ev} (ho : o.op = .binOp .eql 31 x y ty) (hx : ac.eval x = .agg (encE u).toArray) (hy : ac.eval y = .agg (encE v).toArray) : (execOp ac.eval o).run Try.prog w = .ok (.value (.bool (decide (u = v)))) w := by
  have hg : Try.prog.eqGuardType Try.prog.depth 31 = false := by kernel_rfl
  simp [execOp, ho, hx, hy, run_eqGuard_agg w _ _ _ _ _ _ hg, eqE, Result.andThen]
theorem exec_neE {w : World} {o : Oper} {ac : Act} {x y : Operand} {ty : TypeId} {u v : Ev} (ho : o.op = .binOp .neq 31 x y ty) (hx : ac.eval x = .agg (encE u).toArray) (hy : ac.eval y = .agg (encE v).toArray) : (execOp ac.eval o).run Try.prog w = .ok (.value (.bool (!decide (u = v)))) w := by
  have hg : Try.prog.eqGuardType Try.prog.depth 31 = false := by kernel_rfl
  simp [execOp, ho, hx, hy, run_eqGuard_agg w _ _ _ _ _ _ hg, neE, Result.andThen]
def B1 : Ev := ⟨5, 1, 0, 0⟩
def B2 : Ev := ⟨3, 2, 0, 0⟩
def B3 : Ev := ⟨3, 1, 0, 0⟩
theorem begun_l1 : (newL [B1, B2, B3])[0]? = some B3 := head_is (newL_heap _) (newL_perm _) (by simp) (by intro y hy; simp at hy; rcases hy with rfl | rfl | rfl <;> simp [Lt, B1, B2, B3])
theorem begun_p : (popL (newL [B1, B2, B3])).Perm [B1, B2] := by
  have h := (popL_perm begun_l1).symm.trans (newL_perm [B1, B2, B3])
  have h2 : [B1, B2, B3].Perm (B3 :: [B1, B2]) := by decide
  exact List.Perm.cons_inv (h.trans h2)
theorem begun_l2 : (popL (newL [B1, B2, B3]))[0]? = some B2 := head_is (popL_heap (newL_heap _)) begun_p (by simp) (by intro y hy; simp at hy; rcases hy with rfl | rfl <;> simp [Lt, B1, B2])
theorem begun_n : (popL (popL (newL [B1, B2, B3]))).length = 1 := by
  have h := (popL_perm begun_l2).length_eq
  rw [begun_p.length_eq] at h
  simpa using h.symm
set_option maxRecDepth 100000 in
set_option maxHeartbeats 1600000 in
theorem begun_any (w : World) : Calls Try.prog 8 #[] w fun e w' => e = .returned (.bool true) ∧ Below w.heap.size w w' := by
  have hrd : Rd encE 4 (w.alloc (.cells #[.int .i64 5, .int .i64 1, .int .i64 0, .int .i64 0, .int .i64 3, .int .i64 2, .int .i64 0, .int .i64 0, .int .i64 3, .int .i64 1, .int .i64 0, .int .i64 0] 31)) (.slice (some ⟨w.heap.size, 0, none⟩) 3 3) [B1, B2, B3] := Rd.new encE_len [B1, B2, B3] (by simp)
  have hb0 := below1 w (.cells #[.int .i64 5, .int .i64 1, .int .i64 0, .int .i64 0, .int .i64 3, .int .i64 2, .int .i64 0, .int .i64 0, .int .i64 3, .int .i64 1, .int .i64 0, .int .i64 0] 31)
  have HC := Lib.hid (new_good _ _ _ hrd (by simp) (by decide))
  have HB0 := Lib.hid hb0
  clear hrd hb0
  go_enter Try.func8, Try.ntmps8
  go_wp2_with fail
  refine HC.out.mono ?_
  rintro e w1 ⟨q, sv, rfl, hq, hQ, hB⟩
  clear HC
  have HQ := Lib.hid hQ
  have HB1 := Lib.hid (HB0.out.trans (hB.mono HB0.out.size))
  have HQW : Hid (w.heap.size ≤ q) := Nat.le_trans HB0.out.size hq
  have hq1 : q < w1.heap.size := hQ.1.lt
  clear hq hQ hB HB0
  have HL1 := Lib.hid begun_l1
  have HLE : Hid ((newL [B1, B2, B3]).length = 3) := newL_len _
  have HL2 := Lib.hid begun_l2
  have HN := Lib.hid begun_n
  generalize newL [B1, B2, B3] = l1 at *
  go_wp2_with fail
  refine (pop_some q sv l1 0 B3 w1 HQ.out (by have := HLE.out; omega) HL1.out).mono ?_
  rintro e w2 ⟨rfl, sv2, hQ2, hS2⟩
  have hlen2 : (popL l1).length ≤ 16384 := by have := (popL_perm HL1.out).length_eq; have := HLE.out; simp at *; omega
  have HLEN := Lib.hid hlen2
  have HQ2 := Lib.hid hQ2
  have HS2 := Lib.hid hS2
  clear hQ2 hS2 hq1 hlen2
  generalize popL l1 = l2 at *
  go_wp2_with (first | ((with_reducible show wpList _ _ _ (Oper.mk none (Op.store 31 _ _) _ _ _ _ :: _) _ _); refine wpList_boxW W31 rfl rfl rfl (encE B3) rfl rfl (encE_one _) rfl ?_; intro W3 hbx hbel hsz; have HBX := Lib.hid hbx; have HE := Lib.hid hbel; have HZ := Lib.hid hsz; clear hbx hbel hsz))
  obtain ⟨b, hb⟩ : ∃ b, w2.heap.size = b := ⟨_, rfl⟩
  rw [hb]
  rw [hb] at HBX
  have HBB := Lib.hid hb
  clear hb
  have HQ3 := Lib.hid (HQ2.out.below HE.out)
  have HS3 := Lib.hid (HS2.out.trans (QS.of_below HE.out))
  refine (pop_some q sv2 l2 B3.a B2 W3 HQ3.out HLEN.out HL2.out).mono ?_
  rintro e w4 ⟨rfl, sv4, hQ4, hS4⟩
  have HQ4 := Lib.hid hQ4
  have HB4 : Hid (Blk w4 b 31 (encE B3).toArray) := blk_qk hS4.k HBX.out (by have := HBB.out; have := HQ2.out.1.lt; omega) (fun e => by have := (HQ2.out.2.lt b e).2; have := HBB.out; omega)
  have HS4 := Lib.hid (HS3.out.trans hS4)
  clear hQ4 hS4 HQ3 HS3 HS2 HQ2 HE HZ HBX
  generalize popL l2 = l3 at *
  go_wp2_with (first | ((with_reducible show wpList _ _ _ (Oper.mk none (Op.store 31 _ _) _ _ _ _ :: _) _ _); refine wpList_boxW W31 rfl rfl rfl (encE B2) rfl rfl (encE_one _) rfl ?_; intro W5 hbx hbel hsz; have HBX := Lib.hid hbx; have HE := Lib.hid hbel; have HB5 := Lib.hid (HB4.out.keep hbel); have HQ5 := Lib.hid (HQ4.out.below hbel); have HLN : Hid (Calls Try.prog 12 #[.pointer (some ⟨q, 0, none⟩)] W5 fun e w' => e = .returned (.int .i64 1) ∧ W5 = w') := (by have h := len_any q sv4 l3 _ W5 HQ5.out; rw [HN.out] at h; exact h); have HNOW := Lib.hid (now_any q sv4 l3 3 W5 HQ5.out); have HBF : Hid (Below w.heap.size w W5) := HB1.out.trans (HS4.out.below HB1.out.size HQW.out (fun g e => by have := (HQ.out.2.lt g e).1; have := HQW.out; omega) |>.trans (HE.out.mono (by have := HB1.out.size; have := HS4.out.k.size; omega))); clear hbx hbel hsz) | ((with_reducible show wpList _ _ _ (Oper.mk (some 37) _ _ _ _ _ :: _) _ _); refine wpList_loadW W31 rfl rfl rfl (encE B3) rfl HB5.out.list ?_) | ((with_reducible show wpList _ _ _ (Oper.mk (some 42) _ _ _ _ _ :: _) _ _); refine wpList_loadW W31 rfl rfl rfl (encE B2) rfl HBX.out.list ?_) | ((with_reducible show wpList _ _ _ (Oper.mk (some 39) _ _ _ _ _ :: _) _ _); refine wpList_val rfl (exec_eqE (u := B3) (v := B3) rfl rfl rfl) ?_) | ((with_reducible show wpList _ _ _ (Oper.mk (some 44) _ _ _ _ _ :: _) _ _); refine wpList_val rfl (exec_eqE (u := B2) (v := B2) rfl rfl rfl) ?_) | (go_at_call 12; refine HLN.out.mono ?_; go_must (rintro e w' ⟨rfl, rfl⟩)) | (go_at_call 19; refine HNOW.out.mono ?_; go_must (rintro e w' ⟨rfl, rfl⟩)))
  go_ret
  exact ⟨rfl, HBF.out⟩
end Go.Proofs.Ytbmnecdkjkffdaa
