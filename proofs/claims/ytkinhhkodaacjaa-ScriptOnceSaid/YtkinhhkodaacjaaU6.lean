/- Clean, with a list that may be and with one that may not. -/
import Derived.Test.YtkinhhkodaacjaaU4
namespace Go.Proofs.Ytkinhhkodaacjaa
open Go.RowKit Go.Shelf
open Md

theorem exec_build0 {w : World} {o : Oper} {ac : Act} (ho : o.op = .build 30 #[]) : (execOp ac.eval o).run Try.prog w = .ok (.value (.agg zScr.toArray)) w := by
  generalize ac.eval = ev at *
  unfold execOp
  simp only [ho]
  go_simp
  try rfl
set_option maxRecDepth 100000 in
set_option maxHeartbeats 1600000 in
theorem cleanE_any (m : Me) (x : Sc) (w : World) (hg : GoodMe w m) (ho : ¬ okM m = true) : Calls Try.prog 7 #[.agg (encMe m).toArray, .agg (encSc x).toArray] w (CleanedPost m x w) := by
  have HPR : Hid (∀ X, Hid (CQ m x m.nodes.toNat w X ∨ Below w.heap.size w X) → Calls Try.prog 23 #[.agg (encMe m).toArray] X fun e w' => e = .returned (.tuple #[.int .i64 0, .int .i64 70]) ∧ Below X.heap.size X w') := fun X h => by
    have hb : Below w.heap.size w X := by
      rcases h.out with h1 | h1
      · exact h1.bel
      · exact h1
    have := prec_any m X (hg.below hb)
    rw [if_neg ho] at this
    exact this
  have HPO : Hid (∀ X, Below w.heap.size w X → CleanedPost m x w (.returned (.tuple #[.agg zScr.toArray, .int .i64 70])) X) := fun X hb => ⟨by rw [if_neg ho], hb⟩
  have HB0 := Lib.hid (below3 w (.cells (encMe m).toArray 25) (.cells (encSc x).toArray 30) (.cells zScr.toArray 30))
  have HM0 : Hid (Blk (((w.alloc (.cells (encMe m).toArray 25)).alloc (.cells (encSc x).toArray 30)).alloc (.cells zScr.toArray 30)) w.heap.size 25 (encMe m).toArray) := ((Blk.new' rfl : Blk _ _ _ _).alloc _).alloc _
  have HR0 : Hid (Blk (((w.alloc (.cells (encMe m).toArray 25)).alloc (.cells (encSc x).toArray 30)).alloc (.cells zScr.toArray 30)) (w.heap.size + 1 + 1) 30 zScr.toArray) := Blk.new' (by simp)
  generalize CleanedPost m x w = POST at *
  clear hg ho
  go_enter Try.func7, Try.ntmps7
  go_upto_region 1 with fail
  change Code.wp _ _ _ _ (((w.alloc (.cells (encMe m).toArray 25)).alloc (.cells (encSc x).toArray 30)).alloc (.cells zScr.toArray 30))
  generalize (((w.alloc (.cells (encMe m).toArray 25)).alloc (.cells (encSc x).toArray 30)).alloc (.cells zScr.toArray 30)) = W0 at *
  go_wp2_with ((with_reducible show wpList _ _ _ (Oper.mk (some 13) _ _ _ _ _ :: _) _ _); refine wpList_loadW W25 rfl rfl rfl (encMe m) rfl HM0.out.list ?_)
  refine (HPR.out _ (Lib.hid (.inr HB0.out))).mono ?_
  rintro e W1 ⟨rfl, hb1⟩
  have HB1 := Lib.hid (HB0.out.trans (hb1.mono HB0.out.size))
  have HR1 := Lib.hid (HR0.out.keep hb1)
  clear hb1 HPR HM0 HR0 HB0
  go_upto_region 3 with fail
  go_wp2_with (first | ((with_reducible show wpList _ _ _ (Oper.mk (some 19) _ _ _ _ _ :: _) _ _); refine wpList_val rfl (exec_build0 rfl) ?_) | ((with_reducible show wpList _ _ _ (Oper.mk none (Op.store 30 _ _) _ _ _ _ :: _) _ _); refine wpList_storePart (cs := zScr) (old := zScr) W30 rfl rfl rfl rfl rfl (by simp [Value.oneCell', zScr]) HR1.out (by decide) ?_; intro W9 hbl hg; have HZ := Lib.hid hbl; have HGG := Lib.hid hg; clear hbl hg))
  have HF : Hid (Blk W9 (w.heap.size + 2) 30 zScr.toArray) := HZ
  have HB : Hid (Below w.heap.size w W9) := Lib.hid (HB1.out.grown HGG.out HB1.out.size (fun k e => by cases e; omega))
  refine bodyPost_ret (results_cell2 rfl W30 rfl (cs := zScr) rfl HF.out.list) rfl ?_
  exact HPO.out _ HB.out
theorem cleaned_any (m : Me) (x : Sc) (w : World) (hg : GoodMe w m) (hx : GoodSc w x) (hs : Small x) : Calls Try.prog 7 #[.agg (encMe m).toArray, .agg (encSc x).toArray] w (CleanedPost m x w) := by
  by_cases ho : okM m = true
  · exact clean1_any m x w hg hx hs ho
  · exact cleanE_any m x w hg ho
theorem CleanL.small {m : Me} {x y : Sc} (ho : okM m = true) (h : CleanL m x y) : Small y := by
  have hd := okM_drift ho
  refine ⟨?_, ?_, ?_, ?_, ?_, ?_, ?_⟩
  · rw [h.ups, upsL_len]; omega
  · rw [h.offs, rowL_len]; omega
  · rw [h.gates, rowL_len]; omega
  · rw [h.guards, rowL_len]; omega
  · rw [h.drifts, rowL_len]; omega
  · have := h.opslen; omega
  · rw [h.faults, List.length_take]; omega
end Go.Proofs.Ytkinhhkodaacjaa
