/- num: the document's number in decimal digits. -/
import Derived.Test.YtjaaldeaknmmbaaDoorD1
import Derived.Test.YtjaaldeaknmmbaaDoorLA
import Derived.Laws.Concat
namespace Go.Proofs.YtjaaldeaknmmbaaDoor
open Go.RowKit

theorem exec_cat {w : World} {o : Oper} {ac : Act} {X Y : Operand} {ty : TypeId} {x y : List UInt8} (ho : o.op = .binOp .add 9 X Y ty) (hx : ac.eval X = .string ⟨x.toArray⟩) (hy : ac.eval Y = .string ⟨y.toArray⟩) (hl : x.length + y.length ≤ 9223372036854775807) :
    (execOp ac.eval o).run Tryd.prog w = .ok (.value (.string ⟨(x ++ y).toArray⟩)) w := by
  have h := run_string_add_sum (P := Tryd.prog) (w := w) ⟨x.toArray⟩ ⟨y.toArray⟩ (by show x.toArray.size + y.toArray.size ≤ _; simpa using hl)
  have h2 : (⟨x.toArray⟩ : ByteArray) ++ ⟨y.toArray⟩ = ⟨(x ++ y).toArray⟩ := by
    apply ByteArray.ext
    simp [ByteArray.data_append]
  rw [h2] at h
  have h3 : (binOp .add 9 (.string ⟨x.toArray⟩) (.string ⟨y.toArray⟩)).run Tryd.prog w = .ok (.string ⟨(x ++ y).toArray⟩) w := h
  have hg : (eqGuard .add 9 X Y (.string ⟨x.toArray⟩) (.string ⟨y.toArray⟩)).run Tryd.prog w = .ok () w := rfl
  simp only [execOp, ho, hx, hy, Sem.run_bind, hg, Result.andThen, h3, Sem.run_pure]
theorem exec_one1 {w : World} {c : UInt8} : (Instr.buildSlice 36 1 #[(0, u8c c)]).run Tryd.prog w = .ok (.slice (some ⟨w.heap.size, 0, none⟩) 1 1) (w.alloc (.cells #[u8c c] 5)) := by
  unfold Instr.buildSlice u8c
  go_simp
  try rfl
theorem exec_oneS {w W' : World} {v : Value} {o : Oper} {ac : Act} {X : Operand} {c : UInt8} (hrun : (Instr.buildSlice 36 1 #[(0, u8c c)]).run Tryd.prog w = .ok v W') (ho : o.op = .buildSlice 36 1 #[(0, X)]) (hx : ac.eval X = u8c c) :
    (execOp ac.eval o).run Tryd.prog w = .ok (.value v) W' := by
  simp [execOp, ho, hx, hrun, Result.andThen]
theorem row1_cells {w : World} {b : Nat} {c : UInt8} (h : Blk w b 5 #[u8c c]) : ∀ j (hj : j < [c].length), w.cell? ((⟨b, 0, none⟩ : Addr).add j) = some (.int .u8 ([c][j].toNat : Int)) := by
  intro j hj
  have : j = 0 := by simpa using hj
  subst this
  rw [Addr.add_lit, h.cell]
  rfl

set_option maxRecDepth 100000 in
set_option maxHeartbeats 1600000 in
theorem rnum_any : ∀ (N : Nat) (n : Int) (w : World), n.natAbs = N → -9223372036854775808 ≤ n → n ≤ 9223372036854775807 → Calls Tryd.prog 36 #[.int .i64 n] w fun e w' => e = .returned (.string ⟨(decZ n).toArray⟩) ∧ Below w.heap.size w w' := by
  intro N
  induction N using Nat.strongRecOn with
  | _ N ih =>
  intro n w hN h1 h2
  have HPO : Hid (∀ w', Below w.heap.size w w' → (fun e w' => e = Ending.returned (.string ⟨(decZ n).toArray⟩) ∧ Below w.heap.size w w') (.returned (.string ⟨(decZ n).toArray⟩)) w') := fun w' h => ⟨rfl, h⟩
  generalize (fun e w' => e = Ending.returned (.string ⟨(decZ n).toArray⟩) ∧ Below w.heap.size w w') = POST at *
  obtain ⟨d, hd⟩ : ∃ d, N % 10 = d := ⟨_, rfl⟩
  obtain ⟨q, hq⟩ : ∃ q, N / 10 = q := ⟨_, rfl⟩
  have hd2 : d < 10 := by omega
  have HQ : Hid (q ≤ N ∧ (10 ≤ N → q < N)) := by show _ ∧ _; omega
  have HLN : Hid ((decN q).length ≤ 20) := decN_len 20 q (by omega) (by have : (10:Nat) ^ 20 = 100000000000000000000 := rfl; omega)
  have HD1 : Hid (Value.int .u8 (48 + (d : Int)) = u8c (UInt8.ofNat (48 + d))) := by show Value.int .u8 _ = Value.int .u8 _; rw [dig_toNat hd2]; rfl
  have HR1 : Hid (N < 10 → decN N = [UInt8.ofNat (48 + d)]) := fun h => by rw [decN_small h]; congr 2; omega
  have HR2 : Hid (10 ≤ N → decN N = decN q ++ [UInt8.ofNat (48 + d)]) := fun h => by rw [decN_step (by omega), hd, hq]
  generalize UInt8.ofNat (48 + d) = c at *
  have HB1 : Hid (Below w.heap.size w (w.alloc (.cells #[u8c c] 5))) := below1 w _
  have HK1 : Hid (Blk (w.alloc (.cells #[u8c c] 5)) w.heap.size 5 #[u8c c]) := Blk.new' rfl
  by_cases hn : n < 0
  · have HIH : Hid (∀ W, q < N → Calls Tryd.prog 36 #[.int .i64 (-(q : Int))] W fun e w' => e = .returned (.string ⟨(decZ (-(q : Int))).toArray⟩) ∧ Below W.heap.size W w') := fun W h => ih q h (-(q : Int)) W (by omega) (by omega) (by omega)
    rw [decZ_neg hn, hN] at HPO
    clear ih
    by_cases hs : N < 10
    · have hgt : n > -10 := by omega
      have hcv : 48 - n = 48 + (d : Int) := by omega
      have HRES := Lib.hid (HR1.out hs)
      rw [HRES.out] at HPO
      clear HR1 HR2 HIH HRES hN hd hq hs
      go_enter Tryd.func36, Tryd.ntmps36
      go_wp2_with (first | ((with_reducible show wpList _ _ _ (Oper.mk (some 25) _ _ _ _ _ :: _) _ _); rw [HD1.out]; refine wpList_val rfl (exec_oneS exec_one1 rfl rfl) ?_) | ((with_reducible show wpList _ _ _ (Oper.mk (some 26) _ _ _ _ _ :: _) _ _); refine wpList_val rfl (exec_str (l := [c]) rfl rfl (row1_cells HK1.out)) ?_) | ((with_reducible show wpList _ _ _ (Oper.mk (some 27) _ _ _ _ _ :: _) _ _); refine wpList_val rfl (exec_cat (x := [45]) (y := [c]) rfl rfl rfl (by simp)) ?_))
      exact HPO.out _ HB1.out
    · have hq0 : 0 < q := by omega
      have hlt : ¬ n > -10 := by omega
      have HIH : Hid (∀ W, Calls Tryd.prog 36 #[.int .i64 (-(q : Int))] W fun e w' => e = .returned (.string ⟨(45 :: decN q).toArray⟩) ∧ Below W.heap.size W w') := fun W => by have := HIH.out W (HQ.out.2 (by omega)); rwa [decZ_neg (show -(q : Int) < 0 by omega), show (-(q : Int)).natAbs = q by omega] at this
      have HRES : Hid (45 :: decN N = (45 :: decN q) ++ [c]) := by have := HR2.out (by omega); show _ = _; rw [this]; rfl
      have HLX : Hid ((45 :: decN q).length ≤ 21) := by have := HLN.out; show _ ≤ _; simp; omega
      have ht1 : n.tdiv 10 = -(q : Int) := by
        obtain ⟨M, rfl⟩ : ∃ M : Nat, n = -(M : Int) := ⟨n.natAbs, by omega⟩
        rw [Int.neg_tdiv, Int.tdiv_eq_ediv_of_nonneg (by omega)]
        omega
      have ht2 : n.tmod 10 = -(d : Int) := by
        obtain ⟨M, rfl⟩ : ∃ M : Nat, n = -(M : Int) := ⟨n.natAbs, by omega⟩
        rw [Int.neg_tmod, Int.tmod_eq_emod_of_nonneg (by omega)]
        omega
      have hcv : 48 - -(d : Int) = 48 + (d : Int) := by omega
      have hw1 : IntKind.i64.wrap (-(q : Int)) = -(q : Int) := IntWalk.i64_in _ (by omega)
      have hw2 : IntKind.i64.wrap (48 + (d : Int)) = 48 + (d : Int) := IntWalk.i64_in _ (by omega)
      have hw3 : IntKind.u8.wrap (48 + (d : Int)) = 48 + (d : Int) := by simp [IntKind.wrap, IntKind.signed, IntKind.bits]; omega
      clear HR1 HR2 hN hd hq hs HB1 HK1 HLN HQ
      generalize 45 :: decN q = r at *
      go_enter Tryd.func36, Tryd.ntmps36
      go_upto_region 8 with fail
      have hS : Hid (Below w.heap.size w w.drew) := (Below.refl _ w).drew
      refine wp_region_held_drew (S := fun X => Hid (Below w.heap.size w X)) (by kernel_rfl) hS (fun hHeld => ?_)
      (refine takeW (i := 0) (v := ?_) rfl (by kernel_rfl) (by kernel_rfl) (by kernel_rfl) (fun _ _ _ h => h) (by rfl) (by assumption) ?_ ?_; rotate_left; (intro W hW; (try dsimp only at hW); go_simp; try with_reducible rfl); (try simp only [Act.put, List.setIfInBounds_toArray, List.set_cons_zero, List.set_cons_succ]))
      (refine takeW (i := 1) (v := ?_) rfl (by kernel_rfl) (by kernel_rfl) (by kernel_rfl) (fun _ _ _ h => h) (by rfl) (by assumption) ?_ ?_; rotate_left; (intro W hW; (try dsimp only at hW); go_simp; try with_reducible rfl); (try simp only [Act.put, List.setIfInBounds_toArray, List.set_cons_zero, List.set_cons_succ]))
      (refine takeW (i := 3) (v := ?_) rfl (by kernel_rfl) (by kernel_rfl) (by kernel_rfl) (fun _ _ _ h => h) (by rfl) (by assumption) ?_ ?_; rotate_left; (intro W hW; (try dsimp only at hW); go_simp; try with_reducible rfl); (try simp only [Act.put, List.setIfInBounds_toArray, List.set_cons_zero, List.set_cons_succ]))
      (refine takeW (i := 4) (v := ?_) rfl (by kernel_rfl) (by kernel_rfl) (by kernel_rfl) (fun _ _ _ h => h) (by rfl) (by assumption) ?_ ?_; rotate_left; (intro W hW; (try dsimp only at hW); go_simp; try with_reducible rfl); (try simp only [Act.put, List.setIfInBounds_toArray, List.set_cons_zero, List.set_cons_succ]))
      (refine takeW (i := 5) (v := ?_) rfl (by kernel_rfl) (by kernel_rfl) (by kernel_rfl) (fun _ _ _ h => h) (by rfl) (by assumption) ?_ ?_; rotate_left; (intro W hW; (try dsimp only at hW); go_simp; try with_reducible rfl); (try simp only [Act.put, List.setIfInBounds_toArray, List.set_cons_zero, List.set_cons_succ]))
      (refine takeW (i := 6) (v := ?_) rfl (by kernel_rfl) (by kernel_rfl) (by kernel_rfl) (fun _ _ _ h => h) (by rfl) (by assumption) ?_ ?_; rotate_left; (intro W hW; (try dsimp only at hW); go_simp; try with_reducible rfl); (try simp only [Act.put, List.setIfInBounds_toArray, List.set_cons_zero, List.set_cons_succ]))
      refine takeC2 (i := 2) (j := 7) rfl rfl (by kernel_rfl) (by rfl) (by rfl) (fun K hK => ?_) (fun K hK => ?_)
      · go_simp
        refine (HIH.out w.drew).mono ?_
        rintro e W2 ⟨rfl, hb⟩
        have hF : Hid (Below w.heap.size w W2) := Lib.hid (hHeld.out.trans (hb.mono hHeld.out.size))
        (try have HROW := Lib.hid (HROW.out.keep hb))
        clear hb hHeld
        refine hK.out _ _ hF (fun hHeld => ?_)
        clear hK K hF
        try simp only [Act.put, List.setIfInBounds_toArray, List.set_cons_zero, List.set_cons_succ]
        obtain ⟨W7, hW7⟩ : ∃ W7, W2.alloc (.cells #[u8c c] 5) = W7 := ⟨_, rfl⟩
        obtain ⟨g7, hg7⟩ : ∃ g7, W2.heap.size = g7 := ⟨_, rfl⟩
        have HROW : Hid (Blk W7 g7 5 #[u8c c]) := Lib.hid (by rw [← hW7]; exact Blk.new' hg7)
        have HB7 : Hid (Below w.heap.size w W7) := Lib.hid (by rw [← hW7]; exact hHeld.out.alloc hHeld.out.size _)
        have HX7 := Lib.hid (exec_one1 (w := W2) (c := c))
        rw [hW7, hg7] at HX7
        clear hW7 hg7
        refine takeV (i := 7) rfl (by kernel_rfl) (by rfl) (exec_oneS HX7.out rfl (by exact HD1.out)) (HB7) ?_
        (try simp only [Act.put, List.setIfInBounds_toArray, List.set_cons_zero, List.set_cons_succ])
        have hHeld : Hid (Below w.heap.size w W7) := HB7
        clear HB7 HX7
        refine takeV (i := 8) rfl (by kernel_rfl) (by rfl) (exec_str (l := [c]) rfl rfl (row1_cells HROW.out)) (hHeld) ?_
        (try simp only [Act.put, List.setIfInBounds_toArray, List.set_cons_zero, List.set_cons_succ])
        have hHeld : Hid (Below w.heap.size w W7) := hHeld
        (refine takeW (i := 9) rfl (by kernel_rfl) (by kernel_rfl) (by kernel_rfl) (fun _ _ _ h => h) (by rfl) (by assumption) (fun W hW => exec_cat (y := [c]) rfl rfl rfl (by have := HLX.out; simp; omega)) ?_; (try simp only [Act.put, List.setIfInBounds_toArray, List.set_cons_zero, List.set_cons_succ]))
        (refine takeW (i := 10) (v := ?_) rfl (by kernel_rfl) (by kernel_rfl) (by kernel_rfl) (fun _ _ _ h => h) (by rfl) (by assumption) ?_ ?_; rotate_left; (intro W hW; (try dsimp only at hW); go_simp; try with_reducible rfl); (try simp only [Act.put, List.setIfInBounds_toArray, List.set_cons_zero, List.set_cons_succ]))
        refine wpAnyH_done (by kernel_rfl) ?_ _
        have HBF := Lib.hid hHeld.out
        clear hHeld HROW HIH
        go_wp2
        rw [HRES.out] at HPO
        exact HPO.out _ HBF.out
      · obtain ⟨W7, hW7⟩ : ∃ W7, w.drew.alloc (.cells #[u8c c] 5) = W7 := ⟨_, rfl⟩
        obtain ⟨g7, hg7⟩ : ∃ g7, w.drew.heap.size = g7 := ⟨_, rfl⟩
        have HROW : Hid (Blk W7 g7 5 #[u8c c]) := Lib.hid (by rw [← hW7]; exact Blk.new' hg7)
        have HB7 : Hid (Below w.heap.size w W7) := Lib.hid (by rw [← hW7]; exact hHeld.out.alloc hHeld.out.size _)
        have HX7 := Lib.hid (exec_one1 (w := w.drew) (c := c))
        rw [hW7, hg7] at HX7
        clear hW7 hg7
        unfold Oper.wp
        rw [exec_oneS HX7.out rfl (by exact HD1.out)]
        refine hK.out _ _ (HB7) (fun hHeld => ?_)
        clear hK K
        (try simp only [Act.put, List.setIfInBounds_toArray, List.set_cons_zero, List.set_cons_succ])
        clear HB7 HX7
        refine takeC2 (i := 2) (j := 8) rfl rfl (by kernel_rfl) (by rfl) (by rfl) (fun K hK => ?_) (fun K hK => ?_)
        · go_simp
          refine (HIH.out W7).mono ?_
          rintro e W2 ⟨rfl, hb⟩
          have hF : Hid (Below w.heap.size w W2) := Lib.hid (hHeld.out.trans (hb.mono hHeld.out.size))
          (try have HROW := Lib.hid (HROW.out.keep hb))
          clear hb hHeld
          refine hK.out _ _ hF (fun hHeld => ?_)
          clear hK K hF
          try simp only [Act.put, List.setIfInBounds_toArray, List.set_cons_zero, List.set_cons_succ]
          refine takeV (i := 8) rfl (by kernel_rfl) (by rfl) (exec_str (l := [c]) rfl rfl (row1_cells HROW.out)) (hHeld) ?_
          (try simp only [Act.put, List.setIfInBounds_toArray, List.set_cons_zero, List.set_cons_succ])
          have hHeld : Hid (Below w.heap.size w W2) := hHeld
          (refine takeW (i := 9) rfl (by kernel_rfl) (by kernel_rfl) (by kernel_rfl) (fun _ _ _ h => h) (by rfl) (by assumption) (fun W hW => exec_cat (y := [c]) rfl rfl rfl (by have := HLX.out; simp; omega)) ?_; (try simp only [Act.put, List.setIfInBounds_toArray, List.set_cons_zero, List.set_cons_succ]))
          (refine takeW (i := 10) (v := ?_) rfl (by kernel_rfl) (by kernel_rfl) (by kernel_rfl) (fun _ _ _ h => h) (by rfl) (by assumption) ?_ ?_; rotate_left; (intro W hW; (try dsimp only at hW); go_simp; try with_reducible rfl); (try simp only [Act.put, List.setIfInBounds_toArray, List.set_cons_zero, List.set_cons_succ]))
          refine wpAnyH_done (by kernel_rfl) ?_ _
          have HBF := Lib.hid hHeld.out
          clear hHeld HROW HIH
          go_wp2
          rw [HRES.out] at HPO
          exact HPO.out _ HBF.out
        · unfold Oper.wp
          rw [exec_str (l := [c]) rfl rfl (row1_cells HROW.out)]
          refine hK.out _ _ (hHeld) (fun hHeld => ?_)
          clear hK K
          (try simp only [Act.put, List.setIfInBounds_toArray, List.set_cons_zero, List.set_cons_succ])
          refine takeC (i := 2) rfl (by kernel_rfl) (by rfl) (fun K hK => ?_)
          go_simp
          refine (HIH.out W7).mono ?_
          rintro e W2 ⟨rfl, hb⟩
          have hF : Hid (Below w.heap.size w W2) := Lib.hid (hHeld.out.trans (hb.mono hHeld.out.size))
          (try have HROW := Lib.hid (HROW.out.keep hb))
          clear hb hHeld
          refine hK.out _ _ hF (fun hHeld => ?_)
          clear hK K hF
          try simp only [Act.put, List.setIfInBounds_toArray, List.set_cons_zero, List.set_cons_succ]
          (refine takeW (i := 9) rfl (by kernel_rfl) (by kernel_rfl) (by kernel_rfl) (fun _ _ _ h => h) (by rfl) (by assumption) (fun W hW => exec_cat (y := [c]) rfl rfl rfl (by have := HLX.out; simp; omega)) ?_; (try simp only [Act.put, List.setIfInBounds_toArray, List.set_cons_zero, List.set_cons_succ]))
          (refine takeW (i := 10) (v := ?_) rfl (by kernel_rfl) (by kernel_rfl) (by kernel_rfl) (fun _ _ _ h => h) (by rfl) (by assumption) ?_ ?_; rotate_left; (intro W hW; (try dsimp only at hW); go_simp; try with_reducible rfl); (try simp only [Act.put, List.setIfInBounds_toArray, List.set_cons_zero, List.set_cons_succ]))
          refine wpAnyH_done (by kernel_rfl) ?_ _
          have HBF := Lib.hid hHeld.out
          clear hHeld HROW HIH
          go_wp2
          rw [HRES.out] at HPO
          exact HPO.out _ HBF.out
  · have hnN : n = (N : Int) := by omega
    subst hnN
    have HIH : Hid (∀ W, q < N → Calls Tryd.prog 36 #[.int .i64 (q : Int)] W fun e w' => e = .returned (.string ⟨(decN q).toArray⟩) ∧ Below W.heap.size W w') := fun W h => by
      have := ih q h (q : Int) W (by omega) (by omega) (by omega)
      rwa [decZ_pos (by omega), show ((q : Int)).natAbs = q by omega] at this
    rw [decZ_pos hn, hN] at HPO
    have hd1 : (N : Int) % 10 = d := by omega
    have hq1 : (N : Int) / 10 = q := by omega
    clear ih hN hd hq
    by_cases hs : N < 10
    · have hgt : ¬ (N : Int) ≥ 10 := by omega
      have HRES := Lib.hid (HR1.out hs)
      rw [HRES.out] at HPO
      clear HR1 HR2 HIH HRES hs
      go_enter Tryd.func36, Tryd.ntmps36
      go_wp2_with (first | ((with_reducible show wpList _ _ _ (Oper.mk (some 10) _ _ _ _ _ :: _) _ _); rw [HD1.out]; refine wpList_val rfl (exec_oneS exec_one1 rfl rfl) ?_) | ((with_reducible show wpList _ _ _ (Oper.mk (some 11) _ _ _ _ _ :: _) _ _); refine wpList_val rfl (exec_str (l := [c]) rfl rfl (row1_cells HK1.out)) ?_))
      exact HPO.out _ HB1.out
    · have hgt : (N : Int) ≥ 10 := by omega
      have HIH := Lib.hid (HIH.out (w.alloc (.cells #[u8c c] 5)) (HQ.out.2 (by omega)))
      have HRES : Hid (decN N = decN q ++ [c]) := HR2.out (by omega)
      clear HR1 HR2 HQ hs
      generalize decN q = r at *
      go_enter Tryd.func36, Tryd.ntmps36
      go_upto_region 4 with (first | ((with_reducible show wpList _ _ _ (Oper.mk (some 10) _ _ _ _ _ :: _) _ _); rw [HD1.out]; refine wpList_val rfl (exec_oneS exec_one1 rfl rfl) ?_) | ((with_reducible show wpList _ _ _ (Oper.mk (some 11) _ _ _ _ _ :: _) _ _); refine wpList_val rfl (exec_str (l := [c]) rfl rfl (row1_cells HK1.out)) ?_))
      go_wp2_with fail
      refine HIH.out.mono ?_
      rintro e w2 ⟨rfl, hb⟩
      have HBF := Lib.hid (HB1.out.trans (hb.mono HB1.out.size))
      clear hb HIH HB1 HK1
      go_wp2_with ((with_reducible show wpList _ _ _ (Oper.mk (some 18) _ _ _ _ _ :: _) _ _); refine wpList_val rfl (exec_cat (x := r) (y := [c]) rfl rfl rfl (by have := HLN.out; simp; omega)) ?_)
      rw [HRES.out] at HPO
      exact HPO.out _ HBF.out
end Go.Proofs.YtjaaldeaknmmbaaDoor
