/- begun. -/
import Derived.Test.YtmflnbdajaiahaaPX
import Derived.Test.YtmflnbdajaiahaaN4
namespace Go.Proofs.Ytmflnbdajaiahaa
open Go.RowKit Go.Shelf
open Md

theorem encMe_one (m : Me) : ∀ u ∈ encMe m, u.oneCell' = true := by
  intro u hu
  simp only [encMe, List.mem_cons, List.not_mem_nil, or_false] at hu
  rcases hu with rfl | rfl | rfl | rfl | rfl | rfl | rfl | rfl <;> rfl
theorem two_ex (w : World) (p q : Fa) : ∃ v W', (Instr.buildSlice 26 2 #[(0, .agg (encF p).toArray), (1, .agg (encF q).toArray)]).run Try.prog w = .ok v W' ∧ Rd encF 7 W' v [p, q] ∧ Below w.heap.size w W' := by
  refine ⟨.slice (some ⟨w.heap.size, 0, none⟩) 2 2, w.alloc (.cells (encF p ++ encF q).toArray 33), ?_, rd_two w p q, below1 w _⟩
  unfold Instr.buildSlice encF
  go_simp
  try rfl
theorem three_ex (w : World) (p q r : Fa) : ∃ v W', (Instr.buildSlice 26 3 #[(0, .agg (encF p).toArray), (1, .agg (encF q).toArray), (2, .agg (encF r).toArray)]).run Try.prog w = .ok v W' ∧ Rd encF 7 W' v [p, q, r] ∧ Below w.heap.size w W' := by
  refine ⟨.slice (some ⟨w.heap.size, 0, none⟩) 3 3, w.alloc (.cells (encF p ++ (encF q ++ encF r)).toArray 33), ?_, rd_three w p q r, below1 w _⟩
  unfold Instr.buildSlice encF
  go_simp
  try rfl
theorem exec_two' {w W' : World} {v : Value} {o : Oper} {ac : Act} {x y : Operand} {p q : Fa} (ho : o.op = .buildSlice 26 2 #[(0, x), (1, y)]) (hx : ac.eval x = .agg (encF p).toArray) (hy : ac.eval y = .agg (encF q).toArray) (hrun : (Instr.buildSlice 26 2 #[(0, .agg (encF p).toArray), (1, .agg (encF q).toArray)]).run Try.prog w = .ok v W') :
    (execOp ac.eval o).run Try.prog w = .ok (.value v) W' := by
  simp [execOp, ho, hx, hy, hrun, Result.andThen]
theorem exec_three' {w W' : World} {v : Value} {o : Oper} {ac : Act} {x y z : Operand} {p q r : Fa} (ho : o.op = .buildSlice 26 3 #[(0, x), (1, y), (2, z)]) (hx : ac.eval x = .agg (encF p).toArray) (hy : ac.eval y = .agg (encF q).toArray) (hz : ac.eval z = .agg (encF r).toArray) (hrun : (Instr.buildSlice 26 3 #[(0, .agg (encF p).toArray), (1, .agg (encF q).toArray), (2, .agg (encF r).toArray)]).run Try.prog w = .ok v W') :
    (execOp ac.eval o).run Try.prog w = .ok (.value v) W' := by
  simp [execOp, ho, hx, hy, hz, hrun, Result.andThen]
structure BG (w : World) (m : Me) (bm b0 : Nat) (X : World) : Prop where
  bel : Below w.heap.size w X
  good : GoodMe X m
  bm : Blk X bm 25 (encMe m).toArray
  a : Blk X b0 33 (encF fA).toArray
  b : Blk X (b0 + 1) 33 (encF fB).toArray
  c : Blk X (b0 + 2) 33 (encF fC).toArray
theorem BG.keep {w X Y : World} {m : Me} {bm b0 : Nat} (h : BG w m bm b0 X) (hb : Below X.heap.size X Y) : BG w m bm b0 Y :=
  ⟨h.bel.trans (hb.mono h.bel.size), h.good.below hb, h.bm.keep hb, h.a.keep hb, h.b.keep hb, h.c.keep hb⟩
set_option maxRecDepth 100000 in
set_option maxHeartbeats 1600000 in
theorem begun_any (w : World) : Calls Try.prog 7 #[] w fun e w' => e = .returned (.bool true) ∧ Below w.heap.size w w' := by
  have HP : Hid (∀ w', Below w.heap.size w w' → (fun e w' => e = Ending.returned (.bool true) ∧ Below w.heap.size w w') (.returned (.bool true)) w') := fun w' h => ⟨rfl, h⟩
  generalize (fun e w' => e = Ending.returned (.bool true) ∧ Below w.heap.size w w') = POST at *
  go_enter Try.func7, Try.ntmps7
  go_wp2_with fail
  refine (plain_any w).mono ?_
  rintro e w1 ⟨⟨m, rfl, hg, hpl⟩, hb1⟩
  have HG := Lib.hid hg
  have HPL := Lib.hid hpl
  have HB1 := Lib.hid hb1
  clear hg hpl hb1
  change match Ending.returned (.tuple #[.agg (encMe m).toArray, .int .i64 0]), w1 with | _, _ => _
  go_upto_region 2 with ((with_reducible show wpList _ _ _ (Oper.mk none (Op.store 25 _ _) _ _ _ _ :: _) _ _); refine wpList_boxW W25 rfl rfl rfl (encMe m) rfl rfl (encMe_one m) rfl ?_; intro W2 hbx hbel hsz; have XM := Lib.hid hbx; have EM := Lib.hid hbel; clear hbx hbel hsz)
  obtain ⟨b0, hb0⟩ : ∃ b0, W2.heap.size = b0 := ⟨_, rfl⟩
  go_upto_region 3 with fail
  change Code.wp _ _ _ _ (((W2.alloc (.cells (encF fA).toArray 33)).alloc (.cells (encF fB).toArray 33)).alloc (.cells (encF fC).toArray 33))
  have HBG : Hid (BG w m w1.heap.size W2.heap.size (((W2.alloc (.cells (encF fA).toArray 33)).alloc (.cells (encF fB).toArray 33)).alloc (.cells (encF fC).toArray 33))) :=
    have b3 := below3 W2 (.cells (encF fA).toArray 33) (.cells (encF fB).toArray 33) (.cells (encF fC).toArray 33)
    ⟨(HB1.out.trans (EM.out.mono HB1.out.size)).trans (b3.mono (Nat.le_trans HB1.out.size EM.out.size)), (HG.out.below EM.out).below b3, XM.out.keep b3, ((Blk.new' rfl : Blk _ _ _ _).alloc _).alloc _, (Blk.new' (by simp) : Blk _ _ _ _).alloc _, Blk.new' (by simp)⟩
  generalize (((W2.alloc (.cells (encF fA).toArray 33)).alloc (.cells (encF fB).toArray 33)).alloc (.cells (encF fC).toArray 33)) = W3 at *
  rw [hb0] at HBG
  try simp only [hb0]
  clear hb0 XM EM HG HB1
  generalize w1.heap.size = bm at *
  have HAB : Hid (∀ X v, Hid (BG w m bm b0 X) → Hid (Rd encF 7 X v [fA, fB]) → Calls Try.prog 8 #[.agg (encMe m).toArray, v] X fun e w' => e = .returned (.bool false) ∧ Below X.heap.size X w') := fun X v h hr => by
    have := bus_any m v [fA, fB] X h.out.good hr.out (by simp)
    rw [bus_ab HPL.out.1 HPL.out.2.1] at this
    exact this
  have HCA : Hid (∀ X v, Hid (BG w m bm b0 X) → Hid (Rd encF 7 X v [fC, fA]) → Calls Try.prog 8 #[.agg (encMe m).toArray, v] X fun e w' => e = .returned (.bool true) ∧ Below X.heap.size X w') := fun X v h hr => by
    have := bus_any m v [fC, fA] X h.out.good hr.out (by simp)
    rw [bus_ca HPL.out.1 HPL.out.2.1] at this
    exact this
  have HCL : Hid (∀ X v, Hid (BG w m bm b0 X) → Hid (Rd encF 7 X v [fC, fA, fC]) → Calls Try.prog 14 #[.agg (encMe m).toArray, v] X fun e w' => (∃ v', e = .returned v' ∧ w'.ownsRow X.heap.size 33 7 v' [fA, fC].length ([fA, fC].flatMap encF)) ∧ Below X.heap.size X w') := fun X v h hr => by
    have := clean_any m v [fC, fA, fC] X h.out.good hr.out (by simp)
    unfold CleanPost at this
    rw [clean_cac HPL.out.1 HPL.out.2.1] at this
    exact this
  have HEQ : Hid (∀ X v u, Hid (Rd encF 7 X v [fA, fC]) → Hid (Rd encF 7 X u [fA, fC]) → Calls Try.prog 16 #[v, u] X fun e w' => e = .returned (.bool true) ∧ Below X.heap.size X w') := fun X v u h hr => by
    have := equal_any v u [fA, fC] [fA, fC] X h.out hr.out
    rw [decide_eq_true rfl] at this
    exact this
  have hS : Hid (BG w m bm b0 W3.drew) := Lib.hid ⟨HBG.out.bel.drew, HBG.out.good.below (Below.refl _ _).drew, HBG.out.bm.keep (Below.refl _ _).drew, HBG.out.a.keep (Below.refl _ _).drew, HBG.out.b.keep (Below.refl _ _).drew, HBG.out.c.keep (Below.refl _ _).drew⟩
  clear HBG HPL
  refine wp_region_held_drew (S := fun X => Hid (BG w m bm b0 X)) (by kernel_rfl) hS (fun hHeld => ?_)
  (refine takeW (i := 0) (v := ?_) rfl (by kernel_rfl) (by kernel_rfl) (by kernel_rfl) (fun _ _ _ h => h) (by rfl) (by assumption) ?_ ?_; rotate_left; (intro W hW; (try dsimp only at hW); go_simp; try with_reducible rfl); (try simp only [Act.put, List.setIfInBounds_toArray, List.set_cons_zero, List.set_cons_succ]))
  (refine takeW (i := 1) (v := ?_) rfl (by kernel_rfl) (by kernel_rfl) (by kernel_rfl) (fun _ _ _ h => h) (by rfl) (by assumption) ?_ ?_; rotate_left; (intro W hW; (try dsimp only at hW); go_simp; try with_reducible rfl); (try simp only [Act.put, List.setIfInBounds_toArray, List.set_cons_zero, List.set_cons_succ]))
  (refine takeW (i := 2) (v := ?_) rfl (by kernel_rfl) (by kernel_rfl) (by kernel_rfl) (fun _ _ _ h => h) (by rfl) (by assumption) ?_ ?_; rotate_left; (intro W hW; (try dsimp only at hW); go_simp; try with_reducible rfl); (try simp only [Act.put, List.setIfInBounds_toArray, List.set_cons_zero, List.set_cons_succ]))
  (refine takeW (i := 3) rfl (by kernel_rfl) (by kernel_rfl) (by kernel_rfl) (fun _ _ _ h => h) (by rfl) (by assumption) (fun W hW => exec_loadW W25 rfl rfl (cs := encMe m) rfl hW.out.bm.list) ?_; (try simp only [Act.put, List.setIfInBounds_toArray, List.set_cons_zero, List.set_cons_succ]))
  (refine takeW (i := 4) rfl (by kernel_rfl) (by kernel_rfl) (by kernel_rfl) (fun _ _ _ h => h) (by rfl) (by assumption) (fun W hW => exec_loadW W33 rfl rfl (cs := encF fA) rfl hW.out.a.list) ?_; (try simp only [Act.put, List.setIfInBounds_toArray, List.set_cons_zero, List.set_cons_succ]))
  (refine takeW (i := 5) rfl (by kernel_rfl) (by kernel_rfl) (by kernel_rfl) (fun _ _ _ h => h) (by rfl) (by assumption) (fun W hW => exec_loadW W33 rfl rfl (cs := encF fB) rfl hW.out.b.list) ?_; (try simp only [Act.put, List.setIfInBounds_toArray, List.set_cons_zero, List.set_cons_succ]))
  obtain ⟨v6, W6, hr6, hrd6, hbe6⟩ := two_ex W3.drew fA fB
  have HR6 := Lib.hid hr6
  have HRD6 := Lib.hid hrd6
  have HBE6 := Lib.hid hbe6
  clear hr6 hrd6 hbe6
  refine takeV (i := 6) rfl (by kernel_rfl) (by rfl) (exec_two' rfl rfl rfl HR6.out) (Lib.hid (hHeld.out.keep HBE6.out)) ?_
  (try simp only [Act.put, List.setIfInBounds_toArray, List.set_cons_zero, List.set_cons_succ])
  have hHeld : Hid (BG w m bm b0 W6) := Lib.hid (hHeld.out.keep HBE6.out)
  (try have HRD14 := Lib.hid (HRD14.out.below HBE6.out))
  (try have HRD22 := Lib.hid (HRD22.out.below HBE6.out))
  (try have HRD26 := Lib.hid (HRD26.out.below HBE6.out))
  clear HR6
  refine takeC (i := 7) rfl (by kernel_rfl) (by rfl) (fun K hK => ?_)
  go_simp
  refine (HAB.out _ _ hHeld HRD6).mono ?_
  rintro e W7 ⟨rfl, hb⟩
  have hF : Hid (BG w m bm b0 W7) := Lib.hid (hHeld.out.keep hb)
  (try have HRD6 := Lib.hid (HRD6.out.below hb))
  (try have HRD14 := Lib.hid (HRD14.out.below hb))
  (try have HRD22 := Lib.hid (HRD22.out.below hb))
  (try have HRD26 := Lib.hid (HRD26.out.below hb))
  clear hb hHeld
  refine hK.out _ _ hF (fun hHeld => ?_)
  clear hK K hF
  try simp only [Act.put, List.setIfInBounds_toArray, List.set_cons_zero, List.set_cons_succ]
  first
    | (refine takeW (i := 8) (v := ?_) rfl (by kernel_rfl) (by kernel_rfl) (by kernel_rfl) (fun _ _ _ h => h) (by rfl) (by assumption) ?_ ?_; rotate_left; (intro W hW; (try dsimp only at hW); go_simp; try with_reducible rfl); (try simp only [Act.put, List.setIfInBounds_toArray, List.set_cons_zero, List.set_cons_succ]))
    | (refine takeU (i := 8) rfl (by kernel_rfl) (by kernel_rfl) (by kernel_rfl) (fun _ _ _ h => h) (by rfl) (by assumption) ?_; (try simp only [Act.put, List.setIfInBounds_toArray, List.set_cons_zero, List.set_cons_succ]))
  (refine takeW (i := 9) (v := ?_) rfl (by kernel_rfl) (by kernel_rfl) (by kernel_rfl) (fun _ _ _ h => h) (by rfl) (by assumption) ?_ ?_; rotate_left; (intro W hW; (try dsimp only at hW); go_simp; try with_reducible rfl); (try simp only [Act.put, List.setIfInBounds_toArray, List.set_cons_zero, List.set_cons_succ]))
  (refine takeW (i := 10) (v := ?_) rfl (by kernel_rfl) (by kernel_rfl) (by kernel_rfl) (fun _ _ _ h => h) (by rfl) (by assumption) ?_ ?_; rotate_left; (intro W hW; (try dsimp only at hW); go_simp; try with_reducible rfl); (try simp only [Act.put, List.setIfInBounds_toArray, List.set_cons_zero, List.set_cons_succ]))
  (refine takeW (i := 11) rfl (by kernel_rfl) (by kernel_rfl) (by kernel_rfl) (fun _ _ _ h => h) (by rfl) (by assumption) (fun W hW => exec_loadW W25 rfl rfl (cs := encMe m) rfl hW.out.bm.list) ?_; (try simp only [Act.put, List.setIfInBounds_toArray, List.set_cons_zero, List.set_cons_succ]))
  (refine takeW (i := 12) rfl (by kernel_rfl) (by kernel_rfl) (by kernel_rfl) (fun _ _ _ h => h) (by rfl) (by assumption) (fun W hW => exec_loadW W33 rfl rfl (cs := encF fC) rfl hW.out.c.list) ?_; (try simp only [Act.put, List.setIfInBounds_toArray, List.set_cons_zero, List.set_cons_succ]))
  (refine takeW (i := 13) rfl (by kernel_rfl) (by kernel_rfl) (by kernel_rfl) (fun _ _ _ h => h) (by rfl) (by assumption) (fun W hW => exec_loadW W33 rfl rfl (cs := encF fA) rfl hW.out.a.list) ?_; (try simp only [Act.put, List.setIfInBounds_toArray, List.set_cons_zero, List.set_cons_succ]))
  obtain ⟨v14, W14, hr14, hrd14, hbe14⟩ := two_ex W7 fC fA
  have HR14 := Lib.hid hr14
  have HRD14 := Lib.hid hrd14
  have HBE14 := Lib.hid hbe14
  clear hr14 hrd14 hbe14
  refine takeV (i := 14) rfl (by kernel_rfl) (by rfl) (exec_two' rfl rfl rfl HR14.out) (Lib.hid (hHeld.out.keep HBE14.out)) ?_
  (try simp only [Act.put, List.setIfInBounds_toArray, List.set_cons_zero, List.set_cons_succ])
  have hHeld : Hid (BG w m bm b0 W14) := Lib.hid (hHeld.out.keep HBE14.out)
  (try have HRD6 := Lib.hid (HRD6.out.below HBE14.out))
  (try have HRD22 := Lib.hid (HRD22.out.below HBE14.out))
  (try have HRD26 := Lib.hid (HRD26.out.below HBE14.out))
  clear HR14
  refine takeC (i := 15) rfl (by kernel_rfl) (by rfl) (fun K hK => ?_)
  go_simp
  refine (HCA.out _ _ hHeld HRD14).mono ?_
  rintro e W15 ⟨rfl, hb⟩
  have hF : Hid (BG w m bm b0 W15) := Lib.hid (hHeld.out.keep hb)
  (try have HRD6 := Lib.hid (HRD6.out.below hb))
  (try have HRD14 := Lib.hid (HRD14.out.below hb))
  (try have HRD22 := Lib.hid (HRD22.out.below hb))
  (try have HRD26 := Lib.hid (HRD26.out.below hb))
  clear hb hHeld
  refine hK.out _ _ hF (fun hHeld => ?_)
  clear hK K hF
  try simp only [Act.put, List.setIfInBounds_toArray, List.set_cons_zero, List.set_cons_succ]
  (refine takeW (i := 16) (v := ?_) rfl (by kernel_rfl) (by kernel_rfl) (by kernel_rfl) (fun _ _ _ h => h) (by rfl) (by assumption) ?_ ?_; rotate_left; (intro W hW; (try dsimp only at hW); go_simp; try with_reducible rfl); (try simp only [Act.put, List.setIfInBounds_toArray, List.set_cons_zero, List.set_cons_succ]))
  (refine takeW (i := 17) (v := ?_) rfl (by kernel_rfl) (by kernel_rfl) (by kernel_rfl) (fun _ _ _ h => h) (by rfl) (by assumption) ?_ ?_; rotate_left; (intro W hW; (try dsimp only at hW); go_simp; try with_reducible rfl); (try simp only [Act.put, List.setIfInBounds_toArray, List.set_cons_zero, List.set_cons_succ]))
  (refine takeW (i := 18) rfl (by kernel_rfl) (by kernel_rfl) (by kernel_rfl) (fun _ _ _ h => h) (by rfl) (by assumption) (fun W hW => exec_loadW W25 rfl rfl (cs := encMe m) rfl hW.out.bm.list) ?_; (try simp only [Act.put, List.setIfInBounds_toArray, List.set_cons_zero, List.set_cons_succ]))
  (refine takeW (i := 19) rfl (by kernel_rfl) (by kernel_rfl) (by kernel_rfl) (fun _ _ _ h => h) (by rfl) (by assumption) (fun W hW => exec_loadW W33 rfl rfl (cs := encF fC) rfl hW.out.c.list) ?_; (try simp only [Act.put, List.setIfInBounds_toArray, List.set_cons_zero, List.set_cons_succ]))
  (refine takeW (i := 20) rfl (by kernel_rfl) (by kernel_rfl) (by kernel_rfl) (fun _ _ _ h => h) (by rfl) (by assumption) (fun W hW => exec_loadW W33 rfl rfl (cs := encF fA) rfl hW.out.a.list) ?_; (try simp only [Act.put, List.setIfInBounds_toArray, List.set_cons_zero, List.set_cons_succ]))
  (refine takeW (i := 21) rfl (by kernel_rfl) (by kernel_rfl) (by kernel_rfl) (fun _ _ _ h => h) (by rfl) (by assumption) (fun W hW => exec_loadW W33 rfl rfl (cs := encF fC) rfl hW.out.c.list) ?_; (try simp only [Act.put, List.setIfInBounds_toArray, List.set_cons_zero, List.set_cons_succ]))
  (refine takeW (i := 24) rfl (by kernel_rfl) (by kernel_rfl) (by kernel_rfl) (fun _ _ _ h => h) (by rfl) (by assumption) (fun W hW => exec_loadW W33 rfl rfl (cs := encF fA) rfl hW.out.a.list) ?_; (try simp only [Act.put, List.setIfInBounds_toArray, List.set_cons_zero, List.set_cons_succ]))
  (refine takeW (i := 25) rfl (by kernel_rfl) (by kernel_rfl) (by kernel_rfl) (fun _ _ _ h => h) (by rfl) (by assumption) (fun W hW => exec_loadW W33 rfl rfl (cs := encF fC) rfl hW.out.c.list) ?_; (try simp only [Act.put, List.setIfInBounds_toArray, List.set_cons_zero, List.set_cons_succ]))
  obtain ⟨v22, W22, hr22, hrd22, hbe22⟩ := three_ex W15 fC fA fC
  have HR22 := Lib.hid hr22
  have HRD22 := Lib.hid hrd22
  have HBE22 := Lib.hid hbe22
  clear hr22 hrd22 hbe22
  obtain ⟨v26, W26, hr26, hrd26, hbe26⟩ := two_ex W15 fA fC
  have HR26 := Lib.hid hr26
  have HRD26 := Lib.hid hrd26
  have HBE26 := Lib.hid hbe26
  clear hr26 hrd26 hbe26
  refine takeV2 (i := 22) (j := 26) rfl rfl (by kernel_rfl) (by rfl) (by rfl) (exec_three' rfl rfl rfl rfl HR22.out) (Lib.hid (hHeld.out.keep HBE22.out)) (exec_two' rfl rfl rfl HR26.out) (Lib.hid (hHeld.out.keep HBE26.out)) ?_ ?_
  · (try simp only [Act.put, List.setIfInBounds_toArray, List.set_cons_zero, List.set_cons_succ])
    have hHeld : Hid (BG w m bm b0 W22) := Lib.hid (hHeld.out.keep HBE22.out)
    (try have HRD6 := Lib.hid (HRD6.out.below HBE22.out))
    (try have HRD14 := Lib.hid (HRD14.out.below HBE22.out))
    (try have HRD26 := Lib.hid (HRD26.out.below HBE22.out))
    clear HR22
    refine takeC2 (i := 23) (j := 26) rfl rfl (by kernel_rfl) (by rfl) (by rfl) (fun K hK => ?_) (fun K hK => ?_)
    · go_simp
      refine (HCL.out _ _ hHeld HRD22).mono ?_
      rintro e W23 ⟨⟨vc, rfl, hown⟩, hb⟩
      have hF : Hid (BG w m bm b0 W23) := Lib.hid (hHeld.out.keep hb)
      have HRC := Lib.hid (Rd.of_owns (e := 33) encF_len hown (by simp))
      clear hown
      (try have HRD6 := Lib.hid (HRD6.out.below hb))
      (try have HRD14 := Lib.hid (HRD14.out.below hb))
      (try have HRD22 := Lib.hid (HRD22.out.below hb))
      (try have HRD26 := Lib.hid (HRD26.out.below hb))
      clear hb hHeld
      refine hK.out _ _ hF (fun hHeld => ?_)
      clear hK K hF
      try simp only [Act.put, List.setIfInBounds_toArray, List.set_cons_zero, List.set_cons_succ]
      obtain ⟨v26, W26, hr26, hrd26, hbe26⟩ := two_ex W23 fA fC
      have HR26 := Lib.hid hr26
      have HRD26 := Lib.hid hrd26
      have HBE26 := Lib.hid hbe26
      clear hr26 hrd26 hbe26
      refine takeV (i := 26) rfl (by kernel_rfl) (by rfl) (exec_two' rfl rfl rfl HR26.out) (Lib.hid (hHeld.out.keep HBE26.out)) ?_
      (try simp only [Act.put, List.setIfInBounds_toArray, List.set_cons_zero, List.set_cons_succ])
      have hHeld : Hid (BG w m bm b0 W26) := Lib.hid (hHeld.out.keep HBE26.out)
      (try have HRC := Lib.hid (HRC.out.below HBE26.out))
      (try have HRD6 := Lib.hid (HRD6.out.below HBE26.out))
      (try have HRD14 := Lib.hid (HRD14.out.below HBE26.out))
      (try have HRD22 := Lib.hid (HRD22.out.below HBE26.out))
      clear HR26
      refine takeC (i := 27) rfl (by kernel_rfl) (by rfl) (fun K hK => ?_)
      go_simp
      refine (HEQ.out _ _ _ HRC HRD26).mono ?_
      rintro e W27 ⟨rfl, hb⟩
      have hF : Hid (BG w m bm b0 W27) := Lib.hid (hHeld.out.keep hb)
      (try have HRD6 := Lib.hid (HRD6.out.below hb))
      (try have HRD14 := Lib.hid (HRD14.out.below hb))
      (try have HRD22 := Lib.hid (HRD22.out.below hb))
      (try have HRD26 := Lib.hid (HRD26.out.below hb))
      clear hb hHeld
      refine hK.out _ _ hF (fun hHeld => ?_)
      clear hK K hF
      try simp only [Act.put, List.setIfInBounds_toArray, List.set_cons_zero, List.set_cons_succ]
      (refine takeW (i := 28) (v := ?_) rfl (by kernel_rfl) (by kernel_rfl) (by kernel_rfl) (fun _ _ _ h => h) (by rfl) (by assumption) ?_ ?_; rotate_left; (intro W hW; (try dsimp only at hW); go_simp; try with_reducible rfl); (try simp only [Act.put, List.setIfInBounds_toArray, List.set_cons_zero, List.set_cons_succ]))
      (refine takeW (i := 29) (v := ?_) rfl (by kernel_rfl) (by kernel_rfl) (by kernel_rfl) (fun _ _ _ h => h) (by rfl) (by assumption) ?_ ?_; rotate_left; (intro W hW; (try dsimp only at hW); go_simp; try with_reducible rfl); (try simp only [Act.put, List.setIfInBounds_toArray, List.set_cons_zero]))
      refine wpAnyH_done (by kernel_rfl) ?_ _
      have HBF := Lib.hid hHeld.out.bel
      clear hHeld
      go_wp2
      first | exact HP.out _ HBF.out | (go_ret; exact HP.out _ HBF.out)
    · obtain ⟨v26, W26, hr26, hrd26, hbe26⟩ := two_ex W22 fA fC
      have HR26 := Lib.hid hr26
      have HRD26 := Lib.hid hrd26
      have HBE26 := Lib.hid hbe26
      clear hr26 hrd26 hbe26
      unfold Oper.wp
      rw [exec_two' rfl rfl rfl HR26.out]
      refine hK.out _ _ (Lib.hid (hHeld.out.keep HBE26.out)) (fun hHeld => ?_)
      clear hK K
      (try simp only [Act.put, List.setIfInBounds_toArray, List.set_cons_zero, List.set_cons_succ])
      (try have HRC := Lib.hid (HRC.out.below HBE26.out))
      (try have HRD6 := Lib.hid (HRD6.out.below HBE26.out))
      (try have HRD14 := Lib.hid (HRD14.out.below HBE26.out))
      (try have HRD22 := Lib.hid (HRD22.out.below HBE26.out))
      clear HR26
      refine takeC (i := 23) rfl (by kernel_rfl) (by rfl) (fun K hK => ?_)
      go_simp
      refine (HCL.out _ _ hHeld HRD22).mono ?_
      rintro e W23 ⟨⟨vc, rfl, hown⟩, hb⟩
      have hF : Hid (BG w m bm b0 W23) := Lib.hid (hHeld.out.keep hb)
      have HRC := Lib.hid (Rd.of_owns (e := 33) encF_len hown (by simp))
      clear hown
      (try have HRD6 := Lib.hid (HRD6.out.below hb))
      (try have HRD14 := Lib.hid (HRD14.out.below hb))
      (try have HRD22 := Lib.hid (HRD22.out.below hb))
      (try have HRD26 := Lib.hid (HRD26.out.below hb))
      clear hb hHeld
      refine hK.out _ _ hF (fun hHeld => ?_)
      clear hK K hF
      try simp only [Act.put, List.setIfInBounds_toArray, List.set_cons_zero, List.set_cons_succ]
      refine takeC (i := 27) rfl (by kernel_rfl) (by rfl) (fun K hK => ?_)
      go_simp
      refine (HEQ.out _ _ _ HRC HRD26).mono ?_
      rintro e W27 ⟨rfl, hb⟩
      have hF : Hid (BG w m bm b0 W27) := Lib.hid (hHeld.out.keep hb)
      (try have HRD6 := Lib.hid (HRD6.out.below hb))
      (try have HRD14 := Lib.hid (HRD14.out.below hb))
      (try have HRD22 := Lib.hid (HRD22.out.below hb))
      (try have HRD26 := Lib.hid (HRD26.out.below hb))
      clear hb hHeld
      refine hK.out _ _ hF (fun hHeld => ?_)
      clear hK K hF
      try simp only [Act.put, List.setIfInBounds_toArray, List.set_cons_zero, List.set_cons_succ]
      (refine takeW (i := 28) (v := ?_) rfl (by kernel_rfl) (by kernel_rfl) (by kernel_rfl) (fun _ _ _ h => h) (by rfl) (by assumption) ?_ ?_; rotate_left; (intro W hW; (try dsimp only at hW); go_simp; try with_reducible rfl); (try simp only [Act.put, List.setIfInBounds_toArray, List.set_cons_zero, List.set_cons_succ]))
      (refine takeW (i := 29) (v := ?_) rfl (by kernel_rfl) (by kernel_rfl) (by kernel_rfl) (fun _ _ _ h => h) (by rfl) (by assumption) ?_ ?_; rotate_left; (intro W hW; (try dsimp only at hW); go_simp; try with_reducible rfl); (try simp only [Act.put, List.setIfInBounds_toArray, List.set_cons_zero]))
      refine wpAnyH_done (by kernel_rfl) ?_ _
      have HBF := Lib.hid hHeld.out.bel
      clear hHeld
      go_wp2
      first | exact HP.out _ HBF.out | (go_ret; exact HP.out _ HBF.out)
  · (try simp only [Act.put, List.setIfInBounds_toArray, List.set_cons_zero, List.set_cons_succ])
    have hHeld : Hid (BG w m bm b0 W26) := Lib.hid (hHeld.out.keep HBE26.out)
    (try have HRC := Lib.hid (HRC.out.below HBE26.out))
    (try have HRD6 := Lib.hid (HRD6.out.below HBE26.out))
    (try have HRD14 := Lib.hid (HRD14.out.below HBE26.out))
    (try have HRD22 := Lib.hid (HRD22.out.below HBE26.out))
    clear HR26
    obtain ⟨v22, W22, hr22, hrd22, hbe22⟩ := three_ex W26 fC fA fC
    have HR22 := Lib.hid hr22
    have HRD22 := Lib.hid hrd22
    have HBE22 := Lib.hid hbe22
    clear hr22 hrd22 hbe22
    refine takeV (i := 22) rfl (by kernel_rfl) (by rfl) (exec_three' rfl rfl rfl rfl HR22.out) (Lib.hid (hHeld.out.keep HBE22.out)) ?_
    (try simp only [Act.put, List.setIfInBounds_toArray, List.set_cons_zero, List.set_cons_succ])
    have hHeld : Hid (BG w m bm b0 W22) := Lib.hid (hHeld.out.keep HBE22.out)
    (try have HRD6 := Lib.hid (HRD6.out.below HBE22.out))
    (try have HRD14 := Lib.hid (HRD14.out.below HBE22.out))
    (try have HRD26 := Lib.hid (HRD26.out.below HBE22.out))
    clear HR22
    refine takeC (i := 23) rfl (by kernel_rfl) (by rfl) (fun K hK => ?_)
    go_simp
    refine (HCL.out _ _ hHeld HRD22).mono ?_
    rintro e W23 ⟨⟨vc, rfl, hown⟩, hb⟩
    have hF : Hid (BG w m bm b0 W23) := Lib.hid (hHeld.out.keep hb)
    have HRC := Lib.hid (Rd.of_owns (e := 33) encF_len hown (by simp))
    clear hown
    (try have HRD6 := Lib.hid (HRD6.out.below hb))
    (try have HRD14 := Lib.hid (HRD14.out.below hb))
    (try have HRD22 := Lib.hid (HRD22.out.below hb))
    (try have HRD26 := Lib.hid (HRD26.out.below hb))
    clear hb hHeld
    refine hK.out _ _ hF (fun hHeld => ?_)
    clear hK K hF
    try simp only [Act.put, List.setIfInBounds_toArray, List.set_cons_zero, List.set_cons_succ]
    refine takeC (i := 27) rfl (by kernel_rfl) (by rfl) (fun K hK => ?_)
    go_simp
    refine (HEQ.out _ _ _ HRC HRD26).mono ?_
    rintro e W27 ⟨rfl, hb⟩
    have hF : Hid (BG w m bm b0 W27) := Lib.hid (hHeld.out.keep hb)
    (try have HRD6 := Lib.hid (HRD6.out.below hb))
    (try have HRD14 := Lib.hid (HRD14.out.below hb))
    (try have HRD22 := Lib.hid (HRD22.out.below hb))
    (try have HRD26 := Lib.hid (HRD26.out.below hb))
    clear hb hHeld
    refine hK.out _ _ hF (fun hHeld => ?_)
    clear hK K hF
    try simp only [Act.put, List.setIfInBounds_toArray, List.set_cons_zero, List.set_cons_succ]
    (refine takeW (i := 28) (v := ?_) rfl (by kernel_rfl) (by kernel_rfl) (by kernel_rfl) (fun _ _ _ h => h) (by rfl) (by assumption) ?_ ?_; rotate_left; (intro W hW; (try dsimp only at hW); go_simp; try with_reducible rfl); (try simp only [Act.put, List.setIfInBounds_toArray, List.set_cons_zero, List.set_cons_succ]))
    (refine takeW (i := 29) (v := ?_) rfl (by kernel_rfl) (by kernel_rfl) (by kernel_rfl) (fun _ _ _ h => h) (by rfl) (by assumption) ?_ ?_; rotate_left; (intro W hW; (try dsimp only at hW); go_simp; try with_reducible rfl); (try simp only [Act.put, List.setIfInBounds_toArray, List.set_cons_zero]))
    refine wpAnyH_done (by kernel_rfl) ?_ _
    have HBF := Lib.hid hHeld.out.bel
    clear hHeld
    go_wp2
    first | exact HP.out _ HBF.out | (go_ret; exact HP.out _ HBF.out)
end Go.Proofs.Ytmflnbdajaiahaa
