/- slices.Repeat of one truth, of one number. -/
import Derived.Test.YtkinhhkodaacjaaGreatDoorQ1
import Derived.Test.YtkinhhkodaacjaaGreatDoorLA
import Derived.Test.YtkinhhkodaacjaaGreatDoorShelf
import Derived.Test.YtkinhhkodaacjaaGreatDoorProg
import Derived.WalkKit
import Derived.IntWalk
import Derived.OwnWalkIn
import Derived.Deep.DeepCutAuto
import Derived.Deep.DeepMust
import Derived.Deep.QuietTactic
import Derived.WalkSpells
import Derived.WalkLawsBesides
import Derived.BigQuiet
import Derived.Lib.Hide
import Derived.Lib.SliceRun
import Derived.Laws.CopyRow
import Derived.OwnWalk
namespace Go.Proofs.YtkinhhkodaacjaaGreatDoor
open Go.RowKit

def fillA (v z : Value) (n k : Nat) : Array Value := (List.replicate k v ++ List.replicate (n - k) z).toArray
theorem fillA_size (v z : Value) {n k : Nat} (_ : k ≤ n) : (fillA v z n k).size = n := by simp [fillA]; omega
theorem fillA_copy (v z : Value) {n k m : Nat} (_h : k + m ≤ n) : ((fillA v z n k).toList.take k ++ List.replicate m v ++ (fillA v z n k).toList.drop (k + m)).toArray = fillA v z n (k + m) := by
  unfold fillA
  congr 1
  have h1 : (List.replicate k v ++ List.replicate (n - k) z).take k = List.replicate k v := by
    rw [List.take_append_of_le_length (by simp), List.take_of_length_le (by simp)]
  have h2 : (List.replicate k v ++ List.replicate (n - k) z).drop (k + m) = List.replicate (n - (k + m)) z := by
    rw [List.drop_append]
    simp
    omega
  rw [h1, h2, List.replicate_append_replicate]

theorem exec_fillB {w : World} {o : Oper} {ac : Act} {x y : Operand} {g k m n dl dc sl sc : Nat} {v : Value} {ad : Addr} (ho : o.op = .call { callee := .builtin .copy, args := #[x, y], argTypes := #[22, 22] }) (hx : ac.eval x = .slice (some ⟨g, k, none⟩) dl dc) (hy : ac.eval y = .slice (some ad) sl sc)
    (hg : Blk w g 4 (fillA v (.bool false) n k)) (hm : Nat.min sl dl = m) (hkm : k + m ≤ n) (hsrc : ∀ j, j < m → w.cell? (ad.add j) = some v) (h1 : v.oneCell' = true) :
    (execOp ac.eval o).run Tryz.prog w = .ok (.value (.int .i64 (m : Int))) (w.setRow g (fillA v (.bool false) n (k + m))) := by
  have hrun := run_copy_row (P := Tryz.prog) w 22 22 o.type 4 g k dl dc ad sl sc (fillA v (.bool false) n k) 4 (List.replicate m v) Tryz.underlying22 (by kernel_rfl) hg (by rw [List.length_replicate]; exact hm.symm)
    (fun j u hj => by
      have hj' := (List.getElem?_eq_some_iff.1 hj).1
      rw [List.length_replicate] at hj'
      rw [List.getElem?_replicate, if_pos hj'] at hj
      rw [hsrc j hj', hj]) (by rw [List.length_replicate, fillA_size _ _ (by omega)]; omega) (fun u hu => by rw [List.eq_of_mem_replicate hu]; exact h1)
  rw [List.length_replicate, fillA_copy _ _ hkm] at hrun
  simp [execOp, ho, resolve, invoke, builtin, hx, hy, hrun, Result.andThen, goInt]
set_option maxRecDepth 100000 in
set_option maxHeartbeats 1600000 in
theorem repB_any (v : Value) (b c n : Nat) (w : World) (hc : w.cell? ⟨b, 0, none⟩ = some v) (hv : v.oneCell' = true) (hn : n ≤ 16384) :
    Calls Tryz.prog 37 #[.slice (some ⟨b, 0, none⟩) 1 c, .int .i64 (n : Int)] w fun e w' => (∃ v', e = .returned v' ∧ w'.ownsRow w.heap.size 4 1 v' n (List.replicate n v)) ∧ Below w.heap.size w w' := by
  have HPO : Hid (∀ g w', Below w.heap.size w w' → w.heap.size ≤ g → Blk w' g 4 (fillA v (.bool false) n n) → (fun e w' => (∃ v', e = Ending.returned v' ∧ w'.ownsRow w.heap.size 4 1 v' n (List.replicate n v)) ∧ Below w.heap.size w w') (.returned (.slice (some ⟨g, 0, none⟩) n n)) w') := fun g w' hb hg hk =>
    ⟨⟨_, rfl, by simp, .inr ⟨g, n, fillA v (.bool false) n n, rfl, hg, hk, Nat.le_refl _, by unfold maxLen; omega, by rw [fillA_size _ _ (Nat.le_refl _)]; omega, by simp [fillA]⟩⟩, hb⟩
  generalize (fun e w' => (∃ v', e = Ending.returned v' ∧ w'.ownsRow w.heap.size 4 1 v' n (List.replicate n v)) ∧ Below w.heap.size w w') = POST at *
  have HMU : Hid (∀ W, Calls Tryz.prog 62 #[.int .u64 1, .int .u64 (n : Int)] W fun e w' => e = .returned (.tuple #[.int .u64 0, .int .u64 (n : Int)]) ∧ w' = W) := fun W => by
    have := Tryz.bits_Mul 1 n (by omega) (by omega) W
    rwa [Nat.one_mul, Nat.div_eq_of_lt (by omega), Nat.mod_eq_of_lt (by omega)] at this
  obtain ⟨i0, hi0, hz0, hz1, hz2⟩ := info_parts (show (Tryz.prog.info? 4).map (fun i => (i.zero, i.size, i.bytes)) = some (some (.bool false), 1, 1) by kernel_rfl)
  have HC := Lib.hid hc
  have HV := Lib.hid hv
  have HN := Lib.hid hn
  have hwu : IntKind.u64.wrap (n : Int) = n := by simp [IntKind.wrap, IntKind.signed, IntKind.bits]; omega
  have hwi : IntKind.i64.wrap (n : Int) = n := IntWalk.i64_in _ (by omega)
  clear hc hv
  go_enter Tryz.func37, Tryz.ntmps37
  go_wp2_with fail
  refine (HMU.out _).mono ?_
  rintro e w1 ⟨rfl, hw1⟩
  subst hw1
  clear HMU
  go_upto_region 7 with ((with_reducible show wpList _ _ _ (Oper.mk (some 30) _ _ _ _ _ :: _) _ _); refine wpList_make_full _ rfl _ _ 22 rfl w1.heap.size 4 i0 (.bool false) 1 Tryz.underlying22 hi0 hz0 hz1 _ _ _ _ n rfl rfl rfl rfl (by rw [hz2]; omega) (by unfold maxLen; omega) (Nat.le_refl _) ?_; intro w2 hown2 hgrow2; have HO2 := Lib.hid hown2; have HG2 := Lib.hid hgrow2; clear hown2 hgrow2)
  obtain ⟨g, hg⟩ : ∃ g, w1.heap.size = g := ⟨_, rfl⟩
  have HBK : Hid (Blk w2 g 4 (fillA v (.bool false) n 0)) := by
    rcases HO2.out.2 with ⟨e, _⟩ | ⟨g', cap, cur, e, hbg, hh, q1, q2, q3, q4⟩
    · simp at e
    · simp only [Value.slice.injEq, Option.some.injEq, Addr.mk.injEq, and_true, true_and] at e
      obtain ⟨rfl, rfl⟩ := e
      have e1 : cur = fillA v (.bool false) n 0 := by
        have h1 : cur.toList.take (n * 1) = _ := q4
        rw [List.take_of_length_le (by simp; omega), show n * 1 = n from Nat.mul_one n] at h1
        have h2 : (madeCells (.bool false : Value).cells n).toList = List.replicate n (.bool false) := madeOne _ n
        rw [h2] at h1
        unfold fillA
        simp only [List.replicate_zero, List.nil_append, Nat.sub_zero]
        rw [← h1]
      rw [← e1, ← hg]
      exact hh
  have HB2 : Hid (Below w1.heap.size w1 w2) := (Below.refl _ w1).grown HG2.out (Nat.le_refl _) (by intro k hk; cases hk)
  have HC2 : Hid (w2.cell? ⟨b, 0, none⟩ = some v) := by
    show _ = _
    rw [HB2.out.cell (World.block_lt_of_cell? _ _ HC.out)]
    exact HC.out
  clear HO2 HG2
  rw [hg] at HB2 HPO
  try simp only [hg]
  have HGZ : Hid (g = w1.heap.size) := hg.symm
  clear hg
  by_cases h0 : n = 0
  · subst h0
    go_wp2_with ((with_reducible show wpList _ _ _ (Oper.mk (some 33) _ _ _ _ _ :: _) _ _); refine wpList_copy_nothing rfl _ _ _ _ rfl 4 Tryz.underlying22 (by kernel_rfl) _ _ _ _ _ _ rfl rfl (by simp) ?_)
    go_loopw [8] (fun i wr => i = .int .i64 0 ∧ Hid (Blk wr g 4 (fillA v (.bool false) 0 0)) ∧ Hid (Below g w1 wr)) (fun _ _ => 0)
    case atStart => exact ⟨rfl, HBK, HB2⟩
    case round =>
      clear HBK HB2
      obtain ⟨rfl, HBK, HB2⟩ := hrel
      go_wp2
      exact HPO.out g _ HB2.out (Nat.le_refl _) HBK.out
  · have h1 : 1 ≤ n := by omega
    have HB3 : Hid (Below g w1 (w2.setRow g (fillA v (.bool false) n 1))) := Lib.hid (HB2.out.grown (grownRow w2 g _) (by have := HBK.out.lt; omega) (fun q e => by cases e; exact Nat.le_refl _))
    have HK3 : Hid (Blk (w2.setRow g (fillA v (.bool false) n 1)) g 4 (fillA v (.bool false) n 1)) := Lib.hid HBK.out.part
    have HMI : Hid (Nat.min 1 n = 1) := by show _ = _; simp only [Nat.min_def]; split <;> omega
    have HSR1 : Hid (∀ j, j < 1 → w2.cell? ((⟨b, 0, none⟩ : Addr).add j) = some v) := fun j hj => by
      obtain rfl : j = 0 := by omega
      exact HC2.out
    go_wp2_with ((with_reducible show wpList _ _ _ (Oper.mk (some 33) _ _ _ _ _ :: _) _ _); refine wpList_val rfl (exec_fillB (v := v) (k := 0) (m := 1) (n := n) rfl rfl rfl HBK.out HMI.out (by omega) HSR1.out HV.out) ?_)
    clear HBK HB2 HC2 HC
    generalize w2.setRow g (fillA v (.bool false) n (0 + 1)) = w3 at *
    go_loopw [8] (fun i wr => ∃ k : Nat, 1 ≤ k ∧ k ≤ n ∧ i = .int .i64 k ∧ Hid (Blk wr g 4 (fillA v (.bool false) n k)) ∧ Hid (Below g w1 wr)) (fun i _ => n - (intOf i).toNat)
    case atStart => exact ⟨1, Nat.le_refl _, h1, rfl, HK3, HB3⟩
    case round =>
      clear HK3 HB3
      obtain ⟨k, hk1, hk2, rfl, HBK0, HB2⟩ := hrel
      obtain ⟨wo, rfl⟩ : ∃ wo : World, wo = wr := ⟨_, rfl⟩
      by_cases hlt : k < n
      · obtain ⟨mm, hmm⟩ : ∃ mm, Nat.min k (n - k) = mm := ⟨_, rfl⟩
        have HMM := Lib.hid hmm
        have hm1 : 1 ≤ mm := by rw [← hmm]; simp only [Nat.min_def]; split <;> omega
        have hkm : k + mm ≤ n := by rw [← hmm]; simp only [Nat.min_def]; split <;> omega
        have hmk : mm ≤ k := by rw [← hmm]; exact Nat.min_le_left _ _
        clear hmm
        have hel : Tryz.prog.elem 22 = 4 := by kernel_rfl
        have HS1 : Hid (∀ W, (Instr.sliceAt 22 (.slice (some ⟨g, 0, none⟩) n n) (some (.int .i64 (k : Int))) none none).run Tryz.prog W = .ok (.slice (some ⟨g, k, none⟩) (n - k) (n - k)) W) := fun W => by
          rw [run_sliceAt_slice (P := Tryz.prog) (w := W) 22 _ _ _ _ (by kernel_rfl), run_slice_l (P := Tryz.prog) (w := W) 22 _ n n (by kernel_rfl) .i64 k (by omega) (by omega), hel, Tryz.sizeOf4]
          simp [Result.andThen, sliced, Addr.add_lit, show ¬ n = k by omega]
        have HS2 : Hid (∀ W, (Instr.sliceAt 22 (.slice (some ⟨g, 0, none⟩) n n) none (some (.int .i64 (k : Int))) none).run Tryz.prog W = .ok (.slice (some ⟨g, 0, none⟩) k n) W) := fun W => by
          rw [run_sliceAt_slice (P := Tryz.prog) (w := W) 22 _ _ _ _ (by kernel_rfl), run_slice_h (P := Tryz.prog) (w := W) 22 _ n n (by kernel_rfl) .i64 k (by omega) (by omega), hel, Tryz.sizeOf4]
          simp [Result.andThen, sliced, Addr.add_lit]
        have HBD : Hid (Blk wo.drew g 4 (fillA v (.bool false) n k)) := HBK0.out.keep (Below.refl _ _).drew
        have HSR : Hid (∀ j, j < mm → wo.drew.cell? ((⟨g, 0, none⟩ : Addr).add j) = some v) := fun j hj => by
          rw [Addr.add_lit, HBD.out.cell]
          simp [fillA, List.getElem?_append, show j < k by omega]
        have HBF : Hid (Blk (wo.drew.setRow g (fillA v (.bool false) n (k + mm))) g 4 (fillA v (.bool false) n (k + mm))) := Lib.hid HBD.out.part
        have HBB : Hid (Below g w1 (wo.drew.setRow g (fillA v (.bool false) n (k + mm)))) := Lib.hid (HB2.out.drew.grown (grownRow wo.drew g _) (by have := HBD.out.lt; omega) (fun q e => by cases e; exact Nat.le_refl _))
        have hwk : IntKind.i64.wrap ((k : Int) + (mm : Int)) = (k : Int) + mm := IntWalk.i64_in _ (by omega)
        clear hel HB2
        go_upto_region 9 with fail
        refine wp_region_held_drew (S := fun _ => True) (by kernel_rfl) trivial (fun hHeld => ?_)
        (refine takeW (i := 0) (v := ?_) rfl (by kernel_rfl) (by kernel_rfl) (by kernel_rfl) (fun _ _ _ h => h) (by rfl) (by assumption) ?_ ?_; rotate_left; (intro W hW; (try dsimp only at hW); go_simp; try with_reducible rfl); (try simp only [Act.put, List.setIfInBounds_toArray, List.set_cons_zero, List.set_cons_succ]))
        (refine takeW (i := 1) (v := ?_) rfl (by kernel_rfl) (by kernel_rfl) (by kernel_rfl) (fun _ _ _ h => h) (by rfl) (by assumption) ?_ ?_; rotate_left; (intro W hW; (try dsimp only at hW); go_simp; try with_reducible rfl); (try simp only [Act.put, List.setIfInBounds_toArray, List.set_cons_zero, List.set_cons_succ]))
        (refine takeW (i := 2) (v := ?_) rfl (by kernel_rfl) (by kernel_rfl) (by kernel_rfl) (fun _ _ _ h => h) (by rfl) (by assumption) ?_ ?_; rotate_left; (intro W hW; (try dsimp only at hW); go_simp; try with_reducible rfl); (try simp only [Act.put, List.setIfInBounds_toArray, List.set_cons_zero, List.set_cons_succ]))
        (refine takeW (i := 3) rfl (by kernel_rfl) (by kernel_rfl) (by kernel_rfl) (fun _ _ _ h => h) (by rfl) (by assumption) (fun W hW => exec_slice rfl rfl rfl rfl (HS1.out _)) ?_; (try simp only [Act.put, List.setIfInBounds_toArray, List.set_cons_zero, List.set_cons_succ]))
        (refine takeW (i := 4) (v := ?_) rfl (by kernel_rfl) (by kernel_rfl) (by kernel_rfl) (fun _ _ _ h => h) (by rfl) (by assumption) ?_ ?_; rotate_left; (intro W hW; (try dsimp only at hW); go_simp; try with_reducible rfl); (try simp only [Act.put, List.setIfInBounds_toArray, List.set_cons_zero, List.set_cons_succ]))
        (refine takeW (i := 5) (v := ?_) rfl (by kernel_rfl) (by kernel_rfl) (by kernel_rfl) (fun _ _ _ h => h) (by rfl) (by assumption) ?_ ?_; rotate_left; (intro W hW; (try dsimp only at hW); go_simp; try with_reducible rfl); (try simp only [Act.put, List.setIfInBounds_toArray, List.set_cons_zero, List.set_cons_succ]))
        (refine takeW (i := 6) rfl (by kernel_rfl) (by kernel_rfl) (by kernel_rfl) (fun _ _ _ h => h) (by rfl) (by assumption) (fun W hW => exec_slice rfl rfl rfl rfl (HS2.out _)) ?_; (try simp only [Act.put, List.setIfInBounds_toArray, List.set_cons_zero, List.set_cons_succ]))
        refine takeV (i := 7) rfl (by kernel_rfl) (by rfl) (exec_fillB (v := v) rfl rfl rfl HBD.out HMM.out hkm HSR.out HV.out) (trivial) ?_
        (try simp only [Act.put, List.setIfInBounds_toArray, List.set_cons_zero, List.set_cons_succ])
        have hHeld : True := trivial
        (refine takeW (i := 8) (v := ?_) rfl (by kernel_rfl) (by kernel_rfl) (by kernel_rfl) (fun _ _ _ h => h) (by rfl) (by assumption) ?_ ?_; rotate_left; (intro W hW; (try dsimp only at hW); go_simp; try with_reducible rfl); (try simp only [Act.put, List.setIfInBounds_toArray, List.set_cons_zero, List.set_cons_succ]))
        (refine takeW (i := 9) (v := ?_) rfl (by kernel_rfl) (by kernel_rfl) (by kernel_rfl) (fun _ _ _ h => h) (by rfl) (by assumption) ?_ ?_; rotate_left; (intro W hW; (try dsimp only at hW); go_simp; try with_reducible rfl); (try simp only [Act.put, List.setIfInBounds_toArray, List.set_cons_zero, List.set_cons_succ]))
        refine wpAnyH_done (by kernel_rfl) ?_ _
        clear hHeld HS1 HS2 HSR HBD HBK0
        go_wp2
        go_roundw
        case rel => exact ⟨k + mm, by omega, hkm, by go_num, HBF.out, HBB.out⟩
        case measure => simp [intOf]; omega
      · have hkn : k = n := by omega
        subst hkn
        go_wp2
        exact HPO.out g _ HB2.out (Nat.le_refl _) HBK0.out

theorem exec_fillI {w : World} {o : Oper} {ac : Act} {x y : Operand} {g k m n dl dc sl sc : Nat} {v : Value} {ad : Addr} (ho : o.op = .call { callee := .builtin .copy, args := #[x, y], argTypes := #[23, 23] }) (hx : ac.eval x = .slice (some ⟨g, k, none⟩) dl dc) (hy : ac.eval y = .slice (some ad) sl sc)
    (hg : Blk w g 3 (fillA v (.int .i64 0) n k)) (hm : Nat.min sl dl = m) (hkm : k + m ≤ n) (hsrc : ∀ j, j < m → w.cell? (ad.add j) = some v) (h1 : v.oneCell' = true) :
    (execOp ac.eval o).run Tryz.prog w = .ok (.value (.int .i64 (m : Int))) (w.setRow g (fillA v (.int .i64 0) n (k + m))) := by
  have hrun := run_copy_row (P := Tryz.prog) w 23 23 o.type 3 g k dl dc ad sl sc (fillA v (.int .i64 0) n k) 3 (List.replicate m v) Tryz.underlying23 (by kernel_rfl) hg (by rw [List.length_replicate]; exact hm.symm)
    (fun j u hj => by
      have hj' := (List.getElem?_eq_some_iff.1 hj).1
      rw [List.length_replicate] at hj'
      rw [List.getElem?_replicate, if_pos hj'] at hj
      rw [hsrc j hj', hj]) (by rw [List.length_replicate, fillA_size _ _ (by omega)]; omega) (fun u hu => by rw [List.eq_of_mem_replicate hu]; exact h1)
  rw [List.length_replicate, fillA_copy _ _ hkm] at hrun
  simp [execOp, ho, resolve, invoke, builtin, hx, hy, hrun, Result.andThen, goInt]
set_option maxRecDepth 100000 in
set_option maxHeartbeats 1600000 in
theorem repI_any (v : Value) (b c n : Nat) (w : World) (hc : w.cell? ⟨b, 0, none⟩ = some v) (hv : v.oneCell' = true) (hn : n ≤ 16384) :
    Calls Tryz.prog 63 #[.slice (some ⟨b, 0, none⟩) 1 c, .int .i64 (n : Int)] w fun e w' => (∃ v', e = .returned v' ∧ w'.ownsRow w.heap.size 3 1 v' n (List.replicate n v)) ∧ Below w.heap.size w w' := by
  have HPO : Hid (∀ g w', Below w.heap.size w w' → w.heap.size ≤ g → Blk w' g 3 (fillA v (.int .i64 0) n n) → (fun e w' => (∃ v', e = Ending.returned v' ∧ w'.ownsRow w.heap.size 3 1 v' n (List.replicate n v)) ∧ Below w.heap.size w w') (.returned (.slice (some ⟨g, 0, none⟩) n n)) w') := fun g w' hb hg hk =>
    ⟨⟨_, rfl, by simp, .inr ⟨g, n, fillA v (.int .i64 0) n n, rfl, hg, hk, Nat.le_refl _, by unfold maxLen; omega, by rw [fillA_size _ _ (Nat.le_refl _)]; omega, by simp [fillA]⟩⟩, hb⟩
  generalize (fun e w' => (∃ v', e = Ending.returned v' ∧ w'.ownsRow w.heap.size 3 1 v' n (List.replicate n v)) ∧ Below w.heap.size w w') = POST at *
  have HMU : Hid (∀ W, Calls Tryz.prog 62 #[.int .u64 1, .int .u64 (n : Int)] W fun e w' => e = .returned (.tuple #[.int .u64 0, .int .u64 (n : Int)]) ∧ w' = W) := fun W => by
    have := Tryz.bits_Mul 1 n (by omega) (by omega) W
    rwa [Nat.one_mul, Nat.div_eq_of_lt (by omega), Nat.mod_eq_of_lt (by omega)] at this
  obtain ⟨i0, hi0, hz0, hz1, hz2⟩ := info_parts (show (Tryz.prog.info? 3).map (fun i => (i.zero, i.size, i.bytes)) = some (some (.int .i64 0), 1, 8) by kernel_rfl)
  have HC := Lib.hid hc
  have HV := Lib.hid hv
  have HN := Lib.hid hn
  have hwu : IntKind.u64.wrap (n : Int) = n := by simp [IntKind.wrap, IntKind.signed, IntKind.bits]; omega
  have hwi : IntKind.i64.wrap (n : Int) = n := IntWalk.i64_in _ (by omega)
  clear hc hv
  go_enter Tryz.func63, Tryz.ntmps63
  go_wp2_with fail
  refine (HMU.out _).mono ?_
  rintro e w1 ⟨rfl, hw1⟩
  subst hw1
  clear HMU
  go_upto_region 7 with ((with_reducible show wpList _ _ _ (Oper.mk (some 30) _ _ _ _ _ :: _) _ _); refine wpList_make_full _ rfl _ _ 23 rfl w1.heap.size 3 i0 (.int .i64 0) 1 Tryz.underlying23 hi0 hz0 hz1 _ _ _ _ n rfl rfl rfl rfl (by rw [hz2]; omega) (by unfold maxLen; omega) (Nat.le_refl _) ?_; intro w2 hown2 hgrow2; have HO2 := Lib.hid hown2; have HG2 := Lib.hid hgrow2; clear hown2 hgrow2)
  obtain ⟨g, hg⟩ : ∃ g, w1.heap.size = g := ⟨_, rfl⟩
  have HBK : Hid (Blk w2 g 3 (fillA v (.int .i64 0) n 0)) := by
    rcases HO2.out.2 with ⟨e, _⟩ | ⟨g', cap, cur, e, hbg, hh, q1, q2, q3, q4⟩
    · simp at e
    · simp only [Value.slice.injEq, Option.some.injEq, Addr.mk.injEq, and_true, true_and] at e
      obtain ⟨rfl, rfl⟩ := e
      have e1 : cur = fillA v (.int .i64 0) n 0 := by
        have h1 : cur.toList.take (n * 1) = _ := q4
        rw [List.take_of_length_le (by simp; omega), show n * 1 = n from Nat.mul_one n] at h1
        have h2 : (madeCells (.int .i64 0 : Value).cells n).toList = List.replicate n (.int .i64 0) := madeOne _ n
        rw [h2] at h1
        unfold fillA
        simp only [List.replicate_zero, List.nil_append, Nat.sub_zero]
        rw [← h1]
      rw [← e1, ← hg]
      exact hh
  have HB2 : Hid (Below w1.heap.size w1 w2) := (Below.refl _ w1).grown HG2.out (Nat.le_refl _) (by intro k hk; cases hk)
  have HC2 : Hid (w2.cell? ⟨b, 0, none⟩ = some v) := by
    show _ = _
    rw [HB2.out.cell (World.block_lt_of_cell? _ _ HC.out)]
    exact HC.out
  clear HO2 HG2
  rw [hg] at HB2 HPO
  try simp only [hg]
  have HGZ : Hid (g = w1.heap.size) := hg.symm
  clear hg
  by_cases h0 : n = 0
  · subst h0
    go_wp2_with ((with_reducible show wpList _ _ _ (Oper.mk (some 33) _ _ _ _ _ :: _) _ _); refine wpList_copy_nothing rfl _ _ _ _ rfl 3 Tryz.underlying23 (by kernel_rfl) _ _ _ _ _ _ rfl rfl (by simp) ?_)
    go_loopw [8] (fun i wr => i = .int .i64 0 ∧ Hid (Blk wr g 3 (fillA v (.int .i64 0) 0 0)) ∧ Hid (Below g w1 wr)) (fun _ _ => 0)
    case atStart => exact ⟨rfl, HBK, HB2⟩
    case round =>
      clear HBK HB2
      obtain ⟨rfl, HBK, HB2⟩ := hrel
      go_wp2
      exact HPO.out g _ HB2.out (Nat.le_refl _) HBK.out
  · have h1 : 1 ≤ n := by omega
    have HB3 : Hid (Below g w1 (w2.setRow g (fillA v (.int .i64 0) n 1))) := Lib.hid (HB2.out.grown (grownRow w2 g _) (by have := HBK.out.lt; omega) (fun q e => by cases e; exact Nat.le_refl _))
    have HK3 : Hid (Blk (w2.setRow g (fillA v (.int .i64 0) n 1)) g 3 (fillA v (.int .i64 0) n 1)) := Lib.hid HBK.out.part
    have HMI : Hid (Nat.min 1 n = 1) := by show _ = _; simp only [Nat.min_def]; split <;> omega
    have HSR1 : Hid (∀ j, j < 1 → w2.cell? ((⟨b, 0, none⟩ : Addr).add j) = some v) := fun j hj => by
      obtain rfl : j = 0 := by omega
      exact HC2.out
    go_wp2_with ((with_reducible show wpList _ _ _ (Oper.mk (some 33) _ _ _ _ _ :: _) _ _); refine wpList_val rfl (exec_fillI (v := v) (k := 0) (m := 1) (n := n) rfl rfl rfl HBK.out HMI.out (by omega) HSR1.out HV.out) ?_)
    clear HBK HB2 HC2 HC
    generalize w2.setRow g (fillA v (.int .i64 0) n (0 + 1)) = w3 at *
    go_loopw [8] (fun i wr => ∃ k : Nat, 1 ≤ k ∧ k ≤ n ∧ i = .int .i64 k ∧ Hid (Blk wr g 3 (fillA v (.int .i64 0) n k)) ∧ Hid (Below g w1 wr)) (fun i _ => n - (intOf i).toNat)
    case atStart => exact ⟨1, Nat.le_refl _, h1, rfl, HK3, HB3⟩
    case round =>
      clear HK3 HB3
      obtain ⟨k, hk1, hk2, rfl, HBK0, HB2⟩ := hrel
      obtain ⟨wo, rfl⟩ : ∃ wo : World, wo = wr := ⟨_, rfl⟩
      by_cases hlt : k < n
      · obtain ⟨mm, hmm⟩ : ∃ mm, Nat.min k (n - k) = mm := ⟨_, rfl⟩
        have HMM := Lib.hid hmm
        have hm1 : 1 ≤ mm := by rw [← hmm]; simp only [Nat.min_def]; split <;> omega
        have hkm : k + mm ≤ n := by rw [← hmm]; simp only [Nat.min_def]; split <;> omega
        have hmk : mm ≤ k := by rw [← hmm]; exact Nat.min_le_left _ _
        clear hmm
        have hel : Tryz.prog.elem 23 = 3 := by kernel_rfl
        have HS1 : Hid (∀ W, (Instr.sliceAt 23 (.slice (some ⟨g, 0, none⟩) n n) (some (.int .i64 (k : Int))) none none).run Tryz.prog W = .ok (.slice (some ⟨g, k, none⟩) (n - k) (n - k)) W) := fun W => by
          rw [run_sliceAt_slice (P := Tryz.prog) (w := W) 23 _ _ _ _ (by kernel_rfl), run_slice_l (P := Tryz.prog) (w := W) 23 _ n n (by kernel_rfl) .i64 k (by omega) (by omega), hel, Tryz.sizeOf3]
          simp [Result.andThen, sliced, Addr.add_lit, show ¬ n = k by omega]
        have HS2 : Hid (∀ W, (Instr.sliceAt 23 (.slice (some ⟨g, 0, none⟩) n n) none (some (.int .i64 (k : Int))) none).run Tryz.prog W = .ok (.slice (some ⟨g, 0, none⟩) k n) W) := fun W => by
          rw [run_sliceAt_slice (P := Tryz.prog) (w := W) 23 _ _ _ _ (by kernel_rfl), run_slice_h (P := Tryz.prog) (w := W) 23 _ n n (by kernel_rfl) .i64 k (by omega) (by omega), hel, Tryz.sizeOf3]
          simp [Result.andThen, sliced, Addr.add_lit]
        have HBD : Hid (Blk wo.drew g 3 (fillA v (.int .i64 0) n k)) := HBK0.out.keep (Below.refl _ _).drew
        have HSR : Hid (∀ j, j < mm → wo.drew.cell? ((⟨g, 0, none⟩ : Addr).add j) = some v) := fun j hj => by
          rw [Addr.add_lit, HBD.out.cell]
          simp [fillA, List.getElem?_append, show j < k by omega]
        have HBF : Hid (Blk (wo.drew.setRow g (fillA v (.int .i64 0) n (k + mm))) g 3 (fillA v (.int .i64 0) n (k + mm))) := Lib.hid HBD.out.part
        have HBB : Hid (Below g w1 (wo.drew.setRow g (fillA v (.int .i64 0) n (k + mm)))) := Lib.hid (HB2.out.drew.grown (grownRow wo.drew g _) (by have := HBD.out.lt; omega) (fun q e => by cases e; exact Nat.le_refl _))
        have hwk : IntKind.i64.wrap ((k : Int) + (mm : Int)) = (k : Int) + mm := IntWalk.i64_in _ (by omega)
        clear hel HB2
        go_upto_region 9 with fail
        refine wp_region_held_drew (S := fun _ => True) (by kernel_rfl) trivial (fun hHeld => ?_)
        (refine takeW (i := 0) (v := ?_) rfl (by kernel_rfl) (by kernel_rfl) (by kernel_rfl) (fun _ _ _ h => h) (by rfl) (by assumption) ?_ ?_; rotate_left; (intro W hW; (try dsimp only at hW); go_simp; try with_reducible rfl); (try simp only [Act.put, List.setIfInBounds_toArray, List.set_cons_zero, List.set_cons_succ]))
        (refine takeW (i := 1) (v := ?_) rfl (by kernel_rfl) (by kernel_rfl) (by kernel_rfl) (fun _ _ _ h => h) (by rfl) (by assumption) ?_ ?_; rotate_left; (intro W hW; (try dsimp only at hW); go_simp; try with_reducible rfl); (try simp only [Act.put, List.setIfInBounds_toArray, List.set_cons_zero, List.set_cons_succ]))
        (refine takeW (i := 2) (v := ?_) rfl (by kernel_rfl) (by kernel_rfl) (by kernel_rfl) (fun _ _ _ h => h) (by rfl) (by assumption) ?_ ?_; rotate_left; (intro W hW; (try dsimp only at hW); go_simp; try with_reducible rfl); (try simp only [Act.put, List.setIfInBounds_toArray, List.set_cons_zero, List.set_cons_succ]))
        (refine takeW (i := 3) rfl (by kernel_rfl) (by kernel_rfl) (by kernel_rfl) (fun _ _ _ h => h) (by rfl) (by assumption) (fun W hW => exec_slice rfl rfl rfl rfl (HS1.out _)) ?_; (try simp only [Act.put, List.setIfInBounds_toArray, List.set_cons_zero, List.set_cons_succ]))
        (refine takeW (i := 4) (v := ?_) rfl (by kernel_rfl) (by kernel_rfl) (by kernel_rfl) (fun _ _ _ h => h) (by rfl) (by assumption) ?_ ?_; rotate_left; (intro W hW; (try dsimp only at hW); go_simp; try with_reducible rfl); (try simp only [Act.put, List.setIfInBounds_toArray, List.set_cons_zero, List.set_cons_succ]))
        (refine takeW (i := 5) (v := ?_) rfl (by kernel_rfl) (by kernel_rfl) (by kernel_rfl) (fun _ _ _ h => h) (by rfl) (by assumption) ?_ ?_; rotate_left; (intro W hW; (try dsimp only at hW); go_simp; try with_reducible rfl); (try simp only [Act.put, List.setIfInBounds_toArray, List.set_cons_zero, List.set_cons_succ]))
        (refine takeW (i := 6) rfl (by kernel_rfl) (by kernel_rfl) (by kernel_rfl) (fun _ _ _ h => h) (by rfl) (by assumption) (fun W hW => exec_slice rfl rfl rfl rfl (HS2.out _)) ?_; (try simp only [Act.put, List.setIfInBounds_toArray, List.set_cons_zero, List.set_cons_succ]))
        refine takeV (i := 7) rfl (by kernel_rfl) (by rfl) (exec_fillI (v := v) rfl rfl rfl HBD.out HMM.out hkm HSR.out HV.out) (trivial) ?_
        (try simp only [Act.put, List.setIfInBounds_toArray, List.set_cons_zero, List.set_cons_succ])
        have hHeld : True := trivial
        (refine takeW (i := 8) (v := ?_) rfl (by kernel_rfl) (by kernel_rfl) (by kernel_rfl) (fun _ _ _ h => h) (by rfl) (by assumption) ?_ ?_; rotate_left; (intro W hW; (try dsimp only at hW); go_simp; try with_reducible rfl); (try simp only [Act.put, List.setIfInBounds_toArray, List.set_cons_zero, List.set_cons_succ]))
        (refine takeW (i := 9) (v := ?_) rfl (by kernel_rfl) (by kernel_rfl) (by kernel_rfl) (fun _ _ _ h => h) (by rfl) (by assumption) ?_ ?_; rotate_left; (intro W hW; (try dsimp only at hW); go_simp; try with_reducible rfl); (try simp only [Act.put, List.setIfInBounds_toArray, List.set_cons_zero, List.set_cons_succ]))
        refine wpAnyH_done (by kernel_rfl) ?_ _
        clear hHeld HS1 HS2 HSR HBD HBK0
        go_wp2
        go_roundw
        case rel => exact ⟨k + mm, by omega, hkm, by go_num, HBF.out, HBB.out⟩
        case measure => simp [intOf]; omega
      · have hkn : k = n := by omega
        subst hkn
        go_wp2
        exact HPO.out g _ HB2.out (Nat.le_refl _) HBK0.out
end Go.Proofs.YtkinhhkodaacjaaGreatDoor
