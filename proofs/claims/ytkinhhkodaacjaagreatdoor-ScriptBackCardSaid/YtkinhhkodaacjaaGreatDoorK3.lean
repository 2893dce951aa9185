/- The document's text of any script. -/
import Derived.Test.YtkinhhkodaacjaaGreatDoorK1
import Derived.Test.YtkinhhkodaacjaaGreatDoorK2
namespace Go.Proofs.YtkinhhkodaacjaaGreatDoor
open Go.RowKit Go.Shelf
open Md

theorem printS_len {w : World} {x : Sc} (h : Lns w x) : (printS x.k).length ≤ 2000000000 := by
  have h1 := pre_len (⟨h.good, h.fts, h.ups, h.lens, h.ops, h.fl⟩ : Prn w x)
  have h2 := flat_max opT 41000 (x.ops.map Ho.ok) (fun o ho => by
    obtain ⟨p, hp, rfl⟩ := List.mem_map.1 ho
    exact opT_len (w := w) ⟨h.good.opg p hp, h.ops.2 p hp⟩)
  have h3 := flat_max ftT 41000 (x.faults.map Fa.fk) (fun f hf => by
    obtain ⟨p, hp, rfl⟩ := List.mem_map.1 hf
    exact ftT_len (h.fts p hp))
  have h4 := h.ops.1
  have h5 := h.fl
  rw [List.length_map] at h2 h3
  have e : printS x.k = preT x.k 6 ++ ((x.ops.map Ho.ok).flatMap opT ++ (x.faults.map Fa.fk).flatMap ftT) := rfl
  rw [e, List.length_append, List.length_append]
  omega
theorem flat_take_le {α : Type} (f : α → List UInt8) (l : List α) (k : Nat) : ((l.take k).flatMap f).length ≤ (l.flatMap f).length := by
  conv => rhs; rw [← List.take_append_drop k l]
  rw [List.flatMap_append, List.length_append]
  omega
set_option maxRecDepth 100000 in
set_option maxHeartbeats 1600000 in
theorem rprint_any (x : Sc) (w : World) (h : Lns w x) : Calls Tryz.prog 10 #[.agg (encSc x).toArray] w fun e w' => e = .returned (strV (printS x.k)) ∧ Below w.heap.size w w' := by
  have HPO : Hid (∀ w' l, Below w.heap.size w w' → l = printS x.k → (fun e w' => e = Ending.returned (strV (printS x.k)) ∧ Below w.heap.size w w') (.returned (strV l)) w') := fun w' l h e => by subst e; exact ⟨rfl, h⟩
  generalize (fun e w' => e = Ending.returned (strV (printS x.k)) ∧ Below w.heap.size w w') = POST at *
  have HBX : Hid (SL x w (w.alloc (.cells (encSc x).toArray 27))) := SL.of (Blk.new' rfl) (below1 _ _)
  have HPL := Lib.hid (printS_len h)
  have HLL := Lib.hid (printS_lines x.k)
  have HCL : Hid (∀ W, Below w.heap.size w W → Calls Tryz.prog 31 #[.agg (encSc x).toArray] W fun e w' => (∃ v', e = .returned v' ∧ w'.ownsRow W.heap.size 9 1 v' (linesL x.k).length ((linesL x.k).map strV)) ∧ Below W.heap.size W w') := fun W hW => rlines_any x W ⟨h.good.below hW, h.fts, h.ups, h.lens, h.ops, h.fl⟩
  have HL6 : Hid (6 ≤ (linesL x.k).length ∧ (linesL x.k).length ≤ 100000) := by
    have h1 := h.ops.1
    have h2 := h.fl
    have h3 : x.k.ops.length = x.ops.length := List.length_map _
    have h4 : x.k.fts.length = x.faults.length := List.length_map _
    unfold linesL
    refine ⟨by simp, ?_⟩
    simp only [List.length_append, List.length_cons, List.length_nil, List.length_map, h3, h4]
    omega
  generalize linesL x.k = L at *
  clear h
  go_enter Tryz.func10, Tryz.ntmps10
  go_upto_region 1 with fail
  change Code.wp _ _ _ _ (w.alloc (.cells (encSc x).toArray 27))
  generalize w.alloc (.cells (encSc x).toArray 27) = W0 at *
  go_wp2_with (first | ((with_reducible show wpList _ _ _ (Oper.mk (some 6) _ _ _ _ _ :: _) _ _); refine wpList_loadW W27 rfl rfl (x := .tmp 1) rfl (encSc x) rfl (Blk.list HBX.out.s) ?_) | (go_at_call 31; refine (HCL.out W0 HBX.out.bel).mono ?_))
  rintro e W1 ⟨⟨v1, rfl, ho⟩, hb1⟩
  have HB1 := Lib.hid (HBX.out.bel.trans (hb1.mono HBX.out.bel.size))
  obtain ⟨g1, c1, rfl, hc1, hcm1, hg1, -, hcells⟩ := own_cellsV ho (by have := HL6.out.1; omega)
  have HCE : Hid (∀ (k : Nat) y, L[k]? = some y → W1.cell? ⟨g1, k, none⟩ = some (strV y)) := fun k y hk => hcells k _ (by rw [List.getElem?_map, hk]; rfl)
  have HGL : Hid (g1 < W1.heap.size) := hg1
  clear ho hb1 hcells hg1 HCL HBX
  obtain ⟨q, hq⟩ : ∃ q, q = L.length := ⟨_, rfl⟩
  have HQ := Lib.hid hq
  rw [← hq] at hc1 HL6 ⊢
  have hq5 : q ≤ 100000 := HL6.out.2
  have HTP : Hid (∀ k, ((L.take k).flatMap (· ++ [10])).length ≤ 2000000000) := fun k => Nat.le_trans (flat_take_le _ L k) (by rw [HLL.out]; exact HPL.out)
  clear hq
  go_wp2_with fail
  go_loopw [3, 5] (fun u i wr => ∃ (k : Nat) (acc : List UInt8), k ≤ q ∧ i = .int .i64 (k : Int) ∧ Hid (acc = (L.take k).flatMap (· ++ [10])) ∧ Hid (OwT wr W1.heap.size u acc) ∧ Hid (Below W1.heap.size W1 wr)) (fun _ i _ => q - (intOf i).toNat)
  case atStart => exact ⟨0, [], Nat.zero_le _, rfl, rfl, OwT.nil _ _, Below.refl _ _⟩
  case round =>
    obtain ⟨k, acc, hk, rfl, HA, HO, HW⟩ := hrel
    obtain ⟨wo, rfl⟩ : ∃ wo : World, wo = wr := ⟨_, rfl⟩
    obtain ⟨av, ac0, rfl⟩ := HO.out.shape
    by_cases hlt : k < q
    · obtain ⟨y, hy⟩ : ∃ y, L[k]? = some y := ⟨_, List.getElem?_eq_getElem (by rw [← HQ.out]; exact hlt)⟩
      have HC : Hid (wo.cell? ⟨g1, k, none⟩ = some (strV y)) := Lib.hid ((HW.out.cell HGL.out).trans (HCE.out k y hy))
      have HA2 : Hid ((acc ++ y) ++ [10] = (L.take (k + 1)).flatMap (· ++ [10])) := by
        show _ = _
        rw [take_snoc hy, List.flatMap_append, ← HA.out]
        simp
      have hlen : acc.length + y.length + 1 ≤ 2000000000 := by
        have := HTP.out (k + 1)
        rw [← HA2.out] at this
        simp only [List.length_append, List.length_cons, List.length_nil] at this
        omega
      have HSZ : Hid (W1.heap.size ≤ wo.heap.size) := HW.out.size
      clear hy
      go_wp2_with (first | ((with_reducible show wpList _ _ _ (Oper.mk (some 18) _ _ _ _ _ :: _) _ _); refine wpList_val rfl (exec_load1 (v := strV y) FL9 rfl rfl HC.out) ?_) | ((with_reducible show wpList _ _ _ (Oper.mk (some 19) _ _ _ _ _ :: _) _ _); refine wpList_ex rfl (exec_appT (y := y) rfl rfl rfl HO.out (by omega) HSZ.out) ?_; rintro v5 W5 ⟨ho5, hg5⟩; have HO5 := Lib.hid ho5; have HW5 := Lib.hid (HW.out.grown hg5 HSZ.out (fun k hk => (HO.out.lt k hk).1)); clear ho5 hg5) | ((with_reducible show wpList _ _ _ (Oper.mk (some 20) _ _ _ _ _ :: _) _ _); refine wpList_val rfl (exec_oneS (c := 10) exec_one1 rfl rfl) ?_) | ((with_reducible show wpList _ _ _ (Oper.mk (some 21) _ _ _ _ _ :: _) _ _); refine wpList_ex rfl (exec_appB (y := [10]) rfl rfl rfl rfl (HO5.out.below (below1 _ _)) (news_one _ _) (by simp; omega) (by have := HW5.out.size; simp at this ⊢; omega)) ?_; rintro v9 W9 ⟨ho9, hg9⟩; have HO9 := Lib.hid ho9; have HW9 := Lib.hid ((HW5.out.alloc HW5.out.size _).grown hg9 (by have := HW5.out.size; simp at this ⊢; omega) (fun k hk => ((HO5.out.below (below1 _ (.cells #[] 5))).lt k hk).1)); clear ho9 hg9))
      go_roundw
      case rel => exact ⟨k + 1, (acc ++ y) ++ [10], by omega, by go_num, HA2, HO9, HW9⟩
      case measure => simp [intOf]; omega
    · obtain rfl : k = q := by omega
      have HF : Hid (acc = printS x.k) := by
        have := HA.out
        rw [List.take_of_length_le (by rw [← HQ.out]; exact Nat.le_refl _), HLL.out] at this
        exact Lib.hid this
      have HBF := Lib.hid (HB1.out.trans (HW.out.mono HB1.out.size))
      clear HA
      go_wp2_with ((with_reducible show wpList _ _ _ (Oper.mk (some 23) _ _ _ _ _ :: _) _ _); refine wpList_val rfl (exec_ofB rfl rfl HO.out) ?_)
      exact HPO.out _ _ HBF.out HF.out
end Go.Proofs.YtkinhhkodaacjaaGreatDoor
