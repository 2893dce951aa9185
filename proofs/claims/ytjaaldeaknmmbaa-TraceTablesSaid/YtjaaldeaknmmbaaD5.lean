/- the document's rounds. -/
import Derived.Test.YtjaaldeaknmmbaaD4
import Derived.Test.YtjaaldeaknmmbaaS17
namespace Go.Proofs.Ytjaaldeaknmmbaa
open Go.RowKit Go.Shelf

def insI (r : Int) : List Int → List Int
  | [] => [r]
  | o :: L => if r < o then r :: o :: L else o :: insI r L
def stepP (r : Int) (p : List Int × Bool) (o : Int) : List Int × Bool := if p.2 then (p.1 ++ [o], true) else if r < o then (p.1 ++ [r, o], true) else (p.1 ++ [o], false)
def endP (r : Int) (p : List Int × Bool) : List Int := if p.2 then p.1 else p.1 ++ [r]
theorem foldP_true (r : Int) : ∀ (L acc : List Int), L.foldl (stepP r) (acc, true) = (acc ++ L, true)
  | [], acc => by simp
  | o :: L, acc => by simp [stepP, foldP_true r L]
theorem foldP_end (r : Int) : ∀ (L acc : List Int), endP r (L.foldl (stepP r) (acc, false)) = acc ++ insI r L
  | [], acc => by simp [endP, insI]
  | o :: L, acc => by
    by_cases h : r < o
    · simp [stepP, insI, h, foldP_true, endP]
    · simp [stepP, insI, h, foldP_end r L]
theorem insI_mem (r : Int) : ∀ (L : List Int) (x : Int), x ∈ insI r L ↔ x = r ∨ x ∈ L
  | [], x => by simp [insI]
  | o :: L, x => by
    unfold insI
    by_cases h : r < o
    · rw [if_pos h]; simp
    · rw [if_neg h]; simp [insI_mem r L]
      constructor
      · rintro (h | h | h)
        · exact .inr (.inl h)
        · exact .inl h
        · exact .inr (.inr h)
      · rintro (h | h | h)
        · exact .inr (.inl h)
        · exact .inl h
        · exact .inr (.inr h)
theorem insI_up (r : Int) : ∀ {L : List Int}, L.Pairwise (· < ·) → r ∉ L → (insI r L).Pairwise (· < ·)
  | [], _, _ => by simp [insI]
  | o :: L, h, hr => by
    rw [List.pairwise_cons] at h
    unfold insI
    by_cases hro : r < o
    · rw [if_pos hro, List.pairwise_cons, List.pairwise_cons]
      refine ⟨fun x hx => ?_, h⟩
      rcases List.mem_cons.1 hx with e | e
      · omega
      · have := h.1 x e; omega
    · rw [if_neg hro, List.pairwise_cons]
      refine ⟨fun x hx => ?_, insI_up r h.2 (fun e => hr (List.mem_cons_of_mem _ e))⟩
      rcases (insI_mem r L x).1 hx with e | e
      · have : r ≠ o := fun e => hr (by simp [e])
        omega
      · exact h.1 x e
theorem insI_len (r : Int) : ∀ L : List Int, (insI r L).length = L.length + 1
  | [] => rfl
  | o :: L => by
    unfold insI
    split
    · simp
    · simp [insI_len r L]
def UpTo (l : List Sn) (k : Nat) (R : List Int) : Prop := R.Pairwise (· < ·) ∧ (∀ r, R.contains r = (l.take k).any (fun x => x.r == r)) ∧ R.length ≤ k
theorem UpTo.skip {l : List Sn} {R : List Int} {k : Nat} {x : Sn} (h : UpTo l k R) (hx : l[k]? = some x) (hs : R.contains x.r = true) : UpTo l (k + 1) R := ⟨h.1, SeenR.skip h.2.1 hx hs, by have := h.2.2; omega⟩
theorem UpTo.add {l : List Sn} {R : List Int} {k : Nat} {x : Sn} (h : UpTo l k R) (hx : l[k]? = some x) (hs : R.contains x.r = false) : UpTo l (k + 1) (insI x.r R) := by
  refine ⟨insI_up _ h.1 (fun e => by rw [← List.contains_iff_mem, hs] at e; exact absurd e (by decide)), fun r => ?_, by rw [insI_len]; have := h.2.2; omega⟩
  rw [← SeenR.add h.2.1 hx r, Bool.eq_iff_iff, List.contains_iff_mem, List.contains_iff_mem, insI_mem, List.mem_cons]
theorem below_drewN {B : Nat} {a w : World} (h : Below B a w) (q : Nat) : Below B a (w.drewN q) := ⟨h.os, h.tape, h.output, h.size, h.block⟩

set_option maxRecDepth 100000 in
set_option maxHeartbeats 3200000 in
theorem rrounds_any (l : List Sn) (lv : Value) (w : World) (h : Snaps w lv l) (hl : l.length ≤ 300) : Calls Try.prog 42 #[lv] w (RoundsPost l w) := by
  have HPO : Hid (∀ v R w', Below w.heap.size w w' → Ns w' v R → UpTo l l.length R → RoundsPost l w (.returned v) w') := fun v R w' hb hr hu =>
    ⟨⟨v, R, rfl, hr, ⟨hu.1, fun r => by
      have := hu.2.1 r
      rw [List.take_length] at this
      rw [← List.contains_iff_mem, this, List.any_eq_true]
      constructor
      · rintro ⟨x, hx, hr⟩; exact ⟨x, hx, by simpa using hr⟩
      · rintro ⟨x, hx, hr⟩; exact ⟨x, hx, by simpa using hr⟩⟩, hu.2.2⟩, hb⟩
  have HS := Lib.hid h
  obtain ⟨a, c, rfl, q1, q2, q3⟩ := h.shape
  have HB0 : Hid (Below w.heap.size w w) := Below.refl _ _
  have HR0 : Hid (Ns w (.slice none 0 0) []) := Rd.nil w
  clear h
  generalize RoundsPost l w = POST at *
  generalize hnn : l.length = n at *
  have HN := Lib.hid hnn
  clear hnn
  go_enter Try.func42, Try.ntmps42
  go_wp2
  go_loopw [3, 4] (fun vo i wr => ∃ (k : Nat) (R : List Int), k ≤ n ∧ i = .int .i64 k ∧ Hid (Ns wr vo R) ∧ Hid (UpTo l k R) ∧ Hid (Below w.heap.size w wr)) (fun _ i _ => n - (intOf i).toNat)
  case atStart => exact ⟨0, [], Nat.zero_le _, rfl, HR0, ⟨List.Pairwise.nil, fun r => rfl, Nat.zero_le _⟩, HB0⟩
  case round =>
    clear HR0 HB0
    obtain ⟨k, R, hk, rfl, HR, HU, HW⟩ := hrel
    obtain ⟨vo, rfl⟩ : ∃ v, v = u3 := ⟨_, rfl⟩
    obtain ⟨wo, rfl⟩ : ∃ wo : World, wo = wr := ⟨_, rfl⟩
    by_cases hlt : k < n
    · obtain ⟨x, hs⟩ : ∃ x, l[k]? = some x := ⟨_, List.getElem?_eq_getElem (by rw [HN.out]; exact hlt)⟩
      obtain ⟨b, off, rfl, hbl, hc⟩ := (HS.out.below HW.out).row (by rintro rfl; simp at hs)
      have cx := sn_r hc hs
      have HCX := Lib.hid cx
      have HSX := Lib.hid hs
      have HBL := Lib.hid hbl
      have hrin := rin_any x.r vo R wo HR.out
      have HRIN := Lib.hid hrin
      clear hc hs hrin hbl
      cases hcn : R.contains x.r with
      | true =>
        have HU2 := Lib.hid (HU.out.skip HSX.out hcn)
        rw [hcn] at HRIN
        clear hcn
        go_wp2_with (go_at_call 48; refine HRIN.out.mono ?_; rintro e w2 ⟨rfl, hw⟩; rw [hw]; clear hw)
        go_roundw
        case rel => exact ⟨k + 1, R, by omega, by go_num, HR, HU2, HW⟩
        case measure => simp [intOf]; omega
      | false =>
        have HU2 := Lib.hid (HU.out.add HSX.out hcn)
        rw [hcn] at HRIN
        clear hcn
        have HRM : Hid (R.length ≤ 300) := by have := HU.out.2.2; show _ ≤ _; omega
        obtain ⟨m, hm⟩ : ∃ m, R.length = m := ⟨_, rfl⟩
        obtain ⟨a2, c2, hsv, r1, r2, r3⟩ := HR.out.shape
        rw [hm] at hsv r1
        have HM := Lib.hid hm
        have hm300 : m ≤ 300 := by rw [← hm]; exact HRM.out
        subst hsv
        clear hm
        have HB0 : Hid (Below wo.heap.size wo wo) := Below.refl _ _
        have HO0 : Hid (wo.ownsRow wo.heap.size 3 1 (.slice none 0 0) 0 []) := World.ownsRow_nil _ _ _ _
        go_wp2_with (go_at_call 48; refine HRIN.out.mono ?_; rintro e w2 ⟨rfl, hw⟩; rw [hw]; clear hw)
        clear cx HRIN
        go_loopw [5, 6, 7] (fun v5 d j wi => ∃ (jj : Nat) (acc : List Int) (dd : Bool), jj ≤ m ∧ j = .int .i64 jj ∧ d = .bool dd ∧ Hid (wi.ownsRow wo.heap.size 3 1 v5 acc.length (acc.map (Value.int .i64))) ∧ Hid ((R.take jj).foldl (stepP x.r) ([], false) = (acc, dd) ∧ acc.length ≤ 2 * jj) ∧ Hid (Below wo.heap.size wo wi)) (fun _ _ j _ => m - (intOf j).toNat)
        case atStart => exact ⟨0, [], false, Nat.zero_le _, rfl, rfl, HO0, ⟨rfl, by simp⟩, HB0⟩
        case round =>
          clear HO0 HB0
          obtain ⟨jj, acc, dd, hj, rfl, rfl, HO, HF, HWI⟩ := hrel
          obtain ⟨wi, rfl⟩ : ∃ wi : World, wi = wr := ⟨_, rfl⟩
          obtain ⟨v5, rfl⟩ : ∃ v, v = u5 := ⟨_, rfl⟩
          have cx : wi.cell? ⟨b, off + k * 23, none⟩ = some (.int .i64 x.r) := by rw [HWI.out.cell HBL.out]; exact HCX.out
          have HAL : Hid (acc.length ≤ 600) := by have := HF.out.2; show _ ≤ _; omega
          by_cases hjl : jj < m
          · obtain ⟨o, ho⟩ : ∃ o, R[jj]? = some o := ⟨_, List.getElem?_eq_getElem (by rw [HM.out]; exact hjl)⟩
            obtain ⟨b2, off2, rfl, hb2, hc2⟩ := HR.out.row (by rintro rfl; simp at ho)
            have HB2L := Lib.hid hb2
            have HCO : Hid (wo.cell? ⟨b2, off2 + jj, none⟩ = some (.int .i64 o)) := CellsAt.one (f := Value.int .i64) hc2 ho
            have co : wi.cell? ⟨b2, off2 + jj, none⟩ = some (.int .i64 o) := by rw [HWI.out.cell HB2L.out]; exact HCO.out
            have HTK : Hid ((R.take (jj + 1)).foldl (stepP x.r) ([], false) = stepP x.r (acc, dd) o) := by
              show _ = _
              rw [take_snoc ho, List.foldl_append, HF.out.1]
              rfl
            clear hc2 ho hb2
            have hq := fun q => below_drewN HWI.out q
            have HQ := Lib.hid hq
            clear hq
            cases dd with
            | true =>
              have HF2 : Hid ((R.take (jj + 1)).foldl (stepP x.r) ([], false) = (acc ++ [o], true) ∧ (acc ++ [o]).length ≤ 2 * (jj + 1)) := ⟨HTK.out, by have := HF.out.2; simp; omega⟩
              have HMP : Hid (acc.map (Value.int .i64) ++ [Value.int .i64 o] = (acc ++ [o]).map (Value.int .i64)) := by show _ = _; simp
              go_upto_region 11 with fail
              go_quiet (fail)
              generalize hW1 : World.drewN _ _ = W1 at *
              have HB1 : Hid (Below wo.heap.size wo W1) := Lib.hid (by rw [← hW1]; exact HQ.out _)
              have HO1 : Hid (W1.ownsRow wo.heap.size 3 1 v5 acc.length (acc.map (Value.int .i64))) := Lib.hid (by rw [← hW1]; exact HO.out)
              have cx1 : W1.cell? ⟨b, off + k * 23, none⟩ = some (.int .i64 x.r) := by rw [HB1.out.cell HBL.out]; exact HCX.out
              have co1 : W1.cell? ⟨b2, off2 + jj, none⟩ = some (.int .i64 o) := by rw [HB1.out.cell HB2L.out]; exact HCO.out
              clear hW1 cx co HQ
              go_wp2_with ((with_reducible show wpList _ _ _ (Oper.mk (some 55) _ _ _ _ _ :: _) _ _); refine wpList_app E23 rfl _ _ rfl (HO1.out.alloc _) (Src.new rfl) rfl rfl (by have := HAL.out; omega) (by have := HB1.out.size; simp; omega) ?_; go_must (intro vW2 W2 hown hgrow _; have HO2 : Hid (W2.ownsRow wo.heap.size 3 1 vW2 (acc.length + 1) _) := Lib.hid hown; have HB2 : Hid (Below wo.heap.size wo W2) := Lib.hid (below_app (HB1.out.alloc HB1.out.size _) (Nat.le_refl _) (HO1.out.alloc _) hgrow (by have := HB1.out.size; simp; omega)); clear hown hgrow))
              go_roundw
              case rel =>
                refine ⟨jj + 1, acc ++ [o], true, by omega, by go_num, rfl, ?_, HF2, HB2⟩
                have := HO2.out
                rw [HMP.out] at this
                show World.ownsRow _ _ _ _ _ _ _
                rw [List.length_append]
                exact this
              case measure => simp [intOf]; omega
            | false =>
              by_cases hro : x.r < o
              · have HF2 : Hid ((R.take (jj + 1)).foldl (stepP x.r) ([], false) = (acc ++ [x.r, o], true) ∧ (acc ++ [x.r, o]).length ≤ 2 * (jj + 1)) := ⟨by rw [HTK.out]; simp [stepP, hro], by have := HF.out.2; simp; omega⟩
                have HMP : Hid (acc.map (Value.int .i64) ++ [Value.int .i64 x.r] ++ [Value.int .i64 o] = (acc ++ [x.r, o]).map (Value.int .i64)) := by show _ = _; simp
                go_upto_region 11 with fail
                go_quiet (fail)
                generalize hW1 : World.drewN _ _ = W1 at *
                have HB1 : Hid (Below wo.heap.size wo W1) := Lib.hid (by rw [← hW1]; exact HQ.out _)
                have HO1 : Hid (W1.ownsRow wo.heap.size 3 1 v5 acc.length (acc.map (Value.int .i64))) := Lib.hid (by rw [← hW1]; exact HO.out)
                have cx1 : W1.cell? ⟨b, off + k * 23, none⟩ = some (.int .i64 x.r) := by rw [HB1.out.cell HBL.out]; exact HCX.out
                have co1 : W1.cell? ⟨b2, off2 + jj, none⟩ = some (.int .i64 o) := by rw [HB1.out.cell HB2L.out]; exact HCO.out
                clear hW1 cx co HQ
                go_wp2_with (first
                  | ((with_reducible show wpList _ _ _ (Oper.mk (some 48) _ _ _ _ _ :: _) _ _); refine wpList_app E23 rfl _ _ rfl (HO1.out.alloc _) (Src.new rfl) rfl rfl (by have := HAL.out; omega) (by have := HB1.out.size; simp; omega) ?_; go_must (intro vW2 W2 hown hgrow _; have HO2 : Hid (W2.ownsRow wo.heap.size 3 1 vW2 (acc.length + 1) _) := Lib.hid hown; have HB2 : Hid (Below wo.heap.size wo W2) := Lib.hid (below_app (HB1.out.alloc HB1.out.size _) (Nat.le_refl _) (HO1.out.alloc _) hgrow (by have := HB1.out.size; simp; omega)); clear hown hgrow; have co2 : W2.cell? ⟨b2, off2 + jj, none⟩ = some (.int .i64 o) := (by rw [HB2.out.cell HB2L.out]; exact HCO.out); clear co1 cx1))
                  | ((with_reducible show wpList _ _ _ (Oper.mk (some 55) _ _ _ _ _ :: _) _ _); refine wpList_app E23 rfl _ _ rfl (HO2.out.alloc _) (Src.new rfl) rfl rfl (by have := HAL.out; omega) (by have := HB2.out.size; simp; omega) ?_; go_must (intro vW3 W3 hown hgrow _; have HO3 : Hid (W3.ownsRow wo.heap.size 3 1 vW3 (acc.length + 1 + 1) _) := Lib.hid hown; have HB3 : Hid (Below wo.heap.size wo W3) := Lib.hid (below_app (HB2.out.alloc HB2.out.size _) (Nat.le_refl _) (HO2.out.alloc _) hgrow (by have := HB2.out.size; simp; omega)); clear hown hgrow)))
                go_roundw
                case rel =>
                  refine ⟨jj + 1, acc ++ [x.r, o], true, by omega, by go_num, rfl, ?_, HF2, HB3⟩
                  have := HO3.out
                  rw [HMP.out] at this
                  show World.ownsRow _ _ _ _ _ _ _
                  rw [List.length_append]
                  exact this
                case measure => simp [intOf]; omega
              · have HF2 : Hid ((R.take (jj + 1)).foldl (stepP x.r) ([], false) = (acc ++ [o], false) ∧ (acc ++ [o]).length ≤ 2 * (jj + 1)) := ⟨by rw [HTK.out]; simp [stepP, hro], by have := HF.out.2; simp; omega⟩
                have HMP : Hid (acc.map (Value.int .i64) ++ [Value.int .i64 o] = (acc ++ [o]).map (Value.int .i64)) := by show _ = _; simp
                go_upto_region 11 with fail
                go_quiet (fail)
                generalize hW1 : World.drewN _ _ = W1 at *
                have HB1 : Hid (Below wo.heap.size wo W1) := Lib.hid (by rw [← hW1]; exact HQ.out _)
                have HO1 : Hid (W1.ownsRow wo.heap.size 3 1 v5 acc.length (acc.map (Value.int .i64))) := Lib.hid (by rw [← hW1]; exact HO.out)
                have cx1 : W1.cell? ⟨b, off + k * 23, none⟩ = some (.int .i64 x.r) := by rw [HB1.out.cell HBL.out]; exact HCX.out
                have co1 : W1.cell? ⟨b2, off2 + jj, none⟩ = some (.int .i64 o) := by rw [HB1.out.cell HB2L.out]; exact HCO.out
                clear hW1 cx co HQ
                go_wp2_with ((with_reducible show wpList _ _ _ (Oper.mk (some 55) _ _ _ _ _ :: _) _ _); refine wpList_app E23 rfl _ _ rfl (HO1.out.alloc _) (Src.new rfl) rfl rfl (by have := HAL.out; omega) (by have := HB1.out.size; simp; omega) ?_; go_must (intro vW2 W2 hown hgrow _; have HO2 : Hid (W2.ownsRow wo.heap.size 3 1 vW2 (acc.length + 1) _) := Lib.hid hown; have HB2 : Hid (Below wo.heap.size wo W2) := Lib.hid (below_app (HB1.out.alloc HB1.out.size _) (Nat.le_refl _) (HO1.out.alloc _) hgrow (by have := HB1.out.size; simp; omega)); clear hown hgrow))
                go_roundw
                case rel =>
                  refine ⟨jj + 1, acc ++ [o], false, by omega, by go_num, rfl, ?_, HF2, HB2⟩
                  have := HO2.out
                  rw [HMP.out] at this
                  show World.ownsRow _ _ _ _ _ _ _
                  rw [List.length_append]
                  exact this
                case measure => simp [intOf]; omega
          · have hjm : jj = m := by omega
            subst hjm
            have HEND : Hid (endP x.r (acc, dd) = insI x.r R) := by
              have h1 := HF.out.1
              rw [List.take_of_length_le (by rw [HM.out]; exact Nat.le_refl _)] at h1
              have h2 := foldP_end x.r R []
              rw [h1] at h2
              exact h2
            cases dd with
            | true =>
              have HEQ : Hid (acc = insI x.r R) := HEND.out
              clear cx
              go_wp2
              go_roundw
              case rel =>
                refine ⟨k + 1, insI x.r R, by omega, by go_num, ?_, HU2, HW.out.trans (HWI.out.mono HW.out.size)⟩
                rw [← HEQ.out]
                exact Rd.of_owns (e := 3) (base := wo.heap.size) (encI_len .i64) (by rw [encI_flat]; exact HO.out) (by have := HAL.out; omega)
              case measure => simp [intOf]; omega
            | false =>
              have HEQ : Hid (acc ++ [x.r] = insI x.r R) := HEND.out
              go_wp2_with ((with_reducible show wpList _ _ _ (Oper.mk (some 65) _ _ _ _ _ :: _) _ _); refine wpList_app E23 rfl _ _ rfl (HO.out.alloc _) (Src.new rfl) rfl rfl (by have := HAL.out; omega) (by have := HWI.out.size; simp; omega) ?_; go_must (intro vW2 W2 hown hgrow _; have HO2 : Hid (W2.ownsRow wo.heap.size 3 1 vW2 (acc.length + 1) _) := Lib.hid hown; have HB2 : Hid (Below wo.heap.size wo W2) := Lib.hid (below_app (HWI.out.alloc HWI.out.size _) (Nat.le_refl _) (HO.out.alloc _) hgrow (by have := HWI.out.size; simp; omega)); clear hown hgrow))
              go_roundw
              case rel =>
                refine ⟨k + 1, insI x.r R, by omega, by go_num, ?_, HU2, HW.out.trans (HB2.out.mono HW.out.size)⟩
                rw [← HEQ.out]
                exact Rd.of_owns (e := 3) (base := wo.heap.size) (encI_len .i64) (by rw [encI_flat, List.map_append, List.length_append]; exact HO2.out) (by have := HAL.out; simp; omega)
              case measure => simp [intOf]; omega
    · have hkn : k = n := by omega
      subst hkn
      have HUE : Hid (UpTo l k R) := HU
      go_wp2
      exact HPO.out _ R _ HW.out HR.out HU.out
end Go.Proofs.Ytjaaldeaknmmbaa
