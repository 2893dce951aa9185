/- slices.Equal at faults; few. -/
import Derived.Test.YtmflnbdajaiahaaF6
namespace Go.Proofs.Ytmflnbdajaiahaa
open Go.RowKit Go.Shelf

set_option maxRecDepth 100000 in
set_option maxHeartbeats 1600000 in
theorem equal_any (v u : Value) (l m : List Fa) (w : World) (hv : Rd encF 7 w v l) (hu : Rd encF 7 w u m) :
    Calls Try.prog 16 #[v, u] w fun e w' => e = .returned (.bool (decide (l = m))) ∧ Below w.heap.size w w' := by
  have HP : Hid (∀ b w', (b = true ↔ l = m) → Below w.heap.size w w' → (fun e w' => e = Ending.returned (.bool (decide (l = m))) ∧ Below w.heap.size w w') (.returned (.bool b)) w') := fun b w' hb h => ⟨by rw [show decide (l = m) = b from by cases b <;> simp_all], h⟩
  generalize (fun e w' => e = Ending.returned (.bool (decide (l = m))) ∧ Below w.heap.size w w') = R at *
  have HV := Lib.hid hv
  have HU := Lib.hid hu
  obtain ⟨a, cap, rfl, hcap, hcm, hlen⟩ := hv.shape
  obtain ⟨a2, cap2, rfl, hcap2, hcm2, hlen2⟩ := hu.shape
  clear hv hu
  by_cases hne : l.length = m.length
  · obtain ⟨n, hn⟩ : ∃ n, n = l.length := ⟨_, rfl⟩
    rw [← hne] at hcap2 HU
    rw [← hne]
    rw [← hn] at hcap hcap2 hlen HV HU
    rw [← hn]
    have HN := Lib.hid hn
    have HM := Lib.hid hne
    have hnn : ((n : Int) == (n : Int)) = true := by simp
    clear hn hne hlen2
    go_enter Try.func16, Try.ntmps16
    go_wp2_with fail
    go_loopw [13] (fun i wr => ∃ k : Nat, k ≤ n ∧ i = .int .i64 k ∧ Hid (l.take k = m.take k) ∧ Hid (Below w.heap.size w wr)) (fun i _ => n - (intOf i).toNat)
    case atStart => exact ⟨0, by omega, rfl, rfl, Below.refl _ _⟩
    case round =>
      obtain ⟨k, hk, rfl, HT, HW⟩ := hrel
      obtain ⟨W1, rfl⟩ : ∃ W1 : World, W1 = wr := ⟨_, rfl⟩
      by_cases hlt : k < n
      · obtain ⟨x, hx⟩ : ∃ x, l[k]? = some x := ⟨_, List.getElem?_eq_getElem (by have := HN.out; omega)⟩
        obtain ⟨y, hy⟩ : ∃ y, m[k]? = some y := ⟨_, List.getElem?_eq_getElem (by have := HN.out; have := HM.out; omega)⟩
        obtain ⟨bl, ol, rfl, hbl, hc⟩ := (HV.out.below HW.out).row (by rintro rfl; simp at hx)
        obtain ⟨bm, om, rfl, hbm, hd⟩ := (HU.out.below HW.out).row (by rintro rfl; simp at hy)
        have hS : Hid (∀ j u, (encF x)[j]? = some u → W1.drew.cell? ⟨bl, ol + k * 7 + j, none⟩ = some u) ∧ Hid (∀ j u, (encF y)[j]? = some u → W1.drew.cell? ⟨bm, om + k * 7 + j, none⟩ = some u) := ⟨hc k x hx, hd k y hy⟩
        have HTX := Lib.hid (take_snoc hx)
        have HTY := Lib.hid (take_snoc hy)
        have HXY : Hid (l = m → x = y) := fun e => by subst e; rw [hx] at hy; simpa using hy
        have hlt2 : (k : Int) < (n : Int) := by omega
        clear hx hy hc hd
        go_upto_region 6 with fail
        refine wp_region_held_drew (S := fun X => Hid (∀ j u, (encF x)[j]? = some u → X.cell? ⟨bl, ol + k * 7 + j, none⟩ = some u) ∧ Hid (∀ j u, (encF y)[j]? = some u → X.cell? ⟨bm, om + k * 7 + j, none⟩ = some u)) (by kernel_rfl) hS (fun hHeld => ?_)
        (refine takeW (i := 0) (v := ?_) rfl (by kernel_rfl) (by kernel_rfl) (by kernel_rfl) (fun _ _ _ h => h) (by rfl) (by assumption) ?_ ?_; rotate_left; (intro W hW; (try dsimp only at hW); go_simp; try with_reducible rfl); (try simp only [Act.put, List.setIfInBounds_toArray, List.set_cons_zero, List.set_cons_succ]))
        (refine takeW (i := 1) (v := ?_) rfl (by kernel_rfl) (by kernel_rfl) (by kernel_rfl) (fun _ _ _ h => h) (by rfl) (by assumption) ?_ ?_; rotate_left; (intro W hW; (try dsimp only at hW); go_simp; try with_reducible rfl); (try simp only [Act.put, List.setIfInBounds_toArray, List.set_cons_zero, List.set_cons_succ]))
        (refine takeW (i := 2) (v := ?_) rfl (by kernel_rfl) (by kernel_rfl) (by kernel_rfl) (fun _ _ _ h => h) (by rfl) (by assumption) ?_ ?_; rotate_left; (intro W hW; (try dsimp only at hW); go_simp; try with_reducible rfl); (try simp only [Act.put, List.setIfInBounds_toArray, List.set_cons_zero, List.set_cons_succ]))
        (refine takeW (i := 3) rfl (by kernel_rfl) (by kernel_rfl) (by kernel_rfl) (fun _ _ _ h => h) (by rfl) (by assumption) (fun W hW => exec_loadW W33 rfl rfl (cs := encF x) rfl hW.1.out) ?_; (try simp only [Act.put, List.setIfInBounds_toArray, List.set_cons_zero, List.set_cons_succ]))
        (refine takeW (i := 4) (v := ?_) rfl (by kernel_rfl) (by kernel_rfl) (by kernel_rfl) (fun _ _ _ h => h) (by rfl) (by assumption) ?_ ?_; rotate_left; (intro W hW; (try dsimp only at hW); go_simp; try with_reducible rfl); (try simp only [Act.put, List.setIfInBounds_toArray, List.set_cons_zero, List.set_cons_succ]))
        (refine takeW (i := 5) (v := ?_) rfl (by kernel_rfl) (by kernel_rfl) (by kernel_rfl) (fun _ _ _ h => h) (by rfl) (by assumption) ?_ ?_; rotate_left; (intro W hW; (try dsimp only at hW); go_simp; try with_reducible rfl); (try simp only [Act.put, List.setIfInBounds_toArray, List.set_cons_zero, List.set_cons_succ]))
        (refine takeW (i := 6) (v := ?_) rfl (by kernel_rfl) (by kernel_rfl) (by kernel_rfl) (fun _ _ _ h => h) (by rfl) (by assumption) ?_ ?_; rotate_left; (intro W hW; (try dsimp only at hW); go_simp; try with_reducible rfl); (try simp only [Act.put, List.setIfInBounds_toArray, List.set_cons_zero, List.set_cons_succ]))
        (refine takeW (i := 7) rfl (by kernel_rfl) (by kernel_rfl) (by kernel_rfl) (fun _ _ _ h => h) (by rfl) (by assumption) (fun W hW => exec_loadW W33 rfl rfl (cs := encF y) rfl hW.2.out) ?_; (try simp only [Act.put, List.setIfInBounds_toArray, List.set_cons_zero, List.set_cons_succ]))
        (refine takeW (i := 8) rfl (by kernel_rfl) (by kernel_rfl) (by kernel_rfl) (fun _ _ _ h => h) (by rfl) (by assumption) (fun W hW => exec_neF (u := x) (v := y) rfl rfl rfl) ?_; (try simp only [Act.put, List.setIfInBounds_toArray, List.set_cons_zero, List.set_cons_succ]))
        refine wpAnyH_done (by kernel_rfl) ?_ _
        clear hHeld
        by_cases hxy : x = y
        · rw [show (!decide (x = y)) = false by simp [hxy]]
          have HT2 : Hid (l.take (k + 1) = m.take (k + 1)) := by show _ = _; rw [HTX.out, HTY.out, HT.out, hxy]
          clear hxy
          go_wp2
          go_roundw
          case rel => exact ⟨k + 1, by omega, by go_num, HT2, HW.out.drew⟩
          case measure => simp [intOf]; omega
        · rw [show (!decide (x = y)) = true by simp [hxy]]
          have HNE : Hid (l ≠ m) := fun e => hxy (HXY.out e)
          clear hxy
          go_wp2
          exact HP.out _ _ ⟨fun h => (by cases h), fun h => absurd h HNE.out⟩ HW.out.drew
      · obtain rfl : n = k := by omega
        have HE : Hid (l = m) := by
          have h := HT.out
          rw [List.take_of_length_le (by have := HN.out; omega), List.take_of_length_le (by have := HN.out; have := HM.out; omega)] at h
          exact h
        clear hlt hk HT
        go_wp2
        exact HP.out _ _ ⟨fun _ => HE.out, fun _ => rfl⟩ HW.out
  · have hd : ((l.length : Int) == (m.length : Int)) = false := by simp; omega
    have HE : Hid (l ≠ m) := fun e => hne (by rw [e])
    clear hne
    generalize l.length = n1 at *
    generalize m.length = n2 at *
    go_enter Try.func16, Try.ntmps16
    go_wp2
    exact HP.out _ _ ⟨fun h => (by cases h), fun h => absurd h HE.out⟩ (Below.refl _ _)

theorem few_any (v : Value) (l : List Fa) (w : World) (h : Rd encF 7 w v l) : Calls Try.prog 6 #[v] w fun e w' => (∃ v', e = .returned v' ∧ Rd encF 7 w v' (l.take 60)) ∧ w = w' := by
  have HR := Lib.hid h
  obtain ⟨a, cap, rfl, hcap, hcm, hlen⟩ := h.shape
  clear h
  have hMM : ∃ M : Nat, imin (l.length : Int) 60 = M := ⟨(imin (l.length : Int) 60).toNat, by have := imin_le (l.length : Int) 60; omega⟩
  obtain ⟨M, hM⟩ := hMM
  have hMb := imin_le (l.length : Int) 60
  rw [hM] at hMb
  have hM1 : M ≤ l.length := by omega
  have hM2 : M ≤ cap := by omega
  have HMI := Lib.hid hM
  have HT : Hid (l.take 60 = l.take M) := by
    show _ = _
    by_cases h2 : 60 ≤ l.length
    · have : M = 60 := by omega
      rw [this]
    · have : M = l.length := by omega
      rw [List.take_of_length_le (by omega), List.take_of_length_le (by omega)]
  clear hM hMb
  go_enter Try.func6, Try.ntmps6
  go_wp2_with ((with_reducible show wpList _ _ _ (Oper.mk (some 6) _ _ _ _ _ :: _) _ _); refine wpList_min rfl rfl rfl rfl ?_; go_must (rw [HMI.out]))
  go_ret
  refine ⟨⟨_, rfl, ?_⟩, rfl⟩
  rw [HT.out]
  exact HR.out.take M hM1
end Go.Proofs.Ytmflnbdajaiahaa
