/- slices.Equal at events; All; what is told of it; Peek. -/
import Derived.Test.YtbmnecdkjkffdaaG2
namespace Go.Proofs.Ytbmnecdkjkffdaa
open Go.RowKit Go.Shelf

set_option maxRecDepth 100000 in
set_option maxHeartbeats 1600000 in
theorem equal_any (v u : Value) (l m : List Ev) (w : World) (hv : Rd encE 4 w v l) (hu : Rd encE 4 w u m) :
    Calls Try.prog 14 #[v, u] w fun e w' => e = .returned (.bool (decide (l = m))) ∧ Below w.heap.size w w' := by
  have HP : Hid (∀ b w', (b = true ↔ l = m) → Below w.heap.size w w' → (fun e w' => e = Ending.returned (.bool (decide (l = m))) ∧ Below w.heap.size w w') (.returned (.bool b)) w') := fun b w' hb h => ⟨by rw [show decide (l = m) = b from by cases b <;> simp_all], h⟩
  generalize (fun e w' => e = Ending.returned (.bool (decide (l = m))) ∧ Below w.heap.size w w') = R at *
  have HV := Lib.hid hv
  have HU := Lib.hid hu
  obtain ⟨a, cap, rfl, hcap, hcm, hlen⟩ := hv.shape
  obtain ⟨a2, cap2, rfl, hcap2, hcm2, hlen2⟩ := hu.shape
  clear hv hu
  by_cases hne : l.length = m.length
  · obtain ⟨n, hn⟩ : ∃ n, n = l.length := ⟨_, rfl⟩
    rw [← hne] at hcap2 HU
    rw [← hne]
    rw [← hn] at hcap hcap2 hlen HV HU
    rw [← hn]
    have HN := Lib.hid hn
    have HM := Lib.hid hne
    have hnn : ((n : Int) == (n : Int)) = true := by simp
    clear hn hne hlen2
    go_enter Try.func14, Try.ntmps14
    go_wp2_with fail
    go_loopw [13] (fun i wr => ∃ k : Nat, k ≤ n ∧ i = .int .i64 k ∧ Hid (l.take k = m.take k) ∧ Hid (Below w.heap.size w wr)) (fun i _ => n - (intOf i).toNat)
    case atStart => exact ⟨0, by omega, rfl, rfl, Below.refl _ _⟩
    case round =>
      obtain ⟨k, hk, rfl, HT, HW⟩ := hrel
      obtain ⟨W1, rfl⟩ : ∃ W1 : World, W1 = wr := ⟨_, rfl⟩
      by_cases hlt : k < n
      · obtain ⟨x, hx⟩ : ∃ x, l[k]? = some x := ⟨_, List.getElem?_eq_getElem (by have := HN.out; omega)⟩
        obtain ⟨y, hy⟩ : ∃ y, m[k]? = some y := ⟨_, List.getElem?_eq_getElem (by have := HN.out; have := HM.out; omega)⟩
        obtain ⟨bl, ol, rfl, hbl, hc⟩ := (HV.out.below HW.out).row (by rintro rfl; simp at hx)
        obtain ⟨bm, om, rfl, hbm, hd⟩ := (HU.out.below HW.out).row (by rintro rfl; simp at hy)
        have hS : Hid (∀ j u, (encE x)[j]? = some u → W1.drew.cell? ⟨bl, ol + k * 4 + j, none⟩ = some u) ∧ Hid (∀ j u, (encE y)[j]? = some u → W1.drew.cell? ⟨bm, om + k * 4 + j, none⟩ = some u) := ⟨hc k x hx, hd k y hy⟩
        have HTX := Lib.hid (take_snoc hx)
        have HTY := Lib.hid (take_snoc hy)
        have HXY : Hid (l = m → x = y) := fun e => by subst e; rw [hx] at hy; simpa using hy
        have hlt2 : (k : Int) < (n : Int) := by omega
        clear hx hy hc hd
        go_upto_region 6 with fail
        refine wp_region_held_drew (S := fun X => Hid (∀ j u, (encE x)[j]? = some u → X.cell? ⟨bl, ol + k * 4 + j, none⟩ = some u) ∧ Hid (∀ j u, (encE y)[j]? = some u → X.cell? ⟨bm, om + k * 4 + j, none⟩ = some u)) (by kernel_rfl) hS (fun hHeld => ?_)
        (refine takeW (i := 0) (v := ?_) rfl (by kernel_rfl) (by kernel_rfl) (by kernel_rfl) (fun _ _ _ h => h) (by rfl) (by assumption) ?_ ?_; rotate_left; (intro W hW; (try dsimp only at hW); go_simp; try with_reducible rfl); (try simp only [Act.put, List.setIfInBounds_toArray, List.set_cons_zero, List.set_cons_succ]))
        (refine takeW (i := 1) (v := ?_) rfl (by kernel_rfl) (by kernel_rfl) (by kernel_rfl) (fun _ _ _ h => h) (by rfl) (by assumption) ?_ ?_; rotate_left; (intro W hW; (try dsimp only at hW); go_simp; try with_reducible rfl); (try simp only [Act.put, List.setIfInBounds_toArray, List.set_cons_zero, List.set_cons_succ]))
        (refine takeW (i := 2) (v := ?_) rfl (by kernel_rfl) (by kernel_rfl) (by kernel_rfl) (fun _ _ _ h => h) (by rfl) (by assumption) ?_ ?_; rotate_left; (intro W hW; (try dsimp only at hW); go_simp; try with_reducible rfl); (try simp only [Act.put, List.setIfInBounds_toArray, List.set_cons_zero, List.set_cons_succ]))
        (refine takeW (i := 3) rfl (by kernel_rfl) (by kernel_rfl) (by kernel_rfl) (fun _ _ _ h => h) (by rfl) (by assumption) (fun W hW => exec_loadW W31 rfl rfl (cs := encE x) rfl hW.1.out) ?_; (try simp only [Act.put, List.setIfInBounds_toArray, List.set_cons_zero, List.set_cons_succ]))
        (refine takeW (i := 4) (v := ?_) rfl (by kernel_rfl) (by kernel_rfl) (by kernel_rfl) (fun _ _ _ h => h) (by rfl) (by assumption) ?_ ?_; rotate_left; (intro W hW; (try dsimp only at hW); go_simp; try with_reducible rfl); (try simp only [Act.put, List.setIfInBounds_toArray, List.set_cons_zero, List.set_cons_succ]))
        (refine takeW (i := 5) (v := ?_) rfl (by kernel_rfl) (by kernel_rfl) (by kernel_rfl) (fun _ _ _ h => h) (by rfl) (by assumption) ?_ ?_; rotate_left; (intro W hW; (try dsimp only at hW); go_simp; try with_reducible rfl); (try simp only [Act.put, List.setIfInBounds_toArray, List.set_cons_zero, List.set_cons_succ]))
        (refine takeW (i := 6) (v := ?_) rfl (by kernel_rfl) (by kernel_rfl) (by kernel_rfl) (fun _ _ _ h => h) (by rfl) (by assumption) ?_ ?_; rotate_left; (intro W hW; (try dsimp only at hW); go_simp; try with_reducible rfl); (try simp only [Act.put, List.setIfInBounds_toArray, List.set_cons_zero, List.set_cons_succ]))
        (refine takeW (i := 7) rfl (by kernel_rfl) (by kernel_rfl) (by kernel_rfl) (fun _ _ _ h => h) (by rfl) (by assumption) (fun W hW => exec_loadW W31 rfl rfl (cs := encE y) rfl hW.2.out) ?_; (try simp only [Act.put, List.setIfInBounds_toArray, List.set_cons_zero, List.set_cons_succ]))
        (refine takeW (i := 8) rfl (by kernel_rfl) (by kernel_rfl) (by kernel_rfl) (fun _ _ _ h => h) (by rfl) (by assumption) (fun W hW => exec_neE (u := x) (v := y) rfl rfl rfl) ?_; (try simp only [Act.put, List.setIfInBounds_toArray, List.set_cons_zero, List.set_cons_succ]))
        refine wpAnyH_done (by kernel_rfl) ?_ _
        clear hHeld
        by_cases hxy : x = y
        · rw [show (!decide (x = y)) = false by simp [hxy]]
          have HT2 : Hid (l.take (k + 1) = m.take (k + 1)) := by show _ = _; rw [HTX.out, HTY.out, HT.out, hxy]
          clear hxy
          go_wp2
          go_roundw
          case rel => exact ⟨k + 1, by omega, by go_num, HT2, HW.out.drew⟩
          case measure => simp [intOf]; omega
        · rw [show (!decide (x = y)) = true by simp [hxy]]
          have HNE : Hid (l ≠ m) := fun e => hxy (HXY.out e)
          clear hxy
          go_wp2
          exact HP.out _ _ ⟨fun h => (by cases h), fun h => absurd h HNE.out⟩ HW.out.drew
      · obtain rfl : n = k := by omega
        have HE : Hid (l = m) := by
          have h := HT.out
          rw [List.take_of_length_le (by have := HN.out; omega), List.take_of_length_le (by have := HN.out; have := HM.out; omega)] at h
          exact h
        clear hlt hk HT
        go_wp2
        exact HP.out _ _ ⟨fun _ => HE.out, fun _ => rfl⟩ HW.out
  · have hd : ((l.length : Int) == (m.length : Int)) = false := by simp; omega
    have HE : Hid (l ≠ m) := fun e => hne (by rw [e])
    clear hne
    generalize l.length = n1 at *
    generalize m.length = n2 at *
    go_enter Try.func14, Try.ntmps14
    go_wp2
    exact HP.out _ _ ⟨fun h => (by cases h), fun h => absurd h HE.out⟩ (Below.refl _ _)

theorem all_any (p : Option Addr) (w : World) : Calls Try.prog 16 #[.pointer p] w fun e w' => e = .returned (.func (.func 29) #[] #[.pointer (some ⟨w.heap.size, 0, none⟩)]) ∧ w.alloc (.cells #[.pointer p] 25) = w' := by
  go_enter Try.func16, Try.ntmps16
  go_wp2
  go_ret
  exact ⟨rfl, rfl⟩
/-- What is told of a queue. -/
theorem told_all (b q : Nat) (sv : Value) (h : List Ev) (now most : Int) (W : World) (hb : Blk W b 25 #[.pointer (some ⟨q, 0, none⟩)]) (hq : Qu W q sv h now) (hl : h.length ≤ 16384) :
    Calls Try.prog 15 #[.func (.func 29) #[] #[.pointer (some ⟨b, 0, none⟩)], .int .i64 most] W (ToldPost (sortE h) most W) :=
  told_any 29 _ (enters_of Try.func29 (by kernel_rfl) rfl) most (sortE h) h.length (by omega) W fun W0 hB hblk y J Jx W1 hW hJ _ hY h0 =>
    all1_in 2 (by omega) y b W.heap.size (W.heap.size + 1) q sv h now J Jx W1 hJ hY (Nat.le_trans hB.size hW.size) (keepCell hW (keepCell hB (hb.cell 0))) ((hq.below hB).below hW) hl
      ⟨_, keepCell hW (hblk.cell 0), fun g e => by simp [Value.ownBlock] at e⟩ h0
set_option maxRecDepth 100000 in
set_option maxHeartbeats 1600000 in
theorem all1_none (n : Nat) (hn : 1 ≤ n) (y g1 : Nat) (p : Option Addr) (J : List Ev → World → Prop) (W : World) (h1 : W.cell? ⟨g1, 0, none⟩ = some (.pointer p)) (hm : Calls Try.prog 27 #[.pointer p] W fun e w' => e = .returned (.bool false) ∧ W = w') (h0 : J [] W) :
    CallsIn Fence.wide n Try.prog 29 #[.func (.yield y) #[] #[], .pointer (some ⟨g1, 0, none⟩)] W fun e W' => (∃ v, e = .returned v) ∧ J [] W' := by
  refine callsIn_of_wp Try.func29 rfl trivial ?_ rfl
  simp only [Try.ntmps29, List.size_toArray, List.length_cons, List.length_nil, Nat.reduceAdd, Nat.reduceSub, Array.replicate_succ, Array.replicate_zero, List.push_toArray, List.append_toArray, List.nil_append, List.cons_append]
  gi_wp2_with (refine ⟨trivial, ?_⟩; gi_at_call 27; refine (callsIn_wide.2 hm).mono ?_; rintro e w' ⟨rfl, rfl⟩)
  refine bodyPost_ret (results_none rfl _ _ _) rfl ?_
  exact ⟨⟨_, rfl⟩, h0⟩
/-- .. of one that no call made. -/
theorem told_none (b : Nat) (p : Option Addr) (most : Int) (W : World) (hb : Blk W b 25 #[.pointer p]) (hm : ∀ W', Below W.heap.size W W' → Calls Try.prog 27 #[.pointer p] W' fun e w' => e = .returned (.bool false) ∧ W' = w') :
    Calls Try.prog 15 #[.func (.func 29) #[] #[.pointer (some ⟨b, 0, none⟩)], .int .i64 most] W (ToldPost [] most W) :=
  told_any 29 _ (enters_of Try.func29 (by kernel_rfl) rfl) most [] 0 (by omega) W fun W0 hB hblk y J Jx W1 hW hJ _ hY h0 =>
    (all1_none 2 (by omega) y b p J W1 (keepCell hW (keepCell hB (hb.cell 0))) (hm W1 (hB.trans (hW.mono hB.size))) h0).mono fun e W' h => ⟨h.1, .inl ⟨[], rfl, h.2⟩⟩
end Go.Proofs.Ytbmnecdkjkffdaa
