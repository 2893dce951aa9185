/- slices.Equal at bytes. -/
import Derived.Test.YtehgiagefiakkaaB15
namespace Go.Proofs.Ytehgiagefiakkaa
open Go.RowKit Go.Shelf
open Sched (Sp bad)
open Sig

theorem take_succ_eq {B C : List Int} {k : Nat} {x y : Int} (hx : B[k]? = some x) (hy : C[k]? = some y) (h : B.take k = C.take k) : (B.take (k + 1) = C.take (k + 1)) ↔ x = y := by
  rw [List.take_add_one, List.take_add_one, hx, hy, h]
  simp
set_option maxRecDepth 100000 in
set_option maxHeartbeats 1600000 in
theorem bequal_any (a : Option Addr) (c : Nat) (B : List Int) (a' : Option Addr) (c' : Nat) (C : List Int) (w : World) (h : Byts w (.slice a B.length c) B) (h' : Byts w (.slice a' C.length c') C) :
    Calls Try.prog 26 #[.slice a B.length c, .slice a' C.length c'] w fun e w' => e = .returned (.bool (decide (B = C))) ∧ Below w.heap.size w w' := by
  have hlen := h.1.len
  have h0 := Lib.hid h
  have h0' := Lib.hid h'
  clear h h'
  by_cases hl : B.length = C.length
  · have hl2 : C.length = B.length := hl.symm
    have HL := Lib.hid hl2
    have h1 : Hid (Byts w (.slice a' B.length c') C) := by show Byts _ _ _; rw [hl]; exact h0'.out
    rw [hl2]
    clear hl hl2 h0'
    go_enter Try.func26, Try.ntmps26
    go_wp2_with fail
    go_loopw [13] (fun i wr => ∃ k : Nat, k ≤ B.length ∧ i = .int .i64 k ∧ B.take k = C.take k ∧ Below w.heap.size w wr) (fun i _ => B.length - (intOf i).toNat)
    case atStart => exact ⟨0, Nat.zero_le _, rfl, rfl, Below.refl _ _⟩
    case round =>
      obtain ⟨k, hk, rfl, heq, hb⟩ := hrel
      have HEQ := Lib.hid heq
      clear heq
      by_cases hlt : k < B.length
      · have hB := h0.out.below hb
        have hC := h1.out.below hb
        obtain ⟨x, hx⟩ : ∃ x, B[k]? = some x := ⟨_, List.getElem?_eq_getElem hlt⟩
        obtain ⟨y, hy⟩ : ∃ y, C[k]? = some y := ⟨_, List.getElem?_eq_getElem (by rw [HL.out]; exact hlt)⟩
        have HT := Lib.hid (take_succ_eq hx hy HEQ.out)
        obtain ⟨b, off, rfl, hbl, hc1⟩ := hB.1.row (by rintro rfl; simp at hlt)
        obtain ⟨b', off', rfl, hbl', hc2⟩ := hC.1.row (by rintro rfl; simp at hy)
        have e1 : wr.cell? ⟨b, off + k, none⟩ = some (.int .u8 x) := by simpa using hc1 k x hx 0 _ rfl
        have e2 : wr.cell? ⟨b', off' + k, none⟩ = some (.int .u8 y) := by simpa using hc2 k y hy 0 _ rfl
        have hkk : (k : Int) < (B.length : Int) := by omega
        have H1 : wr.drew.cell? ⟨b, off + k, none⟩ = some (.int .u8 x) ∧ wr.drew.cell? ⟨b', off' + k, none⟩ = some (.int .u8 y) ∧ Below wr.heap.size wr wr.drew := ⟨e1, e2, (Below.refl _ _).drew⟩
        clear hB hC hx hy hc1 hc2 e1 e2 hbl hbl'
        have HRB : Hid (∀ W, W = wr.drew → Below w.heap.size w W) := fun W e => by subst e; exact hb.drew
        by_cases hxy : x = y
        · subst hxy
          have HT2 : Hid (B.take (k + 1) = C.take (k + 1)) := HT.out.2 rfl
          clear HT
          go_wp2_with fail
          refine wp_region_held_drew (S := (fun W => W.cell? ⟨b, off + k, none⟩ = some (.int .u8 x) ∧ W.cell? ⟨b', off' + k, none⟩ = some (.int .u8 x) ∧ Below wr.heap.size wr W)) (by kernel_rfl) (by assumption) (fun hHeld => ?_)
          (refine takeW (i := 0) (v := ?_) rfl (by kernel_rfl) (by kernel_rfl) (by kernel_rfl) (fun _ _ _ h => h) (by rfl) (by assumption) ?_ ?_; rotate_left; (intro W hW; (try dsimp only at hW); go_simp; try with_reducible rfl); (try simp only [Act.put, List.setIfInBounds_toArray, List.set_cons_zero, List.set_cons_succ]))
          (refine takeW (i := 1) (v := ?_) rfl (by kernel_rfl) (by kernel_rfl) (by kernel_rfl) (fun _ _ _ h => h) (by rfl) (by assumption) ?_ ?_; rotate_left; (intro W hW; (try dsimp only at hW); go_simp; try with_reducible rfl); (try simp only [Act.put, List.setIfInBounds_toArray, List.set_cons_zero, List.set_cons_succ]))
          (refine takeW (i := 2) (v := ?_) rfl (by kernel_rfl) (by kernel_rfl) (by kernel_rfl) (fun _ _ _ h => h) (by rfl) (by assumption) ?_ ?_; rotate_left; (intro W hW; (try dsimp only at hW); go_simp; try with_reducible rfl); (try simp only [Act.put, List.setIfInBounds_toArray, List.set_cons_zero, List.set_cons_succ]))
          (refine takeW (i := 3) (v := ?_) rfl (by kernel_rfl) (by kernel_rfl) (by kernel_rfl) (fun _ _ _ h => h) (by rfl) (by assumption) ?_ ?_; rotate_left; (intro W hW; (try dsimp only at hW); go_simp; try with_reducible rfl); (try simp only [Act.put, List.setIfInBounds_toArray, List.set_cons_zero, List.set_cons_succ]))
          (refine takeW (i := 4) (v := ?_) rfl (by kernel_rfl) (by kernel_rfl) (by kernel_rfl) (fun _ _ _ h => h) (by rfl) (by assumption) ?_ ?_; rotate_left; (intro W hW; (try dsimp only at hW); go_simp; try with_reducible rfl); (try simp only [Act.put, List.setIfInBounds_toArray, List.set_cons_zero, List.set_cons_succ]))
          (refine takeW (i := 5) (v := ?_) rfl (by kernel_rfl) (by kernel_rfl) (by kernel_rfl) (fun _ _ _ h => h) (by rfl) (by assumption) ?_ ?_; rotate_left; (intro W hW; (try dsimp only at hW); go_simp; try with_reducible rfl); (try simp only [Act.put, List.setIfInBounds_toArray, List.set_cons_zero, List.set_cons_succ]))
          (refine takeW (i := 6) (v := ?_) rfl (by kernel_rfl) (by kernel_rfl) (by kernel_rfl) (fun _ _ _ h => h) (by rfl) (by assumption) ?_ ?_; rotate_left; (intro W hW; (try dsimp only at hW); go_simp; try with_reducible rfl); (try simp only [Act.put, List.setIfInBounds_toArray, List.set_cons_zero, List.set_cons_succ]))
          (refine takeW (i := 7) (v := ?_) rfl (by kernel_rfl) (by kernel_rfl) (by kernel_rfl) (fun _ _ _ h => h) (by rfl) (by assumption) ?_ ?_; rotate_left; (intro W hW; (try dsimp only at hW); go_simp; try with_reducible rfl); (try simp only [Act.put, List.setIfInBounds_toArray, List.set_cons_zero, List.set_cons_succ]))
          (refine takeW (i := 8) (v := ?_) rfl (by kernel_rfl) (by kernel_rfl) (by kernel_rfl) (fun _ _ _ h => h) (by rfl) (by assumption) ?_ ?_; rotate_left; (intro W hW; (try dsimp only at hW); go_simp; try with_reducible rfl); (try simp only [Act.put, List.setIfInBounds_toArray, List.set_cons_zero, List.set_cons_succ]))
          refine wpAnyH_done (by kernel_rfl) ?_ _
          go_wp2
          go_roundw
          case rel => exact ⟨k + 1, by omega, by go_num, HT2.out, hb.drew⟩
          case measure => simp [intOf]; omega
        · have HN : Hid (¬ B = C) := fun e => hxy (HT.out.1 (by rw [e]))
          have hne : (x == y) = false := by simpa using hxy
          clear HT
          go_wp2_with fail
          refine wp_region_held_drew (S := (fun W => W.cell? ⟨b, off + k, none⟩ = some (.int .u8 x) ∧ W.cell? ⟨b', off' + k, none⟩ = some (.int .u8 y) ∧ Below wr.heap.size wr W)) (by kernel_rfl) (by assumption) (fun hHeld => ?_)
          (refine takeW (i := 0) (v := ?_) rfl (by kernel_rfl) (by kernel_rfl) (by kernel_rfl) (fun _ _ _ h => h) (by rfl) (by assumption) ?_ ?_; rotate_left; (intro W hW; (try dsimp only at hW); go_simp; try with_reducible rfl); (try simp only [Act.put, List.setIfInBounds_toArray, List.set_cons_zero, List.set_cons_succ]))
          (refine takeW (i := 1) (v := ?_) rfl (by kernel_rfl) (by kernel_rfl) (by kernel_rfl) (fun _ _ _ h => h) (by rfl) (by assumption) ?_ ?_; rotate_left; (intro W hW; (try dsimp only at hW); go_simp; try with_reducible rfl); (try simp only [Act.put, List.setIfInBounds_toArray, List.set_cons_zero, List.set_cons_succ]))
          (refine takeW (i := 2) (v := ?_) rfl (by kernel_rfl) (by kernel_rfl) (by kernel_rfl) (fun _ _ _ h => h) (by rfl) (by assumption) ?_ ?_; rotate_left; (intro W hW; (try dsimp only at hW); go_simp; try with_reducible rfl); (try simp only [Act.put, List.setIfInBounds_toArray, List.set_cons_zero, List.set_cons_succ]))
          (refine takeW (i := 3) (v := ?_) rfl (by kernel_rfl) (by kernel_rfl) (by kernel_rfl) (fun _ _ _ h => h) (by rfl) (by assumption) ?_ ?_; rotate_left; (intro W hW; (try dsimp only at hW); go_simp; try with_reducible rfl); (try simp only [Act.put, List.setIfInBounds_toArray, List.set_cons_zero, List.set_cons_succ]))
          (refine takeW (i := 4) (v := ?_) rfl (by kernel_rfl) (by kernel_rfl) (by kernel_rfl) (fun _ _ _ h => h) (by rfl) (by assumption) ?_ ?_; rotate_left; (intro W hW; (try dsimp only at hW); go_simp; try with_reducible rfl); (try simp only [Act.put, List.setIfInBounds_toArray, List.set_cons_zero, List.set_cons_succ]))
          (refine takeW (i := 5) (v := ?_) rfl (by kernel_rfl) (by kernel_rfl) (by kernel_rfl) (fun _ _ _ h => h) (by rfl) (by assumption) ?_ ?_; rotate_left; (intro W hW; (try dsimp only at hW); go_simp; try with_reducible rfl); (try simp only [Act.put, List.setIfInBounds_toArray, List.set_cons_zero, List.set_cons_succ]))
          (refine takeW (i := 6) (v := ?_) rfl (by kernel_rfl) (by kernel_rfl) (by kernel_rfl) (fun _ _ _ h => h) (by rfl) (by assumption) ?_ ?_; rotate_left; (intro W hW; (try dsimp only at hW); go_simp; try with_reducible rfl); (try simp only [Act.put, List.setIfInBounds_toArray, List.set_cons_zero, List.set_cons_succ]))
          (refine takeW (i := 7) (v := ?_) rfl (by kernel_rfl) (by kernel_rfl) (by kernel_rfl) (fun _ _ _ h => h) (by rfl) (by assumption) ?_ ?_; rotate_left; (intro W hW; (try dsimp only at hW); go_simp; try with_reducible rfl); (try simp only [Act.put, List.setIfInBounds_toArray, List.set_cons_zero, List.set_cons_succ]))
          (refine takeW (i := 8) (v := ?_) rfl (by kernel_rfl) (by kernel_rfl) (by kernel_rfl) (fun _ _ _ h => h) (by rfl) (by assumption) ?_ ?_; rotate_left; (intro W hW; (try dsimp only at hW); go_simp; try with_reducible rfl); (try simp only [Act.put, List.setIfInBounds_toArray, List.set_cons_zero, List.set_cons_succ]))
          refine wpAnyH_done (by kernel_rfl) ?_ _
          go_wp2
          go_ret
          exact ⟨ret_bool (by simp [HN.out]), hb.drew⟩
      · have HE : Hid (B = C) := by
          have := HEQ.out
          rw [List.take_of_length_le (by omega), List.take_of_length_le (by rw [HL.out]; omega)] at this
          exact this
        go_wp2
        go_ret
        exact ⟨ret_bool (by simp [HE.out]), hb⟩
  · have HN : Hid (¬ B = C) := fun e => hl (by rw [e])
    clear h0 h0'
    generalize B.length = L at *
    generalize C.length = L' at *
    have hle : ((L : Int) == (L' : Int)) = false := by simp; omega
    go_enter Try.func26, Try.ntmps26
    go_wp2
    go_ret
    exact ⟨ret_bool (by simp [HN.out]), Below.refl _ _⟩
end Go.Proofs.Ytehgiagefiakkaa
