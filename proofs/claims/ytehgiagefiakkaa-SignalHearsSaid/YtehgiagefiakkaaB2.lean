/- Contracts of bits of the document: bit, Check. -/
import Derived.Test.YtehgiagefiakkaaB1
namespace Go.Proofs.Ytehgiagefiakkaa
open Go.RowKit Go.Shelf
open Sched (Sp bad)
open Sig

theorem bit_all : ∀ x : Fin 256, ∀ r : Fin 8, (((x.val : Int) / 2 ^ (7 - r.val)).tmod 2 == 1) = (x.val / 2 ^ (7 - r.val) % 2 == 1) := by decide +kernel
theorem bit_eq {x : Int} {r : Nat} (hx : 0 ≤ x ∧ x ≤ 255) (hr : r < 8) : ((x / 2 ^ (7 - r)).tmod 2 == 1) = bitOf x r := by
  have := bit_all ⟨x.toNat, by omega⟩ ⟨r, hr⟩
  simp only at this
  rw [show ((x.toNat : Nat) : Int) = x by omega] at this
  exact this

theorem bit_any (k : Nat) (a : Option Addr) (c : Nat) (B : List Int) (w : World) (h : Byts w (.slice a B.length c) B) (hk : k < 8 * B.length) :
    Calls Try.prog 53 #[.slice a B.length c, .int .i64 k] w fun e w' => e = .returned (.bool (bitOf (B.getD (k / 8) 0) (k % 8))) ∧ w' = w := by
  have hlen := h.1.len
  obtain ⟨b, off, rfl, hb, hc⟩ := h.1.row (by rintro rfl; simp at hk)
  have hck := hc.int (j := k / 8) (by omega)
  have hcb := h.2 _ (getD_in (l := B) (k := k / 8) (by omega))
  generalize B.getD (k / 8) 0 = x at *
  have hki : ((k / 8 : Nat) : Int) < (B.length : Int) := by omega
  clear h hc
  generalize B.length = L at *
  obtain ⟨x1, x2⟩ := hcb
  go_enter Try.func53, Try.ntmps53
  go_wp2
  go_ret
  exact ⟨ret_bool (bit_eq ⟨x1, x2⟩ (by omega)), rfl⟩

/-- What the bits from N on tell. -/
theorem bad_hit {N k : Nat} {B : List Int} (h1 : N ≤ 4096) (hl : B.length = (N + 7) / 8) (hb : ∀ x ∈ B, 0 ≤ x ∧ x ≤ 255) (hNk : N ≤ k) (hk : k < 8 * B.length) (h : bitOf (B.getD (k / 8) 0) (k % 8) = true) : badBits (N : Int) B = true := by
  have hr : ¬ ((N : Int) % 8 = 0) := by omega
  rw [bad_rest (by omega) (by omega) (by omega) hr]
  have e1 : k / 8 = B.length - 1 := by omega
  have hx := hb _ (getD_in (l := B) (k := B.length - 1) (by omega))
  rw [e1] at h
  generalize B.getD (B.length - 1) 0 = x at *
  have := anyFrom_mod (r := ((N : Int) % 8).toNat) hx (by omega)
  rw [← this]
  unfold anyFrom
  refine List.any_eq_true.2 ⟨k % 8, List.mem_range.2 (by omega), ?_⟩
  rw [h]
  simp
  omega
theorem bad_miss {N : Nat} {B : List Int} (h1 : N ≤ 4096) (hl : B.length = (N + 7) / 8) (hb : ∀ x ∈ B, 0 ≤ x ∧ x ≤ 255) (h : ∀ k, N ≤ k → k < 8 * B.length → bitOf (B.getD (k / 8) 0) (k % 8) = false) : badBits (N : Int) B = false := by
  by_cases hr : (N : Int) % 8 = 0
  · exact bad_none (by omega) (by omega) (by omega) hr
  · rw [bad_rest (by omega) (by omega) (by omega) hr]
    have hx := hb _ (getD_in (l := B) (k := B.length - 1) (by omega))
    have hh : ∀ j, N % 8 ≤ j → j < 8 → bitOf (B.getD (B.length - 1) 0) j = false := fun j h2 h3 => by
      have := h (8 * (B.length - 1) + j) (by omega) (by omega)
      rwa [show (8 * (B.length - 1) + j) / 8 = B.length - 1 by omega, show (8 * (B.length - 1) + j) % 8 = j by omega] at this
    generalize B.getD (B.length - 1) 0 = x at *
    rw [← anyFrom_mod hx (by omega)]
    unfold anyFrom
    rw [List.any_eq_false]
    intro j hj
    have hj := List.mem_range.1 hj
    by_cases h2 : N % 8 ≤ j
    · rw [hh j h2 hj]; simp
    · have : decide (((N : Int) % 8).toNat ≤ j) = false := by simp; omega
      rw [this]; simp

set_option maxHeartbeats 1600000 in
theorem rbcheck_any (n : Int) (a : Option Addr) (c : Nat) (B : List Int) (w : World) (h : Byts w (.slice a B.length c) B) :
    Calls Try.prog 40 #[.agg #[.int .i64 n, .slice a B.length c]] w fun e w' => e = .returned (.int .i64 (errB n B)) ∧ Below w.heap.size w w' := by
  have hlen := h.1.len
  have hal : Below w.heap.size w (w.alloc (.cells #[.int .i64 n, .slice a B.length c] 26)) := below1 w _
  have h2 := h.below hal
  by_cases h0 : n < 0
  · have HE : Hid (errB n B = 10) := errB_eq (b := true) (by simp [badBits, h0])
    clear h h2
    generalize B.length = L at *
    go_enter Try.func40, Try.ntmps40
    go_wp2
    go_ret
    exact ⟨ret_int HE.out.symm, hal⟩
  have h0' : 0 ≤ n := by omega
  by_cases h1 : 4096 < n
  · have HE : Hid (errB n B = 10) := errB_eq (b := true) (by simp [badBits, h1])
    clear h h0 h2
    generalize B.length = L at *
    go_enter Try.func40, Try.ntmps40
    go_wp2
    go_ret
    exact ⟨ret_int HE.out.symm, hal⟩
  have h1' : n ≤ 4096 := by omega
  clear h0 h1
  by_cases hl : (B.length : Int) = (n + 7) / 8
  · obtain ⟨N, rfl⟩ : ∃ N : Nat, n = N := ⟨n.toNat, by omega⟩
    have ht : ((B.length : Int) != ((N : Int) + 7) / 8) = false := by simpa using hl
    have hlN : B.length = (N + 7) / 8 := by omega
    have HL := Lib.hid hlN
    have HB := Lib.hid h.2
    have h8 : 8 * B.length ≤ 4104 := by omega
    have hN8 : N ≤ 8 * B.length := by omega
    have hN4 : N ≤ 4096 := by omega
    have hbit := fun k (hk : k < 8 * B.length) => bit_any k a c B _ h2 hk
    have HM : Hid ((∀ k, N ≤ k → k < 8 * B.length → bitOf (B.getD (k / 8) 0) (k % 8) = false) → errB N B = 0) := fun hh => errB_eq (b := false) (bad_miss hN4 hlN h.2 hh)
    have HH : Hid (∀ k, N ≤ k → k < 8 * B.length → bitOf (B.getD (k / 8) 0) (k % 8) = true → errB N B = 10) := fun k g1 g2 g3 => errB_eq (b := true) (bad_hit hN4 hlN h.2 g1 g2 g3)
    clear hl hlN h h2
    have HBit := Lib.hid hbit
    clear hbit
    generalize hq : B.length = L at *
    clear hq
    go_enter Try.func40, Try.ntmps40
    go_wp2
    go_loop [3] (fun i => ∃ k : Nat, N ≤ k ∧ k ≤ 8 * L ∧ i = .int .i64 k ∧ Hid (∀ j, N ≤ j → j < k → bitOf (B.getD (j / 8) 0) (j % 8) = false)) (fun i => 8 * L - (intOf i).toNat)
    case atStart => exact ⟨N, Nat.le_refl _, hN8, rfl, fun j g1 g2 => by omega⟩
    case round =>
      obtain ⟨k, hk1, hk2, rfl, hany⟩ := hrel
      by_cases hlt : k < 8 * L
      · have hb := HBit.out k hlt
        have HHk : Hid (bitOf (B.getD (k / 8) 0) (k % 8) = true → errB N B = 10) := HH.out k hk1 hlt
        have HS : Hid (bitOf (B.getD (k / 8) 0) (k % 8) = false → ∀ j, N ≤ j → j < k + 1 → bitOf (B.getD (j / 8) 0) (j % 8) = false) := fun g j g1 g2 => by
          by_cases hjk : j = k
          · subst hjk; exact g
          · exact hany.out j g1 (by omega)
        generalize bitOf (B.getD (k / 8) 0) (k % 8) = p at *
        cases p
        · go_wp2_with (go_at_call 53; refine hb.mono ?_; rintro e w' ⟨rfl, rfl⟩)
          go_round
          case rel => exact ⟨k + 1, by omega, by omega, by go_num, HS.out trivial⟩
          case measure => simp [intOf]; omega
        · go_wp2_with (go_at_call 53; refine hb.mono ?_; rintro e w' ⟨rfl, rfl⟩)
          go_ret
          exact ⟨ret_int (HHk.out trivial).symm, hal⟩
      · have HZ : Hid (errB N B = 0) := HM.out fun j g1 g2 => hany.out j g1 (by omega)
        go_wp2
        go_ret
        exact ⟨ret_int HZ.out.symm, hal⟩
  · have ht : ((B.length : Int) != (n + 7) / 8) = true := by simpa using hl
    have HE : Hid (errB n B = 10) := errB_eq (b := true) (bad_len hl)
    clear h hl h2
    generalize B.length = L at *
    go_enter Try.func40, Try.ntmps40
    go_wp2
    go_ret
    exact ⟨ret_int HE.out.symm, hal⟩
end Go.Proofs.Ytehgiagefiakkaa
