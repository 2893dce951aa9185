/- Contracts of bits: need, Check of the program and of the document, how long bits are on the air. -/
import Derived.Test.YtehgiagefiakkaaA1
import Derived.Test.YtehgiagefiakkaaSig
import Derived.IntWalk
import Derived.Laws.Bits64
namespace Go.Proofs.Ytehgiagefiakkaa
open Go.RowKit Go.Shelf
open Sched (Sp bad)
open Sig

theorem need_any (n : Int) (w : World) (h0 : 0 ≤ n) (h1 : n ≤ 4096) : Calls Try.prog 52 #[.int .i64 n] w fun e w' => e = .returned (.int .i64 ((n + 7) / 8)) ∧ w' = w := by
  go_enter Try.func52, Try.ntmps52
  go_wp2
  go_ret
  exact ⟨rfl, rfl⟩
theorem air_any (n : Int) (w : World) : Calls Try.prog 35 #[.int .i64 n] w fun e w' => e = .returned (.int .i64 (air n)) ∧ w' = w := by
  go_enter Try.func35, Try.ntmps35
  go_wp2
  all_goals go_ret
  all_goals (refine ⟨ret_int ?_, rfl⟩; unfold air; first | (rw [if_pos (by omega)]) | (rw [if_neg (by omega)]))
theorem rair_any (n : Int) (w : World) : Calls Try.prog 37 #[.int .i64 n] w fun e w' => e = .returned (.int .i64 (air n)) ∧ w' = w := by
  go_enter Try.func37, Try.ntmps37
  go_wp2
  all_goals go_ret
  all_goals (refine ⟨ret_int ?_, rfl⟩; unfold air; first | (rw [if_pos (by omega)]) | (rw [if_neg (by omega)]))

theorem errB_eq {n : Int} {B : List Int} {b : Bool} (h : badBits n B = b) : errB n B = if b then 10 else 0 := by unfold errB; rw [h]

theorem low_all : ∀ x : Fin 256, ∀ r : Fin 9, (bits BinOp.and IntKind.u8 (x.val : Int) (255 / 2 ^ r.val) != 0) = !decide (x.val % 2 ^ (8 - r.val) = 0) := by decide +kernel
theorem low_bits {x : Int} {r : Nat} (hx : 0 ≤ x ∧ x ≤ 255) (hr : r ≤ 8) : (bits BinOp.and IntKind.u8 x (255 / 2 ^ r) != 0) = !decide (x.toNat % 2 ^ (8 - r) = 0) := by
  have := low_all ⟨x.toNat, by omega⟩ ⟨r, by omega⟩
  simp only at this
  rwa [show ((x.toNat : Nat) : Int) = x by omega] at this
theorem bad_len {n : Int} {B : List Int} (h : ¬ (B.length : Int) = (n + 7) / 8) : badBits n B = true := by simp [badBits, h]
theorem bad_none {n : Int} {B : List Int} (h0 : 0 ≤ n) (h1 : n ≤ 4096) (h : (B.length : Int) = (n + 7) / 8) (hr : n % 8 = 0) : badBits n B = false := by
  unfold badBits
  rw [h, hr]
  simp
  omega
theorem bad_rest {n : Int} {B : List Int} (h0 : 0 ≤ n) (h1 : n ≤ 4096) (h : (B.length : Int) = (n + 7) / 8) (hr : ¬ n % 8 = 0) : badBits n B = !decide ((B.getD (B.length - 1) 0).toNat % 2 ^ (8 - (n % 8).toNat) = 0) := by
  unfold badBits
  rw [show decide (n < 0) = false by simp; omega, show decide (4096 < n) = false by simp; omega, show decide ((B.length : Int) = (n + 7) / 8) = true by simp [h], show decide (n % 8 = 0) = false by simp [hr]]
  simp

set_option maxHeartbeats 1600000 in
theorem bcheck_any (n : Int) (a : Option Addr) (c : Nat) (B : List Int) (w : World) (h : Byts w (.slice a B.length c) B) :
    Calls Try.prog 39 #[.agg #[.int .i64 n, .slice a B.length c]] w fun e w' => e = .returned (.int .i64 (errB n B)) ∧ Below w.heap.size w w' := by
  have hlen := h.1.len
  have hal : Below w.heap.size w (w.alloc (.cells #[.int .i64 n, .slice a B.length c] 26)) := below1 w _
  by_cases h0 : n < 0
  · have HE : Hid (errB n B = 10) := errB_eq (b := true) (by simp [badBits, h0])
    clear h
    generalize B.length = L at *
    go_enter Try.func39, Try.ntmps39
    go_wp2
    go_quiet (fail)
    go_wp2
    go_ret
    exact ⟨ret_int HE.out.symm, below_drewN hal _⟩
  by_cases h1 : 4096 < n
  · have HE : Hid (errB n B = 10) := errB_eq (b := true) (by simp [badBits, h1])
    have h0' : 0 ≤ n := by omega
    clear h h0
    generalize B.length = L at *
    go_enter Try.func39, Try.ntmps39
    go_wp2
    go_quiet (fail)
    go_wp2
    go_ret
    exact ⟨ret_int HE.out.symm, below_drewN hal _⟩
  have h0' : 0 ≤ n := by omega
  have h1' : n ≤ 4096 := by omega
  have hneed := fun W => need_any n W h0' h1'
  clear h0 h1
  by_cases hl : (B.length : Int) = (n + 7) / 8
  · have ht : ((B.length : Int) != (n + 7) / 8) = false := by simpa using hl
    by_cases hr : n % 8 = 0
    · have HE : Hid (errB n B = 0) := errB_eq (b := false) (bad_none h0' h1' hl hr)
      have hr0 : (n % 8 != 0) = false := by simpa using hr
      clear h hr hl
      generalize B.length = L at *
      go_enter Try.func39, Try.ntmps39
      go_wp2
      go_quiet ((go_at_call 52; exact Calls.quiet_of_same (hneed _)))
      go_wp2
      go_quiet (fail)
      go_wp2
      go_ret
      exact ⟨ret_int HE.out.symm, below_drewN (below_drewN hal _) _⟩
    · have hp : 0 < B.length := by omega
      obtain ⟨b, off, rfl, hb, hc⟩ := h.1.row (by rintro rfl; simp at hp)
      have hck := hc.int (j := B.length - 1) (by omega)
      have hcb := h.2 _ (getD_in (l := B) (k := B.length - 1) (by omega))
      have hcw : (w.alloc (.cells #[.int .i64 n, .slice (some ⟨b, off, none⟩) B.length c] 26)).cell? ⟨b, off + (B.length - 1), none⟩ = some (.int .u8 (B.getD (B.length - 1) 0)) := by rw [World.cell?_alloc_lt _ _ _ hb]; exact hck
      have HB := Lib.hid (bad_rest h0' h1' hl hr)
      generalize B.getD (B.length - 1) 0 = x at *
      have HLow := Lib.hid (low_bits (x := x) (r := (n % 8).toNat) hcb (by omega))
      have hr0 : (n % 8 != 0) = true := by simpa using hr
      have hpi : (1 : Int) ≤ (B.length : Int) := by omega
      have hp2 : (0 : Int) ≤ (B.length : Int) - 1 := by omega
      have hp3 : (B.length : Int) - 1 < (B.length : Int) := by omega
      have HE : Hid (errB n B = if badBits n B then 10 else 0) := rfl
      clear hc h hck hr hl
      generalize B.length = L at *
      go_enter Try.func39, Try.ntmps39
      go_wp2
      go_quiet ((go_at_call 52; exact Calls.quiet_of_same (hneed _)))
      go_wp2
      go_quiet (fail)
      go_wp2
      · have hq : (bits BinOp.and IntKind.u8 x (255 / 2 ^ (n % 8).toNat) != 0) = true := by assumption
        go_ret
        exact ⟨ret_int (by rw [HE.out, HB.out, ← HLow.out, hq]; rfl), below_drewN (below_drewN hal _) _⟩
      · have hq : (bits BinOp.and IntKind.u8 x (255 / 2 ^ (n % 8).toNat) != 0) = false := by assumption
        go_ret
        exact ⟨ret_int (by rw [HE.out, HB.out, ← HLow.out, hq]; rfl), below_drewN (below_drewN hal _) _⟩
  · have ht : ((B.length : Int) != (n + 7) / 8) = true := by simpa using hl
    have HE : Hid (errB n B = 10) := errB_eq (b := true) (bad_len hl)
    clear h hl
    generalize B.length = L at *
    go_enter Try.func39, Try.ntmps39
    go_wp2
    go_quiet ((go_at_call 52; exact Calls.quiet_of_same (hneed _)))
    go_wp2
    go_ret
    exact ⟨ret_int HE.out.symm, below_drewN hal _⟩
end Go.Proofs.Ytehgiagefiakkaa
