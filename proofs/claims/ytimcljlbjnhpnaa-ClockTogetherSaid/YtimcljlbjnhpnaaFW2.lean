/- Contracts: least, most, Max, Min, without, Clone, Spread. -/
import Derived.Test.YtimcljlbjnhpnaaFW1
namespace Go.Proofs.Ytimcljlbjnhpnaa
open Go.RowKit Go.Shelf

theorem fold_take (f : Int → Int → Int) (a : Int) (l : List Int) (k : Nat) (h : k < l.length) : (l.take (k + 1)).foldl f a = f ((l.take k).foldl f a) (l.getD k 0) := by
  rw [take_getD l k h, List.foldl_append]
  rfl
theorem least_fold {l : List Int} (h : l ≠ []) : l.foldl min (l.getD 0 0) = Fta.least l := by
  cases l with
  | nil => exact absurd rfl h
  | cons a l => simp [Fta.least]
theorem most_fold {l : List Int} (h : l ≠ []) : l.foldl max (l.getD 0 0) = Fta.most l := by
  cases l with
  | nil => exact absurd rfl h
  | cons a l => simp [Fta.most]

theorem ite_min (x m : Int) : (if x < m then x else m) = min m x := by split <;> omega
theorem ite_max (x m : Int) : (if m < x then x else m) = max m x := by split <;> omega

theorem least_any (l : List Int) (v : Value) (w : World) (h : Ints w v l) (hn : l ≠ []) :
    Calls Try.prog 60 #[v] w fun e w' => e = .returned (.int .i64 (Fta.least l)) ∧ w = w' := by
  have h0 := h
  obtain ⟨a, cap, rfl, h1, h2, h3⟩ := h.shape
  obtain ⟨b, off, rfl, hbl, hc⟩ := h0.row hn
  have hp : 0 < l.length := List.length_pos_iff.2 hn
  have hc0 : w.cell? ⟨b, off, none⟩ = some (.int .i64 (l.getD 0 0)) := hc 0 hp
  have hp' : (0 : Int) < l.length := by omega
  have HF := Lib.hid (least_fold hn)
  have HC := Lib.hid hc
  have HS : Hid ((l.take 1).foldl min (l.getD 0 0) = l.getD 0 0) := by
    have := fold_take min (l.getD 0 0) l 0 hp
    show _ = _
    rw [this]; simp
  clear h h0 hn hc
  obtain ⟨x0, hx0⟩ : ∃ x0, x0 = l.getD 0 0 := ⟨_, rfl⟩
  rw [← hx0] at hc0 HF HS
  clear hx0
  go_enter Try.func60, Try.ntmps60
  go_wp2
  go_loop [3, 4] (fun m i => ∃ k : Nat, k ≤ l.length ∧ i = .int .i64 k ∧ m = .int .i64 ((l.take k).foldl min x0)) (fun _ i => l.length - (intOf i).toNat)
  case atStart => exact ⟨0, Nat.zero_le _, rfl, rfl⟩
  case round =>
    obtain ⟨k, hk, rfl, rfl⟩ := hrel
    by_cases hlt : k < l.length
    · have hck := HC.out k hlt
      have HT := Lib.hid (fold_take min x0 l k hlt)
      generalize l.getD k 0 = x at *
      generalize (l.take k).foldl min x0 = m at *
      go_wp2
      go_round
      case rel => exact ⟨k + 1, by omega, by go_num, by rw [HT.out, ite_min]⟩
      case measure => simp [intOf]; omega
    · go_wp2
      go_ret
      exact ⟨ret_int (by rw [← HF.out, List.take_of_length_le (by omega)]), rfl⟩

theorem most_any (l : List Int) (v : Value) (w : World) (h : Ints w v l) (hn : l ≠ []) :
    Calls Try.prog 61 #[v] w fun e w' => e = .returned (.int .i64 (Fta.most l)) ∧ w = w' := by
  have h0 := h
  obtain ⟨a, cap, rfl, h1, h2, h3⟩ := h.shape
  obtain ⟨b, off, rfl, hbl, hc⟩ := h0.row hn
  have hp : 0 < l.length := List.length_pos_iff.2 hn
  have hc0 : w.cell? ⟨b, off, none⟩ = some (.int .i64 (l.getD 0 0)) := hc 0 hp
  have hp' : (0 : Int) < l.length := by omega
  have HF := Lib.hid (most_fold hn)
  have HC := Lib.hid hc
  have HS : Hid ((l.take 1).foldl max (l.getD 0 0) = l.getD 0 0) := by
    have := fold_take max (l.getD 0 0) l 0 hp
    show _ = _
    rw [this]; simp
  clear h h0 hn hc
  obtain ⟨x0, hx0⟩ : ∃ x0, x0 = l.getD 0 0 := ⟨_, rfl⟩
  rw [← hx0] at hc0 HF HS
  clear hx0
  go_enter Try.func61, Try.ntmps61
  go_wp2
  go_loop [3, 4] (fun m i => ∃ k : Nat, k ≤ l.length ∧ i = .int .i64 k ∧ m = .int .i64 ((l.take k).foldl max x0)) (fun _ i => l.length - (intOf i).toNat)
  case atStart => exact ⟨0, Nat.zero_le _, rfl, rfl⟩
  case round =>
    obtain ⟨k, hk, rfl, rfl⟩ := hrel
    by_cases hlt : k < l.length
    · have hck := HC.out k hlt
      have HT := Lib.hid (fold_take max x0 l k hlt)
      generalize l.getD k 0 = x at *
      generalize (l.take k).foldl max x0 = m at *
      go_wp2
      go_round
      case rel => exact ⟨k + 1, by omega, by go_num, by rw [HT.out, ite_max]⟩
      case measure => simp [intOf]; omega
    · go_wp2
      go_ret
      exact ⟨ret_int (by rw [← HF.out, List.take_of_length_le (by omega)]), rfl⟩

end Go.Proofs.Ytimcljlbjnhpnaa
