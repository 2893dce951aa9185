/- Contracts of chapter 8's small functions and of the library's that it calls. -/
import Derived.Test.YtimcljlbjnhpnaaFPlain
import Derived.Test.YtimcljlbjnhpnaaFMem
import Derived.WalkKit
import Derived.WalkSpells
import Derived.WalkLawsBesides
import Derived.Deep.QuietTactic
import Derived.BigQuiet
import Derived.Shelf.Abstract
import Derived.Test.YtimcljlbjnhpnaaProg
namespace Go.Proofs.Ytimcljlbjnhpnaa
open Go.RowKit Go.Shelf
theorem far_any (v b : Int) (w : World) (hb : 0 ≤ b) (hb2 : b ≤ 1099511627776) :
    Calls Try.prog 64 #[.int .i64 v, .int .i64 b] w fun e w' => e = .returned (.bool (Fta.far b v)) ∧ w = w' := by
  go_enter Try.func64, Try.ntmps64
  go_wp2
  · go_ret
    exact ⟨ret_bool rfl, rfl⟩
  · have hv : v < -b := by assumption
    go_ret
    exact ⟨ret_bool (by simp [Fta.far, hv]), rfl⟩

theorem anyFar1 (v b : Int) (B : Nat) (w : World) (hb : 0 ≤ b) (hb2 : b ≤ 1099511627776) (hc : w.cell? ⟨B, 0, none⟩ = some (.int .i64 b)) :
    Calls Try.prog 63 #[.int .i64 v, .pointer (some ⟨B, 0, none⟩)] w fun e w' => e = .returned (.bool (Fta.far b v)) ∧ w = w' := by
  go_enter Try.func63, Try.ntmps63
  go_wp2_with (go_at_call 64; refine (far_any _ _ _ hb hb2).mono ?_; rintro e w' ⟨rfl, rfl⟩)
  go_ret
  exact ⟨rfl, rfl⟩

theorem any_take_succ (p : Int → Bool) (l : List Int) (k : Nat) (h : k < l.length) : (l.take (k + 1)).any p = ((l.take k).any p || p (l.getD k 0)) := by
  rw [List.take_succ_eq_append_getElem h, List.any_append]
  simp [List.getD_eq_getElem?_getD, h]

/-- What a predicate that is handed in owes. -/
def Pred1 (g : FuncId) (lb : Array Value) (p : Int → Bool) (l : List Int) (w : World) : Prop :=
  ∀ x ∈ l, ∀ W, Below w.heap.size w W → Calls Try.prog g (#[.int .i64 x] ++ lb) W fun e W' => e = .returned (.bool (p x)) ∧ Below W.heap.size W W'

theorem indexFunc_any (g : FuncId) (lb : Array Value) (p : Int → Bool) (l : List Int) (v : Value) (w : World)
    (eg : ∀ args w, (callFunc g args).run Try.prog w = .ok (.enter g args) w) (hp : Pred1 g lb p l w) (h : Ints w v l) :
    Calls Try.prog 57 #[v, .func (.func g) #[] lb] w fun e w' => (∃ r : Int, e = .returned (.int .i64 r) ∧ decide (0 ≤ r) = l.any p) ∧ Below w.heap.size w w' := by
  have h0 := h
  obtain ⟨a, cap, rfl, h1, h2, h3⟩ := h.shape
  go_enter Try.func57, Try.ntmps57
  go_wp2
  go_loopw [8] (fun i wr => ∃ k : Nat, k ≤ l.length ∧ i = .int .i64 k ∧ Hid ((l.take k).any p = false) ∧ Below w.heap.size w wr) (fun i _ => l.length - (intOf i).toNat)
  case atStart => exact ⟨0, Nat.zero_le _, rfl, rfl, Below.refl _ _⟩
  case round =>
    obtain ⟨k, hk, rfl, hany, hb⟩ := hrel
    by_cases hlt : k < l.length
    · obtain ⟨b, off, rfl, hbl, hc⟩ := h0.row (by rintro rfl; simp at hlt)
      have hck : wr.cell? ⟨b, off + k, none⟩ = some (.int .i64 (l.getD k 0)) := by rw [hb.cell hbl, hc k hlt]
      have hpk := hp (l.getD k 0) (getD_mem hlt) wr hb
      have HA : Hid ((l.take (k + 1)).any p = ((l.take k).any p || p (l.getD k 0))) := any_take_succ p l k hlt
      have HP : Hid (p (l.getD k 0) = true → l.any p = true) := fun h => List.any_eq_true.2 ⟨_, getD_mem hlt, h⟩
      clear hp hc h0 h
      generalize l.getD k 0 = x at *
      go_wp2_with (go_at_fn g; refine hpk.mono ?_; rintro e w' ⟨rfl, hb'⟩)
      · have hpx : p x = true := by assumption
        go_ret
        exact ⟨⟨_, rfl, by rw [HP.out hpx]; simp⟩, hb.trans (hb'.mono hb.size)⟩
      · have hpx : p x = false := by assumption
        go_roundw
        case rel => exact ⟨k + 1, by omega, by go_num, by rw [HA.out, hany.out, hpx]; rfl, hb.trans (hb'.mono hb.size)⟩
        case measure => simp [intOf]; omega
    · go_wp2
      go_ret
      exact ⟨⟨_, rfl, by have := hany.out; rw [List.take_of_length_le (by omega)] at this; rw [this]; simp⟩, hb⟩

theorem containsFunc_any (g : FuncId) (lb : Array Value) (p : Int → Bool) (l : List Int) (v : Value) (w : World)
    (eg : ∀ args w, (callFunc g args).run Try.prog w = .ok (.enter g args) w) (hp : Pred1 g lb p l w) (h : Ints w v l) :
    Calls Try.prog 46 #[v, .func (.func g) #[] lb] w fun e w' => e = .returned (.bool (l.any p)) ∧ Below w.heap.size w w' := by
  have hi := indexFunc_any g lb p l v w eg hp h
  clear hp h
  go_enter Try.func46, Try.ntmps46
  go_wp2_with (go_at_call 57; refine hi.mono ?_; rintro e w' ⟨⟨r, rfl, hr⟩, hb⟩; have HR := Lib.hid hr; clear hr)
  go_ret
  exact ⟨ret_bool HR.out, hb⟩

theorem anyFar_any (l : List Int) (v : Value) (b : Int) (w : World) (hb : 0 ≤ b) (hb2 : b ≤ 1099511627776) (h : Ints w v l) :
    Calls Try.prog 55 #[v, .int .i64 b] w fun e w' => e = .returned (.bool (l.any (Fta.far b))) ∧ Below w.heap.size w w' := by
  have hal : Below w.heap.size w (w.alloc (.cells #[.int .i64 b] 2)) := (Below.refl _ _).alloc (Nat.le_refl _) _
  have hc := containsFunc_any 63 #[.pointer (some ⟨w.heap.size, 0, none⟩)] (Fta.far b) l v (w.alloc (.cells #[.int .i64 b] 2)) (enters_of Try.func63 (by kernel_rfl) rfl)
    (fun x _ W hW => (anyFar1 x b w.heap.size W hb hb2 (by rw [hW.cell (by simp)]; simp)).mono fun e W' ⟨he, hw⟩ => ⟨he, hw ▸ Below.refl _ _⟩) (h.below hal)
  clear h
  go_enter Try.func55, Try.ntmps55
  go_wp2_with (go_at_call 46; refine hc.mono ?_; rintro e w' ⟨rfl, hb'⟩)
  go_ret
  exact ⟨rfl, hal.trans (hb'.mono (by simp))⟩

theorem take_getD (l : List Int) (k : Nat) (h : k < l.length) : l.take (k + 1) = l.take k ++ [l.getD k 0] := by
  rw [List.take_succ_eq_append_getElem h]
  simp [List.getD_eq_getElem?_getD, h]

theorem equal_any (l m : List Int) (v u : Value) (w : World) (h : Ints w v l) (h' : Ints w u m) :
    Calls Try.prog 31 #[v, u] w fun e w' => e = .returned (.bool (decide (l = m))) ∧ Below w.heap.size w w' := by
  have h0 := h
  have h0' := h'
  obtain ⟨a, cap, rfl, h1, h2, h3⟩ := h.shape
  obtain ⟨a', cap', rfl, h1', h2', h3'⟩ := h'.shape
  clear h h'
  by_cases hl : l.length = m.length
  · have HL := Lib.hid hl
    rw [hl] at h1 h3 h0 ⊢
    clear hl
    go_enter Try.func31, Try.ntmps31
    go_wp2
    go_loopw [13] (fun i wr => ∃ k : Nat, k ≤ m.length ∧ i = .int .i64 k ∧ Hid (l.take k = m.take k) ∧ Below w.heap.size w wr) (fun i _ => m.length - (intOf i).toNat)
    case atStart => exact ⟨0, Nat.zero_le _, rfl, rfl, Below.refl _ _⟩
    case round =>
      obtain ⟨k, hk, rfl, hany, hb⟩ := hrel
      by_cases hlt : k < m.length
      · obtain ⟨b, off, rfl, hbl, hc⟩ := h0.row (by rintro rfl; simp [← HL.out] at hlt)
        obtain ⟨b', off', rfl, hbl', hc'⟩ := h0'.row (by rintro rfl; simp at hlt)
        have hck : wr.cell? ⟨b, off + k, none⟩ = some (.int .i64 (l.getD k 0)) := by rw [hb.cell hbl, hc k (by rw [HL.out]; exact hlt)]
        have hck' : wr.cell? ⟨b', off' + k, none⟩ = some (.int .i64 (m.getD k 0)) := by rw [hb.cell hbl', hc' k hlt]
        have hi : (k : Int) < m.length := by omega
        clear hc hc' h0 h0'
        obtain ⟨x, hx⟩ : ∃ x, x = l.getD k 0 := ⟨_, rfl⟩
        obtain ⟨y, hy⟩ : ∃ y, y = m.getD k 0 := ⟨_, rfl⟩
        rw [← hx] at hck
        rw [← hy] at hck'
        have HX := Lib.hid hx
        have HY := Lib.hid hy
        clear hx hy
        have HT : Hid (l.take (k + 1) = l.take k ++ [x] ∧ m.take (k + 1) = m.take k ++ [y]) := ⟨by rw [HX.out]; exact take_getD l k (by rw [HL.out]; exact hlt), by rw [HY.out]; exact take_getD m k hlt⟩
        by_cases hxy : x = y
        · subst hxy
          go_wp2
          go_quiet (fail)
          go_wp2
          go_roundw
          case rel => exact ⟨k + 1, by omega, by go_num, show _ = _ by rw [HT.out.1, HT.out.2, hany.out], below_drewN hb _⟩
          case measure => simp [intOf]; omega
        · have hxy' : (x == y) = false := by simpa using hxy
          have hxy'' : (x != y) = true := by simpa using hxy
          have HN := Lib.hid hxy
          clear hxy
          go_wp2
          go_quiet (fail)
          go_wp2
          go_ret
          refine ⟨ret_bool ?_, below_drewN hb _⟩
          rw [eq_comm, decide_eq_false_iff_not]
          intro e
          subst e
          exact HN.out (by rw [HX.out, HY.out])
      · go_wp2
        go_ret
        refine ⟨ret_bool ?_, hb⟩
        rw [eq_comm, decide_eq_true_iff]
        have := hany.out
        rwa [List.take_of_length_le (by rw [HL.out]; omega), List.take_of_length_le (by omega)] at this
  · have hl' : ((l.length : Int) != m.length) = true := by simp; omega
    have HL := Lib.hid hl
    clear hl
    go_enter Try.func31, Try.ntmps31
    go_wp2
    go_ret
    refine ⟨ret_bool ?_, Below.refl _ _⟩
    rw [eq_comm, decide_eq_false_iff_not]
    intro e
    exact HL.out (by rw [e])
end Go.Proofs.Ytimcljlbjnhpnaa
