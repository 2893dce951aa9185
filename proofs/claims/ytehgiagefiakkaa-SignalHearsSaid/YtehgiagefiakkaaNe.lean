/- slices.Equal at integers and at spans. -/
import Derived.Test.YtehgiagefiakkaaNm
namespace Go.Proofs.Ytehgiagefiakkaa.Nm
open Go.RowKit Go.Shelf
open Sched (Sp bad)
namespace In

/-- A slice value of 64-bit integers that reads as l: nil or some row, below the heap's end. -/
def Ints (w : World) (v : Value) (l : List Int) : Prop :=
  ∃ a cap, v = .slice a l.length cap ∧ l.length ≤ cap ∧ cap ≤ 9223372036854775807 ∧ l.length ≤ 17592186044416 ∧ (∀ x ∈ l, I64 x) ∧ (a = none → cap = 0) ∧
    (l = [] ∨ ∃ b off, a = some ⟨b, off, none⟩ ∧ b < w.heap.size ∧ ∀ j, j < l.length → w.cell? ⟨b, off + j, none⟩ = some (.int .i64 (l.getD j 0)))

theorem Ints.below {w w' : World} {v : Value} {l : List Int} (h : Ints w v l) (hb : Below w.heap.size w w') : Ints w' v l := by
  obtain ⟨a, cap, rfl, h1, h2, h3, h5, h6, h4⟩ := h
  refine ⟨a, cap, rfl, h1, h2, h3, h5, h6, ?_⟩
  rcases h4 with h4 | ⟨b, off, rfl, hlt, hc⟩
  · exact .inl h4
  · refine .inr ⟨b, off, rfl, Nat.lt_of_lt_of_le hlt hb.size, fun j hj => ?_⟩
    rw [hb.cell hlt]
    exact hc j hj

theorem Ints.len {w : World} {v : Value} {l : List Int} (h : Ints w v l) : l.length ≤ 17592186044416 := by
  obtain ⟨a, cap, rfl, h1, h2, h3, _⟩ := h
  exact h3
theorem Ints.bd {w : World} {v : Value} {l : List Int} (h : Ints w v l) : ∀ x ∈ l, I64 x := by
  obtain ⟨a, cap, rfl, h1, h2, h3, h5, _⟩ := h
  exact h5
theorem Ints.row {w : World} {a : Option Addr} {n cap : Nat} {l : List Int} (h : Ints w (.slice a n cap) l) (hl : l ≠ []) :
    ∃ b off, a = some ⟨b, off, none⟩ ∧ b < w.heap.size ∧ ∀ j, j < l.length → w.cell? ⟨b, off + j, none⟩ = some (.int .i64 (l.getD j 0)) := by
  obtain ⟨a', cap', e, h1, h2, h3, h5, h6, h4⟩ := h
  simp only [Value.slice.injEq] at e
  obtain ⟨rfl, rfl, rfl⟩ := e
  exact h4.resolve_left hl
theorem Ints.shape {w : World} {v : Value} {l : List Int} (h : Ints w v l) : ∃ a cap, v = .slice a l.length cap ∧ l.length ≤ cap ∧ cap ≤ 9223372036854775807 ∧ l.length ≤ 17592186044416 := by
  obtain ⟨a, cap, rfl, h1, h2, h3, _⟩ := h
  exact ⟨a, cap, rfl, h1, h2, h3⟩

theorem getD_mem {l : List Int} {k : Nat} (h : k < l.length) : l.getD k 0 ∈ l := by simp [List.getD_eq_getElem?_getD, h]

theorem Ints.take {w : World} {a : Option Addr} {n cap : Nat} {l : List Int} (h : Ints w (.slice a n cap) l) (k : Nat) (hk : k ≤ l.length) : Ints w (.slice a k cap) (l.take k) := by
  obtain ⟨a', cap', e, h1, h2, h3, h5, h6, h4⟩ := h
  simp only [Value.slice.injEq] at e
  obtain ⟨rfl, rfl, rfl⟩ := e
  have hl : (l.take k).length = k := by simp; omega
  refine ⟨a, cap, by rw [hl], by omega, h2, by omega, fun x hx => h5 x (List.mem_of_mem_take hx), h6, ?_⟩
  rcases h4 with rfl | ⟨b, off, rfl, hlt, hc⟩
  · left; simp
  · refine .inr ⟨b, off, rfl, hlt, fun j hj => ?_⟩
    rw [hc j (by omega)]
    simp [List.getD_eq_getElem?_getD, show j < k by omega]

/-- What the call owns reads as it lies. -/
theorem Ints.of_owns {w : World} {base : Nat} {v : Value} {l : List Int} (h : w.ownsRow base 3 1 v l.length (l.map (Value.int .i64))) (hl : l.length ≤ 17592186044416) (hb : ∀ x ∈ l, I64 x) : Ints w v l := by
  rcases h.2 with ⟨rfl, h0⟩ | ⟨g, cap, cur, rfl, hg, hh, h1, h2, h3, h4⟩
  · have : l = [] := List.eq_nil_of_length_eq_zero h0
    subst this
    exact ⟨none, 0, rfl, by simp, by simp, by simp, by simp, by simp, .inl rfl⟩
  · refine ⟨_, _, rfl, h1, by simpa [maxLen] using h2, hl, hb, by simp, .inr ⟨g, 0, rfl, (Array.getElem?_eq_some_iff.1 hh).1, fun j hj => ?_⟩⟩
    rw [h.cellAt (0 + j) (by simpa using hj)]
    simp [List.getD_eq_getElem?_getD, hj]

/-- A row of integers as the source of an append. -/
theorem Ints.src {w : World} {v : Value} {l : List Int} (h : Ints w v l) : Src w v l.length (l.map (Value.int .i64)) 1 := by
  obtain ⟨a, cap, rfl, h1, h2, h3, h5, h6, h4⟩ := h
  refine ⟨a, cap, rfl, by simp, ints_oneCell _ _, ?_⟩
  rcases h4 with rfl | ⟨b, off, rfl, hlt, hc⟩
  · exact .inl ⟨rfl, h6⟩
  · refine .inr ⟨_, rfl, fun j u hu => ?_⟩
    have hj : j < l.length := by have := (List.getElem?_eq_some_iff.1 hu).1; simpa using this
    rw [Addr.add_lit, hc j hj]
    rw [List.getElem?_map, List.getElem?_eq_getElem hj] at hu
    simpa [List.getD_eq_getElem?_getD, hj] using hu

theorem take_getD (l : List Int) (k : Nat) (h : k < l.length) : l.take (k + 1) = l.take k ++ [l.getD k 0] := by
  rw [List.take_succ_eq_append_getElem h]
  simp [List.getD_eq_getElem?_getD, h]

theorem equal_any (l m : List Int) (v u : Value) (w : World) (h : Ints w v l) (h' : Ints w u m) :
    Calls Try.prog 31 #[v, u] w fun e w' => e = .returned (.bool (decide (l = m))) ∧ Below w.heap.size w w' := by
  have h0 := h
  have h0' := h'
  obtain ⟨a, cap, rfl, h1, h2, h3⟩ := h.shape
  obtain ⟨a', cap', rfl, h1', h2', h3'⟩ := h'.shape
  clear h h'
  by_cases hl : l.length = m.length
  · have HL := Lib.hid hl
    rw [hl] at h1 h3 h0 ⊢
    clear hl
    go_enter Try.func31, Try.ntmps31
    go_wp2
    go_loopw [13] (fun i wr => ∃ k : Nat, k ≤ m.length ∧ i = .int .i64 k ∧ Hid (l.take k = m.take k) ∧ Below w.heap.size w wr) (fun i _ => m.length - (intOf i).toNat)
    case atStart => exact ⟨0, Nat.zero_le _, rfl, rfl, Below.refl _ _⟩
    case round =>
      obtain ⟨k, hk, rfl, hany, hb⟩ := hrel
      by_cases hlt : k < m.length
      · obtain ⟨b, off, rfl, hbl, hc⟩ := h0.row (by rintro rfl; simp [← HL.out] at hlt)
        obtain ⟨b', off', rfl, hbl', hc'⟩ := h0'.row (by rintro rfl; simp at hlt)
        have hck : wr.cell? ⟨b, off + k, none⟩ = some (.int .i64 (l.getD k 0)) := by rw [hb.cell hbl, hc k (by rw [HL.out]; exact hlt)]
        have hck' : wr.cell? ⟨b', off' + k, none⟩ = some (.int .i64 (m.getD k 0)) := by rw [hb.cell hbl', hc' k hlt]
        have hi : (k : Int) < m.length := by omega
        clear hc hc' h0 h0'
        obtain ⟨x, hx⟩ : ∃ x, x = l.getD k 0 := ⟨_, rfl⟩
        obtain ⟨y, hy⟩ : ∃ y, y = m.getD k 0 := ⟨_, rfl⟩
        rw [← hx] at hck
        rw [← hy] at hck'
        have HX := Lib.hid hx
        have HY := Lib.hid hy
        clear hx hy
        have HT : Hid (l.take (k + 1) = l.take k ++ [x] ∧ m.take (k + 1) = m.take k ++ [y]) := ⟨by rw [HX.out]; exact take_getD l k (by rw [HL.out]; exact hlt), by rw [HY.out]; exact take_getD m k hlt⟩
        by_cases hxy : x = y
        · subst hxy
          go_wp2
          go_quiet (fail)
          go_wp2
          go_roundw
          case rel => exact ⟨k + 1, by omega, by go_num, show _ = _ by rw [HT.out.1, HT.out.2, hany.out], below_drewN hb _⟩
          case measure => simp [intOf]; omega
        · have hxy' : (x == y) = false := by simpa using hxy
          have hxy'' : (x != y) = true := by simpa using hxy
          have HN := Lib.hid hxy
          clear hxy
          go_wp2
          go_quiet (fail)
          go_wp2
          go_ret
          refine ⟨ret_bool ?_, below_drewN hb _⟩
          rw [eq_comm, decide_eq_false_iff_not]
          intro e
          subst e
          exact HN.out (by rw [HX.out, HY.out])
      · go_wp2
        go_ret
        refine ⟨ret_bool ?_, hb⟩
        rw [eq_comm, decide_eq_true_iff]
        have := hany.out
        rwa [List.take_of_length_le (by rw [HL.out]; omega), List.take_of_length_le (by omega)] at this
  · have hl' : ((l.length : Int) != m.length) = true := by simp; omega
    have HL := Lib.hid hl
    clear hl
    go_enter Try.func31, Try.ntmps31
    go_wp2
    go_ret
    refine ⟨ret_bool ?_, Below.refl _ _⟩
    rw [eq_comm, decide_eq_false_iff_not]
    intro e
    exact HL.out (by rw [e])
end In
theorem equal_any (l m : List Sp) (v u : Value) (w : World) (h : Spans w v l) (h' : Spans w u m) :
    Calls Try.prog 32 #[v, u] w fun e w' => e = .returned (.bool (decide (l = m))) ∧ Below w.heap.size w w' := by
  have h0 := h
  have h0' := h'
  obtain ⟨a, cap, rfl, h1, h2, h3⟩ := h.shape
  obtain ⟨a', cap', rfl, h1', h2', h3'⟩ := h'.shape
  clear h h'
  by_cases hl : l.length = m.length
  · have HL := Lib.hid hl
    rw [hl] at h1 h3 h0 ⊢
    clear hl
    have hgd := guardSp
    go_enter Try.func32, Try.ntmps32
    go_wp2
    go_loopw [13] (fun i wr => ∃ k : Nat, k ≤ m.length ∧ i = .int .i64 k ∧ Hid (l.take k = m.take k) ∧ Below w.heap.size w wr) (fun i _ => m.length - (intOf i).toNat)
    case atStart => exact ⟨0, Nat.zero_le _, rfl, rfl, Below.refl _ _⟩
    case round =>
      obtain ⟨k, hk, rfl, hany, hb⟩ := hrel
      by_cases hlt : k < m.length
      · obtain ⟨b, off, rfl, hbl, hc⟩ := h0.row (by rintro rfl; simp [← HL.out] at hlt)
        obtain ⟨b', off', rfl, hbl', hc'⟩ := h0'.row (by rintro rfl; simp at hlt)
        have hck : wr.cell? ⟨b, off + k * 2, none⟩ = some (.int .i64 (l.getD k (0, 0)).1) := by rw [hb.cell hbl, (hc k (by rw [HL.out]; exact hlt)).1]
        have hck1 : wr.cell? ⟨b, off + k * 2 + 1, none⟩ = some (.int .i64 (l.getD k (0, 0)).2) := by rw [hb.cell hbl, (hc k (by rw [HL.out]; exact hlt)).2]
        have hcu : wr.cell? ⟨b', off' + k * 2, none⟩ = some (.int .i64 (m.getD k (0, 0)).1) := by rw [hb.cell hbl', (hc' k hlt).1]
        have hcu1 : wr.cell? ⟨b', off' + k * 2 + 1, none⟩ = some (.int .i64 (m.getD k (0, 0)).2) := by rw [hb.cell hbl', (hc' k hlt).2]
        have hi : (k : Int) < m.length := by omega
        clear hc hc' h0 h0'
        obtain ⟨x, hx⟩ : ∃ x, x = l.getD k (0, 0) := ⟨_, rfl⟩
        obtain ⟨y, hy⟩ : ∃ y, y = m.getD k (0, 0) := ⟨_, rfl⟩
        rw [← hx] at hck hck1
        rw [← hy] at hcu hcu1
        have HT : Hid (l.take (k + 1) = l.take k ++ [x] ∧ m.take (k + 1) = m.take k ++ [y]) := ⟨by rw [hx]; exact take_getD l k (by rw [HL.out]; exact hlt), by rw [hy]; exact take_getD m k hlt⟩
        have HX := Lib.hid hx
        have HY := Lib.hid hy
        clear hx hy
        obtain ⟨f, t⟩ := x
        obtain ⟨g, u⟩ := y
        by_cases hxy : f = g ∧ t = u
        · obtain ⟨rfl, rfl⟩ := hxy
          have hne := neSp f t f t
          simp only [beq_self_eq_true, Bool.and_self, Bool.not_true] at hne
          go_wp2
          go_quiet (fail)
          go_wp2
          go_roundw
          case rel => exact ⟨k + 1, by omega, by go_num, show _ = _ by rw [HT.out.1, HT.out.2, hany.out], below_drewN hb _⟩
          case measure => simp [intOf]; omega
        · have hne := neSp f t g u
          rw [show (f == g && t == u) = false by simpa using hxy] at hne
          simp only [Bool.not_false] at hne
          have HN := Lib.hid hxy
          clear hxy
          go_wp2
          go_quiet (fail)
          go_wp2
          go_ret
          refine ⟨ret_bool ?_, below_drewN hb _⟩
          rw [eq_comm, decide_eq_false_iff_not]
          intro e
          subst e
          have := HX.out.trans HY.out.symm
          exact HN.out (by simpa using this)
      · go_wp2
        go_ret
        refine ⟨ret_bool ?_, hb⟩
        rw [eq_comm, decide_eq_true_iff]
        have := hany.out
        rwa [List.take_of_length_le (by rw [HL.out]; omega), List.take_of_length_le (by omega)] at this
  · have hl' : ((l.length : Int) != m.length) = true := by simp; omega
    have HL := Lib.hid hl
    clear hl
    go_enter Try.func32, Try.ntmps32
    go_wp2
    go_ret
    refine ⟨ret_bool ?_, Below.refl _ _⟩
    rw [eq_comm, decide_eq_false_iff_not]
    intro e
    exact HL.out (by rw [e])
end Go.Proofs.Ytehgiagefiakkaa.Nm
