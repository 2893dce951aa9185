/- Contracts: few, slices.Clone at spans, the closure that counts. -/
import Derived.Test.YtiahmhmchppjgaaW4
namespace Go.Proofs.Ytiahmhmchppjgaa
open Go.RowKit Go.Shelf
open Sched (Sp bad)

theorem Spans.take {w : World} {a : Option Addr} {n cap : Nat} {l : List Sp} (h : Spans w (.slice a n cap) l) (k : Nat) (hk : k ≤ l.length) : Spans w (.slice a k cap) (l.take k) := by
  obtain ⟨a', cap', e, h1, h2, h3, h5, h6, h4⟩ := h
  simp only [Value.slice.injEq] at e
  obtain ⟨rfl, rfl, rfl⟩ := e
  have hl : (l.take k).length = k := by simp; omega
  refine ⟨a, cap, by rw [hl], by omega, h2, by omega, fun x hx => h5 x (List.mem_of_mem_take hx), h6, ?_⟩
  rcases h4 with rfl | ⟨b, off, rfl, hlt, hc⟩
  · left; simp
  · refine .inr ⟨b, off, rfl, hlt, fun j hj => ?_⟩
    have := hc j (by omega)
    simpa [List.getD_eq_getElem?_getD, show j < k by omega] using this

theorem few_any (l : List Sp) (v : Value) (w : World) (h : Spans w v l) :
    Calls Try.prog 13 #[v] w fun e w' => (∃ v', e = .returned v' ∧ Spans w v' (l.take 60)) ∧ w = w' := by
  have h0 := h
  obtain ⟨a, cap, rfl, h1, h2, h3⟩ := h.shape
  clear h
  go_enter Try.func13, Try.ntmps13
  go_wp2
  go_ret
  have hm : (min (l.length : Int) 60).toNat = min 60 l.length := by omega
  have ht : l.take 60 = l.take (min 60 l.length) := by rw [← List.take_take, List.take_length]
  refine ⟨⟨_, rfl, ?_⟩, rfl⟩
  rw [ht, ← hm]
  exact h0.take _ (by omega)

theorem clone_any (l : List Sp) (v : Value) (w : World) (h : Spans w v l) :
    Calls Try.prog 16 #[v] w fun e w' => (∃ v', e = .returned v' ∧ w'.ownsRow w.heap.size 23 2 v' l.length (l.flatMap encSp)) ∧ Below w.heap.size w w' := by
  have h0 := h
  obtain ⟨a, cap, rfl, h1, h2, h3⟩ := h.shape
  cases a with
  | none =>
    have hl : l = [] := by
      obtain ⟨a', cap', e, q1, q2, q3, q5, q6, q4⟩ := h
      simp only [Value.slice.injEq] at e
      obtain ⟨rfl, _, rfl⟩ := e
      have := q6 rfl
      exact List.eq_nil_of_length_eq_zero (by omega)
    subst hl
    have hcap : cap = 0 := by
      obtain ⟨a', cap', e, q1, q2, q3, q5, q6, q4⟩ := h
      simp only [Value.slice.injEq] at e
      obtain ⟨rfl, _, rfl⟩ := e
      exact q6 rfl
    subst hcap
    clear h h0
    have hq := fun w : World => Lib.run_eql_slice_nil (P := Try.prog) w 29 23 none 0 0 0 0 Try.underlying29
    go_enter Try.func16, Try.ntmps16
    go_wp2
    go_ret
    exact ⟨⟨_, rfl, by simpa using World.ownsRow_nil _ _ _ _⟩, Below.refl _ _⟩
  | some ad =>
    have hnq := fun w : World => Lib.run_eql_slice_nil (P := Try.prog) w 29 23 (some ad) l.length cap 0 0 Try.underlying29
    have hal : Below w.heap.size w (w.alloc (.cells #[] 23)) := (Below.refl _ _).alloc (Nat.le_refl _) _
    have hs := (h.below hal).src
    have hown : (w.alloc (.cells #[] 23)).ownsRow w.heap.size 23 2 (.slice (some ⟨w.heap.size, 0, none⟩) 0 0) 0 [] := World.ownsRow_made w #[] 0 (Nat.le_refl _) (by decide) rfl
    clear h h0
    go_enter Try.func16, Try.ntmps16
    go_wp2_with (at_builtin; refine wpList_app E29 rfl _ _ rfl hown hs rfl rfl (by omega) (by simp) ?_; intro v' w1 hown1 hgrow _)
    go_ret
    refine ⟨⟨_, rfl, by simpa using hown1⟩, below_app hal (Nat.le_refl _) hown hgrow (by simp)⟩

def inside (t : Int) (s : Sp) : Bool := decide (s.1 ≤ t) && decide (t < s.2)

/-- The closure: how many of the spans a moment lies in. -/
theorem count_any (l : List Sp) (v : Value) (g : Nat) (t : Int) (w : World) (h : Spans w v l) (hg : w.cell? ⟨g, 0, none⟩ = some (.int .i64 t)) :
    Calls Try.prog 15 #[v, .pointer (some ⟨g, 0, none⟩)] w fun e w' => e = .returned (.int .i64 (l.countP (inside t))) ∧ Below w.heap.size w w' := by
  have h0 := h
  obtain ⟨a, cap, rfl, h1, h2, h3⟩ := h.shape
  have hgl := World.block_lt_of_cell? _ _ hg
  clear h
  go_enter Try.func15, Try.ntmps15
  go_wp2
  go_loopw [4, 9] (fun c i wr => ∃ k : Nat, k ≤ l.length ∧ i = .int .i64 k ∧ (∃ z : Nat, z ≤ k ∧ c = .int .i64 z ∧ Hid (z = (l.take k).countP (inside t))) ∧ Below w.heap.size w wr) (fun _ i _ => l.length - (intOf i).toNat)
  case atStart => exact ⟨0, Nat.zero_le _, rfl, ⟨0, Nat.le_refl _, rfl, rfl⟩, Below.refl _ _⟩
  case round =>
    obtain ⟨k, hk, rfl, ⟨z, hz, rfl, hcount⟩, hb⟩ := hrel
    by_cases hlt : k < l.length
    · obtain ⟨b, off, rfl, hbl, hc⟩ := h0.row (by rintro rfl; simp at hlt)
      obtain ⟨d1, d2⟩ := hc k hlt
      have hck : wr.cell? ⟨b, off + k * 2, none⟩ = some (.int .i64 (l.getD k (0, 0)).1) := by rw [hb.cell hbl, d1]
      have hck1 : wr.cell? ⟨b, off + k * 2 + 1, none⟩ = some (.int .i64 (l.getD k (0, 0)).2) := by rw [hb.cell hbl, d2]
      have hgr : wr.cell? ⟨g, 0, none⟩ = some (.int .i64 t) := by rw [hb.cell hgl, hg]
      have hgr2 := World.block_lt_of_cell? _ _ hgr
      have hi : (k : Int) < l.length := by omega
      have HT : Hid ((l.take (k + 1)).countP (inside t) = (l.take k).countP (inside t) + (if inside t (l.getD k (0, 0)) then 1 else 0)) := by
        show _ = _
        rw [take_getD l k hlt, List.countP_append]
        simp [List.countP_cons]
      clear hc h0 d1 d2
      obtain ⟨x, hx⟩ : ∃ x, x = l.getD k (0, 0) := ⟨_, rfl⟩
      rw [← hx] at hck hck1 HT
      clear hx
      obtain ⟨f, u⟩ := x
      have hb2 := hb.alloc hb.size (.cells #[.int .i64 f, .int .i64 u] 23)
      by_cases hin : f ≤ t ∧ t < u
      · have HI : Hid (inside t (f, u) = true) := by show _ = _; simp [inside, hin.1, hin.2]
        obtain ⟨i1, i2⟩ := hin
        go_wp2
        go_roundw
        case rel => exact ⟨k + 1, by omega, by go_num, ⟨z + 1, by omega, by go_num, show _ = _ by rw [HT.out, HI.out, hcount.out]; simp⟩, hb2⟩
        case measure => simp [intOf]; omega
      · have HI : Hid (inside t (f, u) = false) := by
          show _ = _
          rw [Bool.eq_false_iff]; intro hh; simp [inside] at hh; exact hin hh
        rcases (show t < f ∨ (f ≤ t ∧ u ≤ t) by omega) with i1 | ⟨i1, i2⟩
        all_goals clear hin
        all_goals go_wp2
        all_goals go_roundw
        case' rel => exact ⟨k + 1, by omega, by go_num, ⟨z, by omega, rfl, show _ = _ by rw [HT.out, HI.out, hcount.out]; simp⟩, hb2⟩
        all_goals first
          | exact ⟨k + 1, by omega, by go_num, ⟨z, by omega, rfl, show _ = _ by rw [HT.out, HI.out, hcount.out]; simp⟩, hb2⟩
          | (simp [intOf]; omega)
    · go_wp2
      go_ret
      refine ⟨ret_int ?_, hb⟩
      have := hcount.out
      rw [List.take_of_length_le (by omega)] at this
      rw [this]
end Go.Proofs.Ytiahmhmchppjgaa
