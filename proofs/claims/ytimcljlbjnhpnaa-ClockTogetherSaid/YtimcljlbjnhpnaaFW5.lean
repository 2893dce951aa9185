/- Contracts: the library's sort on a row of the call's own; the program's Kept and Midpoint; the document's Midpoint. -/
import Derived.Test.YtimcljlbjnhpnaaFW4
import Derived.Lib.OwnBridge
namespace Go.Proofs.Ytimcljlbjnhpnaa
open Go.RowKit Go.Shelf

theorem below_grow {B : Nat} {w0 w : World} (h : Below B w0 w) (hB : B ≤ w.heap.size) (os : Array Obj) : Below B w0 (Sort.grow w os) :=
  h.trans ⟨rfl, rfl, rfl, by simp, fun k hk => Sort.heap_grow_old w os (by omega)⟩

/-- slices.Sort on what the call owns. -/
theorem sort_own (l : List Int) (g cap B : Nat) (w0 w : World) (hb : Below B w0 w) (hB : B ≤ w.heap.size) (hl : l.length ≤ 17592186044416)
    (h : w.ownsRow B 2 1 (.slice (some ⟨g, 0, none⟩) l.length cap) l.length (l.map (Value.int .i64))) :
    Calls Try.prog 56 #[.slice (some ⟨g, 0, none⟩) l.length cap] w fun e w' =>
      e = .returned (.tuple #[]) ∧ w'.ownsRow B 2 1 (.slice (some ⟨g, 0, none⟩) l.length cap) l.length ((Fta.srt l).map (Value.int .i64)) ∧ Below B w0 w' := by
  obtain ⟨g', cap', e, hg, hlt, _, _, _, hH⟩ := Lib.holds_of_ownsRow h (by simp)
  simp only [Value.slice.injEq, Option.some.injEq, Addr.mk.injEq, and_true, true_and] at e
  obtain ⟨rfl, rfl⟩ := e
  refine (Try.slices_Sort_int g 0 cap l w hH hlt (by omega)).mono fun e w' ⟨he, n, os, hw⟩ => ?_
  subst hw
  refine ⟨he, ?_, below_grow (Lib.below_putRow hb hg) (by simpa using hB) os⟩
  have h1 := Lib.ownsRow_putRow (q := n) h (ys := Fta.srt l) (Fta.srt_len l) (Nat.le_refl _)
  rw [List.take_of_length_le (by rw [Fta.srt_len]; exact Nat.le_refl _)] at h1
  refine h1.kept (row := none) ⟨rfl, rfl, rfl, by simp, fun k hk _ => Sort.heap_grow_old _ os hk⟩ (.inr (by simp [Value.ownBlock]))

theorem srt_cell (l : List Int) (j : Nat) (hj : j < l.length) : ((Fta.srt l).map (Value.int .i64))[j]? = some (.int .i64 (Fta.ord l j)) := by
  have hj' : j < (Fta.srt l).length := by rw [Fta.srt_len]; exact hj
  simp [Fta.ord, List.getD_eq_getElem?_getD, hj']

set_option maxRecDepth 100000 in
set_option maxHeartbeats 1600000 in
/-- The program's Kept, where it comes to its sort. -/
theorem kept_main (l : List Int) (v : Value) (w : World) (h : Ints w v l) (hn : l ≠ []) (hf : l.any (Fta.far Fta.bigB) = false) :
    Calls Try.prog 43 #[v] w fun e w' => e = .returned (.tuple #[.int .i64 (Fta.kept l).1, .int .i64 (Fta.kept l).2.1, .int .i64 (Fta.kept l).2.2]) ∧ Below w.heap.size w w' := by
  have h0 := h
  obtain ⟨a, cap, rfl, h1, h2, h3⟩ := h.shape
  have haf := anyFar_any l _ Fta.bigB w (by decide) (by decide) h0
  rw [hf] at haf
  have hp : 0 < l.length := List.length_pos_iff.2 hn
  have hlen : ((l.length : Int) == 0) = false := by simp; omega
  have hmk : ∀ W : World, Below w.heap.size w W → Ints W (.slice a l.length cap) l := fun W hW => h0.below hW
  clear h h0
  obtain ⟨i0, hi, hz0, hz1, hz2⟩ := info_parts E22.info
  have HN := Lib.hid hn
  have HF := Lib.hid hf
  clear hn hf
  go_enter Try.func43, Try.ntmps43
  go_wp2_with fail
  refine haf.mono ?_
  rintro e w1 ⟨rfl, hb1⟩
  clear haf
  go_wp2_with (first
    | (at_make; refine wpList_make_full _ rfl _ _ 26 rfl w.heap.size 2 i0 (.int .i64 0) 1 Try.underlying26 hi hz0 hz1 _ _ _ _ l.length rfl rfl rfl rfl (by rw [hz2]; omega) (by unfold maxLen; omega) hb1.size ?_; intro w2 hown2 hgrow2; have hb2 := hb1.grown hgrow2 hb1.size (by intro k hk; cases hk))
    | (refine wpList_copy_full E22 rfl _ _ rfl hown2 (hmk w2 hb2).src rfl rfl ?_; intro w3 hown3 hgrow3; have hb3 := below_app hb2 (Nat.le_refl _) hown2 hgrow3 hb2.size)
    | (go_at_call 56; refine (sort_own l w1.heap.size l.length w.heap.size w w3 hb3 hb3.size h3 hown3).mono ?_; rintro e w4 ⟨rfl, hown4, hb4⟩))
  · have h4 : (4 : Int) ≤ l.length := by assumption
    have c1 : w4.cell? ⟨w1.heap.size, 1, none⟩ = some (.int .i64 (Fta.ord l 1)) := by rw [hown4.cellAt 1 (by omega)]; exact srt_cell l 1 (by omega)
    have c2 : w4.cell? ⟨w1.heap.size, 1 + (l.length - 1 - 1 - 1), none⟩ = some (.int .i64 (Fta.ord l (l.length - 2))) := by
      rw [hown4.cellAt _ (by omega), show 1 + (l.length - 1 - 1 - 1) = l.length - 2 by omega]; exact srt_cell l _ (by omega)
    have i1 : (0 : Int) < ((l.length - 1 - 1 : Nat) : Int) := by omega
    have HK : Hid (Fta.kept l = (Fta.ord l 1, Fta.ord l (l.length - 2), 0)) := by
      show _ = _
      rw [Fta.kept_ord HN.out HF.out, if_pos (by omega), if_pos (by omega)]
    clear hown2 hown3 hown4 hgrow2 hgrow3 hmk
    generalize Fta.ord l 1 = x at *
    generalize Fta.ord l (l.length - 2) = y at *
    go_quiet (fail)
    go_wp2
    go_ret3
    exact ⟨by rw [HK.out]; rfl, below_drewN hb4 _⟩
  · have h4 : (l.length : Int) < 4 := by assumption
    have c1 : w4.cell? ⟨w1.heap.size, 0, none⟩ = some (.int .i64 (Fta.ord l 0)) := by rw [hown4.cellAt 0 (by omega)]; exact srt_cell l 0 (by omega)
    have c2 : w4.cell? ⟨w1.heap.size, l.length - 1, none⟩ = some (.int .i64 (Fta.ord l (l.length - 1))) := by
      rw [hown4.cellAt _ (by omega)]; exact srt_cell l _ (by omega)
    have HK : Hid (Fta.kept l = (Fta.ord l 0, Fta.ord l (l.length - 1), 0)) := by
      show _ = _
      rw [Fta.kept_ord HN.out HF.out, if_neg (by omega), if_neg (by omega)]
    clear hown2 hown3 hown4 hgrow2 hgrow3 hmk
    generalize Fta.ord l 0 = x at *
    generalize Fta.ord l (l.length - 1) = y at *
    go_quiet (fail)
    go_wp2
    go_ret3
    exact ⟨by rw [HK.out]; rfl, below_drewN hb4 _⟩

theorem kept_far {l : List Int} (h : l ≠ []) (hf : l.any (Fta.far Fta.bigB) = true) : Fta.kept l = (0, 0, 80) := by
  unfold Fta.kept
  rw [if_neg h, if_pos hf]

/-- The program's Kept. -/
theorem kept_any (l : List Int) (v : Value) (w : World) (h : Ints w v l) :
    Calls Try.prog 43 #[v] w fun e w' => e = .returned (.tuple #[.int .i64 (Fta.kept l).1, .int .i64 (Fta.kept l).2.1, .int .i64 (Fta.kept l).2.2]) ∧ Below w.heap.size w w' := by
  by_cases hn : l = []
  · obtain ⟨a, cap, rfl, h1, h2, h3⟩ := h.shape
    subst hn
    clear h
    go_enter Try.func43, Try.ntmps43
    go_wp2
    go_ret3
    exact ⟨rfl, Below.refl _ _⟩
  · by_cases hf : l.any (Fta.far Fta.bigB) = false
    · exact kept_main l v w h hn hf
    · have hf' : l.any (Fta.far Fta.bigB) = true := by simpa using hf
      have HK := Lib.hid (kept_far hn hf')
      have haf := anyFar_any l _ Fta.bigB w (by decide) (by decide) h
      rw [hf'] at haf
      obtain ⟨a, cap, rfl, h1, h2, h3⟩ := h.shape
      have hp : 0 < l.length := List.length_pos_iff.2 hn
      have hlen : ((l.length : Int) == 0) = false := by simp; omega
      clear h hn hf hf'
      go_enter Try.func43, Try.ntmps43
      go_wp2_with fail
      refine haf.mono ?_
      rintro e w1 ⟨rfl, hb1⟩
      clear haf
      go_wp2
      go_ret3
      exact ⟨by rw [HK.out]; rfl, hb1⟩

/-- The program's Midpoint. -/
theorem mid_any (l : List Int) (v : Value) (w : World) (h : Ints w v l) :
    Calls Try.prog 32 #[v] w fun e w' => e = .returned (.tuple #[.int .i64 (Fta.mid l).1, .int .i64 (Fta.mid l).2]) ∧ Below w.heap.size w w' := by
  have hk := kept_any l v w h
  have hb := Fta.kept_bd l
  unfold Fta.bigB at hb
  have HM : Hid ((Fta.mid l).1 = ((Fta.kept l).1 + (Fta.kept l).2.1) / 2 ∧ (Fta.mid l).2 = (Fta.kept l).2.2) := ⟨rfl, rfl⟩
  clear h
  generalize (Fta.kept l).1 = x at *
  generalize (Fta.kept l).2.1 = y at *
  generalize (Fta.kept l).2.2 = z at *
  obtain ⟨b1, b2, b3, b4, _⟩ := hb
  go_enter Try.func32, Try.ntmps32
  go_wp2_with fail
  refine hk.mono ?_
  rintro e w1 ⟨rfl, hb1⟩
  clear hk
  go_wp2
  go_ret2
  refine ⟨?_, hb1⟩
  rw [HM.out.1, HM.out.2]
  rfl

theorem kept_err (l : List Int) (h : (Fta.kept l).2.2 ≠ 0) : (Fta.kept l).1 = 0 ∧ (Fta.kept l).2.1 = 0 := by
  unfold Fta.kept at h ⊢
  by_cases hn : l = []
  · simp [hn]
  · by_cases hf : l.any (Fta.far Fta.bigB) = true
    · simp [hn, hf]
    · simp [hn, hf] at h

theorem tdiv_neg (s : Int) (h : s < 0) : s.tdiv 2 = -((-s) / 2) ∧ s.tmod 2 = -((-s) % 2) := by
  have h1 : (-s).tdiv 2 = (-s) / 2 := Int.tdiv_eq_ediv_of_nonneg (by omega)
  have h2 : (-s).tmod 2 = (-s) % 2 := Int.tmod_eq_emod_of_nonneg (by omega)
  rw [Int.neg_tdiv] at h1
  rw [Int.neg_tmod] at h2
  omega

/-- The document's Midpoint. -/
theorem rmid_any (l : List Int) (v : Value) (w : World) (h : Ints w v l) :
    Calls Try.prog 42 #[v] w fun e w' => e = .returned (.tuple #[.int .i64 (Fta.mid l).1, .int .i64 (Fta.mid l).2]) ∧ Below w.heap.size w w' := by
  have hk := rKept_any l v w h
  have hb := Fta.kept_bd l
  have he := kept_err l
  rw [← Fta.kept_eq] at hk
  unfold Fta.bigB at hb
  have HM : Hid ((Fta.mid l).1 = ((Fta.kept l).1 + (Fta.kept l).2.1) / 2 ∧ (Fta.mid l).2 = (Fta.kept l).2.2) := ⟨rfl, rfl⟩
  clear h
  generalize (Fta.kept l).1 = x at *
  generalize (Fta.kept l).2.1 = y at *
  generalize (Fta.kept l).2.2 = z at *
  obtain ⟨b1, b2, b3, b4, _⟩ := hb
  by_cases hz : z = 0
  · subst hz
    clear he
    by_cases hs : x + y < 0
    · have hs' : decide (x + y < 0) = true := by simpa using hs
      have ht := tdiv_neg (x + y) hs
      by_cases hm : (x + y).tmod 2 = 0
      · have hm' : ((x + y).tmod 2 != 0) = false := by simpa using hm
        have HR : Hid ((x + y) / 2 = (x + y).tdiv 2) := by show _ = _; omega
        clear hm ht
        go_enter Try.func42, Try.ntmps42
        go_wp2_with fail
        refine hk.mono ?_
        rintro e w1 ⟨rfl, hb1⟩
        clear hk
        go_wp2
        go_ret2
        refine ⟨?_, hb1⟩
        rw [HM.out.1, HM.out.2, HR.out]
        rfl
      · have hm' : ((x + y).tmod 2 != 0) = true := by simpa using hm
        have HR : Hid ((x + y) / 2 = (x + y).tdiv 2 - 1) := by show _ = _; omega
        have t1 : -2199023255552 ≤ (x + y).tdiv 2 := by omega
        have t2 : (x + y).tdiv 2 ≤ 2199023255552 := by omega
        clear hm ht
        go_enter Try.func42, Try.ntmps42
        go_wp2_with fail
        refine hk.mono ?_
        rintro e w1 ⟨rfl, hb1⟩
        clear hk
        go_wp2
        go_ret2
        refine ⟨?_, hb1⟩
        rw [HM.out.1, HM.out.2, HR.out]
        rfl
    · have hs' : decide (x + y < 0) = false := by simpa using hs
      have hs2 : 0 ≤ x + y := by omega
      clear hs
      go_enter Try.func42, Try.ntmps42
      go_wp2_with fail
      refine hk.mono ?_
      rintro e w1 ⟨rfl, hb1⟩
      clear hk
      go_wp2
      go_ret2
      refine ⟨?_, hb1⟩
      rw [HM.out.1, HM.out.2]
      rfl
  · have hz' : (z != 0) = true := by simpa using hz
    obtain ⟨rfl, rfl⟩ := he hz
    clear hz he
    go_enter Try.func42, Try.ntmps42
    go_wp2_with fail
    refine hk.mono ?_
    rintro e w1 ⟨rfl, hb1⟩
    clear hk
    go_wp2
    go_ret2
    refine ⟨?_, hb1⟩
    rw [HM.out.1, HM.out.2]
    rfl
end Go.Proofs.Ytimcljlbjnhpnaa
