/- The walk of FtaRises. -/
import Derived.Test.YtalcgleepobccaaW6
namespace Go.Proofs.Ytalcgleepobccaa
open Go.RowKit Go.Shelf

/-- A row of integers of the call's own, at its head. -/
theorem own_head {w : World} {base : Nat} {v : Value} {l : List Int} (h : w.ownsRow base 2 1 v l.length (l.map (Value.int .i64))) (hl : l ≠ []) :
    ∃ g cap, v = .slice (some ⟨g, 0, none⟩) l.length cap ∧ base ≤ g ∧ g < w.heap.size ∧ l.length ≤ cap ∧ cap ≤ 9223372036854775807 ∧
      (∀ j, j < l.length → w.cell? ⟨g, j, none⟩ = some (.int .i64 (l.getD j 0))) ∧ ∀ j, w.frozen? ⟨g, j, none⟩ = false := by
  rcases h.2 with ⟨rfl, h0⟩ | ⟨g, cap, cur, rfl, hg, hh, h1, h2, h3, h4⟩
  · exact absurd (List.eq_nil_of_length_eq_zero h0) hl
  · refine ⟨g, cap, rfl, hg, (Array.getElem?_eq_some_iff.1 hh).1, h1, by simpa [maxLen] using h2, fun j hj => ?_, fun j => h.frozenAt j⟩
    rw [h.cellAt j (by simpa using hj)]
    simp [List.getD_eq_getElem?_getD, hj]

theorem map_set (l : List Int) (k : Nat) (x : Int) : (l.map (Value.int .i64)).set k (.int .i64 x) = (l.set k x).map (Value.int .i64) := by
  rw [List.map_set]

/-- What a raised number does to the mean. -/
theorem rises_plain (l : List Int) (k : Nat) (b : Int) (hb : 0 ≤ b) (e : (Fta.mid l).2 = 0) (e' : (Fta.mid (l.set k (l.getD k 0 + b))).2 = 0) : (Fta.mid l).1 ≤ (Fta.mid (l.set k (l.getD k 0 + b))).1 := by
  have := Fta.mid_ge (l := l) (l' := l.set k (l.getD k 0 + b)) (d := 0) (by simp) (fun i h h' => by
    rw [List.getElem_set]
    split
    · rename_i hki; subst hki; simp [List.getD_eq_getElem?_getD, h]; omega
    · omega) e e'
  omega

set_option maxHeartbeats 800000 in
theorem rises_walk (l0 : List Int) (v0 : Value) (a b : Int) (w : World) (h : Ints w v0 l0) (ha : 0 ≤ a) (ha2 : a ≤ 255) (hb : 0 ≤ b) (hb2 : b ≤ 65535) :
    Calls Try.prog 4 #[v0, .int .u8 a, .int .u16 b] w fun e w' => e = .returned (.bool true) ∧ Below w.heap.size w w' := by
  go_enter Try.func4, Try.ntmps4
  go_wp2_with fail
  refine (few_any l0 v0 w h).mono ?_
  rintro e w' ⟨⟨v, rfl, hv⟩, rfl⟩
  clear h
  generalize l0.take 60 = l at *
  go_wp2_with fail
  refine (mid_any l v _ hv).mono ?_
  rintro e w1 ⟨rfl, hb1⟩
  have hv1 := hv.below hb1
  clear hv
  have hmid := @Fta.mid_ok l
  obtain ⟨m, hm⟩ : ∃ m, m = (Fta.mid l).1 := ⟨_, rfl⟩
  obtain ⟨z, hz⟩ : ∃ z, z = (Fta.mid l).2 := ⟨_, rfl⟩
  rw [← hz] at hmid
  rw [← hm, ← hz]
  have HM := Lib.hid hm
  have HZ := Lib.hid hz
  clear hm hz
  by_cases hz : z = 0
  · subst hz
    obtain ⟨hne, hbd⟩ := hmid.1 rfl
    clear hmid
    have hp : 0 < l.length := List.length_pos_iff.2 hne
    have hlen := hv1.len
    obtain ⟨k, hk, hkl⟩ : ∃ k : Nat, a % (l.length : Int) = k ∧ k < l.length := ⟨(a % (l.length : Int)).toNat, by have := Int.emod_nonneg a (show (l.length : Int) ≠ 0 by omega); omega, by
      have h1 := Int.emod_nonneg a (show (l.length : Int) ≠ 0 by omega)
      have h2 := Int.emod_lt_of_pos a (show (0 : Int) < l.length by omega)
      omega⟩
    obtain ⟨av, cap, rfl, q1, q2, q3⟩ := hv1.shape
    go_wp2_with fail
    refine (begun_any _).mono ?_
    rintro e w2 ⟨rfl, hb2⟩
    have hv2 := hv1.below hb2
    go_wp2_with fail
    refine (clone_any l _ _ hv2).mono ?_
    rintro e w3 ⟨⟨u, rfl, hu⟩, hb3⟩
    obtain ⟨g, capg, rfl, hg, hgl, hlc, hcap, hcell, hfr⟩ := own_head hu hne
    have hck := hcell k hkl
    have hfk := hfr k
    have hxb := hbd _ (getD_mem hkl)
    unfold Fta.bigB at hxb
    clear hcell hfr
    obtain ⟨x, hx⟩ : ∃ x, x = l.getD k 0 := ⟨_, rfl⟩
    rw [← hx] at hck hxb
    have HX := Lib.hid hx
    clear hx
    go_wp2_with fail
    have hst := (hu.stored k (.int .i64 (x + b)))
    rw [map_set] at hst
    have hown4 : (w3.setCell ⟨g, k, none⟩ (.int .i64 (x + b))).ownsRow w2.heap.size 2 1 (.slice (some ⟨g, 0, none⟩) l.length capg) (l.set k (x + b)).length ((l.set k (x + b)).map (Value.int .i64)) := by
      rw [List.length_set]; exact hst.1
    have hi4 := Ints.of_owns hown4 (by rw [List.length_set]; exact hlen) (fun y hy => by
      rcases List.mem_or_eq_of_mem_set hy with hy | rfl
      · have := hbd y hy; unfold Fta.bigB at this; unfold I64; omega
      · unfold I64; omega)
    have b3 := hb1.trans ((hb2.trans (hb3.mono hb2.size)).mono hb1.size)
    have b4 : Below w.heap.size w (w3.setCell ⟨g, k, none⟩ (.int .i64 (x + b))) := b3.setCell (p := ⟨g, k, none⟩) (Nat.le_trans (Nat.le_trans hb1.size hb2.size) hg) _
    have hpl := rises_plain l k b hb
    rw [← HX.out, ← HM.out, ← HZ.out] at hpl
    refine (mid_any (l.set k (x + b)) _ _ hi4).mono ?_
    rintro e w5 ⟨rfl, hb5⟩
    have b5 := b4.trans (hb5.mono b4.size)
    clear hst hown4 hi4 hu hbd
    generalize (Fta.mid (l.set k (x + b))).1 = m' at *
    generalize (Fta.mid (l.set k (x + b))).2 = z' at *
    by_cases hz' : z' = 0
    · subst hz'
      have hle := hpl rfl rfl
      have hd : decide (m ≤ m') = true := by simpa using hle
      clear hpl
      go_wp2
      go_ret
      exact ⟨rfl, b5⟩
    · have hz2 : (z' != 0) = true := by simpa using hz'
      clear hpl hz'
      go_wp2
      go_ret
      exact ⟨rfl, b5⟩
  · have hz2 : (z != 0) = true := by simpa using hz
    clear hmid hz
    go_wp2_with fail
    refine (begun_any _).mono ?_
    rintro e w2 ⟨rfl, hb2⟩
    go_wp2_with fail
    refine (begun_any _).mono ?_
    rintro e w3 ⟨rfl, hb3⟩
    go_wp2_with fail
    go_ret
    exact ⟨rfl, hb1.trans ((hb2.trans (hb3.mono hb2.size)).mono hb1.size)⟩
end Go.Proofs.Ytalcgleepobccaa
