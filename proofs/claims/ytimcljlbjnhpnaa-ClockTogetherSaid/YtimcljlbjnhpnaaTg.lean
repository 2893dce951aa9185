/- Clocks of a round, each of which sees each other's frame: where they stand, and how far apart they end (plain; no program). -/
import Derived.Test.YtimcljlbjnhpnaaFPlain
namespace Go.Proofs.Ytimcljlbjnhpnaa
namespace Tg

section
variable (slot : Int) (s0 : Nat → Int) (dr : Nat → Nat → Int)
/-- How far clock i has gone wrong before slot k. -/
def er (i : Nat) : Nat → Int
  | 0 => 0
  | k + 1 => er i k + dr k i
/-- Where clock i begins slot k. -/
def sk (i k : Nat) : Int := s0 i + (k : Int) * slot + er dr i k
theorem sk_zero (i : Nat) : sk slot s0 dr i 0 = s0 i := by simp [sk, er]
theorem sk_succ (i k : Nat) : sk slot s0 dr i (k + 1) = sk slot s0 dr i k + (slot + dr k i) := by
  have : ((k + 1 : Nat) : Int) * slot = (k : Int) * slot + slot := by
    rw [Int.natCast_add, Int.add_mul]; simp
  simp only [sk, er]
  omega
theorem er_bd {D : Int} (hd : ∀ k i, -D ≤ dr k i ∧ dr k i ≤ D) (i : Nat) : ∀ k : Nat, -((k : Int) * D) ≤ er dr i k ∧ er dr i k ≤ (k : Int) * D
  | 0 => by simp [er]
  | k + 1 => by
    have ih := er_bd hd i k
    have := hd k i
    have e : ((k + 1 : Nat) : Int) * D = (k : Int) * D + D := by rw [Int.natCast_add, Int.add_mul]; simp
    simp only [er]
    omega
/-- What clock i saw before slot k. -/
def dv (i k : Nat) : List Int := ((List.range k).filter fun t => t != i).map fun t => sk slot s0 dr t t - sk slot s0 dr i t
theorem dv_zero (i : Nat) : dv slot s0 dr i 0 = [] := by simp [dv]
theorem dv_succ {i k : Nat} (h : i ≠ k) : dv slot s0 dr i (k + 1) = dv slot s0 dr i k ++ [sk slot s0 dr k k - sk slot s0 dr i k] := by
  have : (k != i) = true := by simpa using fun e => h e.symm
  simp [dv, List.range_succ, List.filter_append, this]
theorem dv_self (k : Nat) : dv slot s0 dr k (k + 1) = dv slot s0 dr k k := by
  simp [dv, List.range_succ, List.filter_append]
theorem dv_len (i k : Nat) : (dv slot s0 dr i k).length ≤ k := by
  unfold dv
  rw [List.length_map]
  exact Nat.le_trans (List.length_filter_le _ _) (by simp)
/-- All that there is to see, itself as well. -/
def al (n i : Nat) : List Int := (List.range n).map fun t => sk slot s0 dr t t - sk slot s0 dr i t
theorem filter_out (n i : Nat) (hi : i < n) : (i :: (List.range n).filter fun t => t != i).Perm (List.range n) := by
  induction n with
  | zero => omega
  | succ n ih =>
    rw [List.range_succ, List.filter_append]
    by_cases h : i = n
    · subst h
      have : (List.range i).filter (fun t => t != i) = List.range i := by
        rw [List.filter_eq_self]; intro t ht; have := List.mem_range.1 ht; simp; omega
      rw [this]
      simp
      exact (List.perm_append_comm (l₁ := [i]) (l₂ := List.range i))
    · have hn : (n != i) = true := by simpa using fun e => h e.symm
      simp only [List.filter_cons, hn, if_true, List.filter_nil]
      rw [← List.cons_append]
      exact (ih (by omega)).append_right [n]
theorem al_perm {n i : Nat} (hi : i < n) : (0 :: dv slot s0 dr i n).Perm (al slot s0 dr n i) := by
  have h := (filter_out n i hi).map fun t => sk slot s0 dr t t - sk slot s0 dr i t
  simp only [List.map_cons] at h
  rw [show sk slot s0 dr i i - sk slot s0 dr i i = 0 by omega] at h
  exact h
end

/-- What is known of a round. -/
structure Rnd (n : Nat) (D slot win start : Int) (s0 : Nat → Int) (dr : Nat → Nat → Int) : Prop where
  n4 : 4 ≤ n
  n8 : n ≤ 8
  d0 : 0 ≤ D
  d1 : D ≤ 64
  hwin : 16 * (n : Int) * D + 16 ≤ win
  win1 : win ≤ 1048576
  slot0 : 4 * win ≤ slot
  slot1 : slot ≤ 16777216
  start0 : 0 ≤ start
  start1 : start ≤ 549755813888
  hs0 : ∀ i, start ≤ s0 i ∧ s0 i ≤ start + (14 * (n : Int) * D + 8)
  hdr : ∀ k i, -D ≤ dr k i ∧ dr k i ≤ D

theorem kD {k n : Nat} {D : Int} (h : k ≤ n) (hD : 0 ≤ D) : 0 ≤ (k : Int) * D ∧ (k : Int) * D ≤ (n : Int) * D :=
  ⟨Int.mul_nonneg (by omega) hD, Int.mul_le_mul_of_nonneg_right (by omega) hD⟩

section
variable {n : Nat} {D slot win start : Int} {s0 : Nat → Int} {dr : Nat → Nat → Int} (R : Rnd n D slot win start s0 dr)
include R
theorem Rnd.nD : 0 ≤ (n : Int) * D ∧ (n : Int) * D ≤ 512 ∧ 14 * (n : Int) * D = 14 * ((n : Int) * D) ∧ 16 * (n : Int) * D = 16 * ((n : Int) * D) := by
  have h0 := R.d0; have h1 := R.d1; have h8 := R.n8
  refine ⟨Int.mul_nonneg (by omega) h0, ?_, Int.mul_assoc .., Int.mul_assoc ..⟩
  have := Int.mul_le_mul (a := (n : Int)) (b := D) (c := 8) (d := 64) (by omega) h1 h0 (by omega)
  omega
theorem Rnd.ks {k : Nat} (h : k ≤ n) : (k : Int) * D ≤ (k : Int) * slot ∧ (k : Int) * slot ≤ 8 * 16777216 := by
  have h0 := R.d1; have h1 := R.slot0; have h2 := R.slot1; have h3 := R.n8; have := R.nD; have := R.hwin
  refine ⟨Int.mul_le_mul_of_nonneg_left (by omega) (by omega), ?_⟩
  exact Int.mul_le_mul (by omega) h2 (by omega) (by omega)
/-- Where a clock may be. -/
theorem Rnd.at {i k : Nat} (h : k ≤ n) : 0 ≤ sk slot s0 dr i k ∧ sk slot s0 dr i k ≤ 549755813888 + 134300000 := by
  have h1 := R.hs0 i
  have h2 := er_bd dr R.hdr i k
  have h3 := R.ks h
  have h4 := kD h R.d0
  have h5 := R.nD
  have h6 := R.start0; have h7 := R.start1
  unfold sk
  omega
/-- Two clocks in one slot. -/
theorem Rnd.apart (i j k : Nat) : sk slot s0 dr i k - sk slot s0 dr j k ≤ 14 * ((n : Int) * D) + 8 + 2 * ((k : Int) * D) ∧ s0 i - s0 j - 2 * ((k : Int) * D) ≤ sk slot s0 dr i k - sk slot s0 dr j k ∧ sk slot s0 dr i k - sk slot s0 dr j k ≤ s0 i - s0 j + 2 * ((k : Int) * D) := by
  have h1 := R.hs0 i
  have h2 := R.hs0 j
  have h3 := er_bd dr R.hdr i k
  have h4 := er_bd dr R.hdr j k
  have h5 := R.nD
  unfold sk
  omega
/-- What is seen lies within the window. -/
theorem Rnd.seen {i j k : Nat} (h : k ≤ n) : -win + 8 ≤ sk slot s0 dr i k - sk slot s0 dr j k ∧ sk slot s0 dr i k - sk slot s0 dr j k ≤ win - 8 := by
  have h1 := (R.apart i j k).1
  have h2 := (R.apart j i k).1
  have h3 := kD h R.d0
  have h4 := R.nD
  have h5 := R.hwin
  omega
theorem Rnd.dv_mem {i k : Nat} (h : k ≤ n) {x : Int} (hx : x ∈ dv slot s0 dr i k) : -win + 8 ≤ x ∧ x ≤ win - 8 := by
  unfold dv at hx
  obtain ⟨t, ht, rfl⟩ := List.mem_map.1 hx
  have := List.mem_range.1 (List.mem_filter.1 ht).1
  exact R.seen (by omega)
theorem Rnd.mid {l : List Int} (hl : ∀ x ∈ l, -win + 8 ≤ x ∧ x ≤ win - 8) (h0 : l ≠ []) : (Fta.mid l).2 = 0 ∧ -win ≤ (Fta.mid l).1 ∧ (Fta.mid l).1 ≤ win := by
  have hw := R.win1
  have hok : (Fta.mid l).2 = 0 := Fta.mid_ok.2 ⟨h0, fun x hx => by have := hl x hx; unfold Fta.bigB; omega⟩
  have hf : l.any (Fta.far Fta.bigB) = false := by
    rw [List.any_eq_false]
    intro x hx
    have := hl x hx
    have hB : Fta.bigB = 1099511627776 := rfl
    simp [Fta.far]; omega
  have hk := Fta.kept_ord h0 hf
  have hm := Fta.mid_within l
  have hp : 0 < l.length := List.length_pos_iff.2 h0
  have hmem : ∀ j, j < l.length → -win ≤ Fta.ord l j ∧ Fta.ord l j ≤ win := fun j hj => by
    have hj' : j < (Fta.srt l).length := by rw [Fta.srt_len]; exact hj
    have e : Fta.ord l j = (Fta.srt l)[j] := by simp [Fta.ord, List.getD_eq_getElem?_getD, hj']
    have := hl _ ((Fta.srt_perm l).mem_iff.1 (List.getElem_mem hj'))
    omega
  rw [hk] at hm
  simp only at hm
  by_cases h4 : 4 ≤ l.length
  · simp only [h4, if_true] at hm
    have := hmem 1 (by omega); have := hmem (l.length - 2) (by omega)
    exact ⟨hok, by omega, by omega⟩
  · simp only [h4, if_false] at hm
    have := hmem 0 (by omega); have := hmem (l.length - 1) (by omega)
    exact ⟨hok, by omega, by omega⟩
/-- Where clock i ends. -/
def fin (n : Nat) (slot : Int) (s0 : Nat → Int) (dr : Nat → Nat → Int) (i : Nat) : Int := sk slot s0 dr i n + (Fta.mid (0 :: dv slot s0 dr i n)).1
theorem Rnd.own_mid (i : Nat) : (Fta.mid (0 :: dv slot s0 dr i n)).2 = 0 ∧ -win ≤ (Fta.mid (0 :: dv slot s0 dr i n)).1 ∧ (Fta.mid (0 :: dv slot s0 dr i n)).1 ≤ win := by
  have h5 := R.hwin; have h4 := R.nD
  refine R.mid (fun x hx => ?_) (by simp)
  rcases List.mem_cons.1 hx with rfl | hx
  · omega
  · exact R.dv_mem (Nat.le_refl _) hx
theorem Rnd.fin_bd (i : Nat) : 0 ≤ fin n slot s0 dr i ∧ fin n slot s0 dr i ≤ 549755813888 + 136000000 := by
  have h1 := R.hs0 i
  have h2 := er_bd dr R.hdr i n
  have h3 := R.ks (Nat.le_refl n)
  have h5 := R.nD
  have h6 := R.start0; have h7 := R.start1; have h8 := R.win1
  have h9 := R.own_mid i
  have h10 : 4 * slot ≤ (n : Int) * slot := Int.mul_le_mul_of_nonneg_right (by have := R.n4; omega) (by have := R.slot0; have := R.hwin; omega)
  have h11 := R.slot0; have h12 := R.hwin
  unfold fin sk
  omega
theorem Rnd.close {i j : Nat} (hi : i < n) (hj : j < n) : fin n slot s0 dr j - fin n slot s0 dr i ≤ 6 * ((n : Int) * D) + 2 := by
  obtain ⟨mi, _⟩ := R.own_mid i
  obtain ⟨mj, _⟩ := R.own_mid j
  have pi := Fta.mid_perm (al_perm slot s0 dr hi)
  have pj := Fta.mid_perm (al_perm slot s0 dr hj)
  rw [pi] at mi
  rw [pj] at mj
  have h5 := R.nD
  have hge := Fta.mid_ge (l := al slot s0 dr n j) (l' := al slot s0 dr n i) (d := s0 j - s0 i - 2 * ((n : Int) * D)) (by simp [al]) (fun t h h' => by
    have ht : t < n := by simpa [al] using h
    simp only [al, List.getElem_map, List.getElem_range]
    have h1 := (R.apart j i t).2.1
    have h2 := kD (k := t) (n := n) (by omega) R.d0
    omega) mj mi
  have h1 := (R.apart j i n).2.2
  unfold fin
  rw [pi, pj]
  omega
end

end Tg
end Go.Proofs.Ytimcljlbjnhpnaa
