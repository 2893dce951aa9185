/- Plain: clocks behind a round, and behind rounds in which nothing is seen wrong. -/
import Derived.Test.YtalcgleepobccaaR2
namespace Go.Proofs.Ytalcgleepobccaa
open Go.RowKit

theorem mid_in {l : List Int} {a b : Int} (h0 : l ≠ []) (hb : ∀ x ∈ l, -Fta.bigB ≤ x ∧ x ≤ Fta.bigB) (h : ∀ x ∈ l, a ≤ x ∧ x ≤ b) : a ≤ (Fta.mid l).1 ∧ (Fta.mid l).1 ≤ b := by
  have h1 : l.any (Fta.far Fta.bigB) = false := by
    rw [List.any_eq_false]
    intro x hx hf
    have := hb x hx
    have hf' : (decide (x < -Fta.bigB) || decide (Fta.bigB < x)) = true := hf
    simp at hf'
    omega
  have hw := Fta.mid_within l
  rw [Fta.kept_ord h0 h1] at hw
  have hpos : 0 < l.length := List.length_pos_iff.2 h0
  have hm : ∀ i, i < l.length → a ≤ Fta.ord l i ∧ Fta.ord l i ≤ b := by
    intro i hi
    have hm : Fta.ord l i ∈ Fta.srt l := by
      have hi' : i < (Fta.srt l).length := by rw [Fta.srt_len]; exact hi
      simp only [Fta.ord, List.getD_eq_getElem?_getD, List.getElem?_eq_getElem hi', Option.getD_some]
      exact List.getElem_mem hi'
    exact h _ ((Fta.srt_perm l).mem_iff.1 hm)
  by_cases h4 : 4 ≤ l.length
  · simp only [if_pos h4] at hw
    have ha := hm 1 (by omega)
    have hc := hm (l.length - 2) (by omega)
    omega
  · simp only [if_neg h4] at hw
    have ha := hm 0 (by omega)
    have hc := hm (l.length - 1) (by omega)
    omega

/-- What a node hears, in the bus's own time. -/
def sumRow (cl s : List Int) : List Int := (List.range cl.length).map fun k => cl.getD k 0 + s.getD k 0
theorem sumRow_len (cl s : List Int) : (sumRow cl s).length = cl.length := by simp [sumRow]
theorem rowOf_sum (cl s : List Int) (i : Nat) : rowOf cl i s = (sumRow cl s).map (· + -(cl.getD i 0)) := by
  unfold rowOf sumRow
  rw [List.map_map]
  apply List.map_congr_left
  intro k _
  simp only [Function.comp]
  omega
theorem sum_ok {cl s : List Int} (hn : cl ≠ []) (hs : s.length = cl.length) (hc : cl.any (Fta.far B38) = false) (hf : s.any (Fta.far B38) = false) : (Fta.mid (sumRow cl s)).2 = 0 := by
  refine Fta.mid_ok.2 ⟨fun e => ?_, fun x hx => ?_⟩
  · have := sumRow_len cl s
    rw [e] at this
    exact hn (List.eq_nil_of_length_eq_zero this.symm)
  · obtain ⟨k, hk, rfl⟩ := List.mem_map.1 hx
    have hk' := List.mem_range.1 hk
    have h1 := notFar hc hk'
    have h3 := notFar hf (show k < s.length by omega)
    unfold Fta.bigB
    omega
theorem rndAt_sum {cl s : List Int} {i : Nat} (hi : i < cl.length) (hs : s.length = cl.length) (hc : cl.any (Fta.far B38) = false) (hf : s.any (Fta.far B38) = false) :
    cl.getD i 0 + (Fta.mid (rowOf cl i s)).1 = (Fta.mid (sumRow cl s)).1 := by
  have h1 := (rowOf_ok hi hs hc hf).1
  rw [rowOf_sum] at h1
  have := Fta.mid_shift (sumRow cl s) (-(cl.getD i 0)) (sum_ok (by rintro rfl; simp at hi) hs hc hf) h1
  rw [rowOf_sum, this]
  omega

/-- No node sees anything wrong. -/
def zeros (n : Nat) : List Int := List.replicate n 0
theorem zeros_far (n : Nat) : (zeros n).any (Fta.far B38) = false := by
  rw [List.any_eq_false]
  intro x hx
  rw [List.eq_of_mem_replicate hx]
  decide
theorem sum_zeros (cl : List Int) : sumRow cl (zeros cl.length) = cl := by
  apply List.ext_getElem?
  intro k
  by_cases hk : k < cl.length
  · simp [sumRow, zeros, hk, List.getD_eq_getElem?_getD]
  · rw [List.getElem?_eq_none (by rw [sumRow_len]; omega), List.getElem?_eq_none (by omega)]
/-- Clocks behind a round in which nothing is seen wrong: all the same. -/
def flat1 (cl : List Int) : List Int := List.replicate cl.length (Fta.mid cl).1
def its (cl : List Int) : Nat → List Int
  | 0 => cl
  | k + 1 => flat1 (its cl k)
theorem its_len (cl : List Int) : ∀ k, (its cl k).length = cl.length
  | 0 => rfl
  | k + 1 => by rw [its, flat1, List.length_replicate, its_len cl k]
theorem far_of {l : List Int} (h : ∀ x ∈ l, -274877906944 ≤ x ∧ x ≤ 274877906944) : l.any (Fta.far B38) = false := by
  rw [List.any_eq_false]
  intro x hx hf
  have := h x hx
  have hf' : (decide (x < -274877906944) || decide (274877906944 < x)) = true := hf
  simp at hf'
  omega
theorem of_far {l : List Int} (h : l.any (Fta.far B38) = false) : ∀ x ∈ l, -274877906944 ≤ x ∧ x ≤ 274877906944 := fun x hx => by
  have := (List.any_eq_false.1 h) x hx
  have h' : ¬ (x < -274877906944 ∨ 274877906944 < x) := fun hh => this (by show (decide (x < -274877906944) || decide (274877906944 < x)) = true; simpa using hh)
  omega
theorem flat1_far {cl : List Int} (hn : cl ≠ []) (h : cl.any (Fta.far B38) = false) : (flat1 cl).any (Fta.far B38) = false := by
  refine far_of fun x hx => ?_
  rw [List.eq_of_mem_replicate hx]
  have hb := of_far h
  exact mid_in hn (fun x hx => by have := hb x hx; unfold Fta.bigB; omega) hb
theorem its_far {cl : List Int} (hn : cl ≠ []) (h : cl.any (Fta.far B38) = false) : ∀ k, (its cl k).any (Fta.far B38) = false
  | 0 => h
  | k + 1 => flat1_far (by intro e; have := its_len cl k; rw [e] at this; simp at this; exact hn (List.eq_nil_of_length_eq_zero this.symm)) (its_far hn h k)

/-- Rows that say nothing is wrong. -/
def allZero (n : Nat) (M : List Rw) : Prop := M.length = n ∧ ∀ r ∈ M, r.l = zeros n
theorem rnd_zero {cl : List Int} {M : List Rw} (h4 : 4 ≤ cl.length) (h8 : cl.length ≤ 8) (hz : allZero cl.length M) (hc : cl.any (Fta.far B38) = false) : rndE cl M = 0 ∧ rndL cl M = flat1 cl := by
  have ha : argBad cl M = false := by
    unfold argBad
    rw [show decide (cl.length < 4) = false by simp; omega, show decide (8 < cl.length) = false by simp; omega, hz.1]
    simp only [decide_true, Bool.not_true, Bool.or_false, Bool.false_or]
    rw [List.any_eq_false]
    intro r hr
    simp [lenNe, hz.2 r hr, zeros]
  have ho : offBad cl M = false := by
    unfold offBad
    rw [hc, Bool.false_or, List.any_eq_false]
    intro r hr
    rw [farRow, hz.2 r hr, zeros_far]
    simp
  unfold rndE rndL
  rw [ha, ho]
  refine ⟨rfl, ?_⟩
  show rnd cl M = flat1 cl
  unfold rnd flat1
  rw [List.eq_replicate_iff]
  refine ⟨by simp, fun x hx => ?_⟩
  obtain ⟨i, hi, rfl⟩ := List.mem_map.1 hx
  have hi' := List.mem_range.1 hi
  have hr : (M.map (·.l)).getD i [] = zeros cl.length := by
    have hiM : i < M.length := by rw [hz.1]; exact hi'
    simp [List.getD_eq_getElem?_getD, hiM, hz.2 M[i] (List.getElem_mem hiM)]
  unfold rndAt
  rw [hr, rndAt_sum hi' (by simp [zeros]) hc (zeros_far _), sum_zeros]

def setBad (cl : List Int) (r : Int) : Bool := decide (r < 0) || decide (64 < r) || decide (cl.length < 4) || decide (8 < cl.length)
def setE (cl : List Int) (r : Int) : Int := if setBad cl r then 2 else if cl.any (Fta.far B38) then 80 else 0
def setL (cl : List Int) (r : Int) : List Int := if setBad cl r then [] else if cl.any (Fta.far B38) then [] else its cl r.toNat
def SettlePost (cl : List Int) (r : Int) (w : World) (e : Ending) (w' : World) : Prop :=
  (∃ v', e = .returned (.tuple #[v', .int .i64 (setE cl r)]) ∧ w'.ownsRow w.heap.size 2 1 v' (setL cl r).length ((setL cl r).map (.int .i64))) ∧ Below w.heap.size w w'

/-- Behind a round that came well the clocks are no more than twice the error apart. -/
theorem rnd_apart {cl : List Int} {M : List Rw} {e : Int} (h : rndE cl M = 0) (he : ∀ r ∈ M, ∀ x ∈ r.l, -e ≤ x ∧ x ≤ e) : Fta.spread (rndL cl M) ≤ 2 * e + 1 ∧ 0 ≤ Fta.spread (rndL cl M) ∧ rndL cl M ≠ [] := by
  have ha : argBad cl M = false := by
    unfold rndE at h
    cases hq : argBad cl M with
    | false => rfl
    | true => rw [hq] at h; simp at h
  have ho : offBad cl M = false := by
    unfold rndE at h
    rw [ha] at h
    cases hq : offBad cl M with
    | false => rfl
    | true => rw [hq] at h; simp at h
  have hL : rndL cl M = rnd cl M := by unfold rndL; rw [ha, ho]; rfl
  rw [hL]
  simp only [argBad, Bool.or_eq_false_iff, decide_eq_false_iff_not, Bool.not_eq_false', decide_eq_true_eq] at ha
  obtain ⟨⟨⟨n4, n8⟩, hML⟩, hMl⟩ := ha
  simp only [offBad, Bool.or_eq_false_iff] at ho
  obtain ⟨hcf, hMf⟩ := ho
  have hn : cl ≠ [] := by rintro rfl; simp at n4
  have hcb := of_far hcf
  have hcok : (Fta.mid cl).2 = 0 := Fta.mid_ok.2 ⟨hn, fun x hx => by have := hcb x hx; unfold Fta.bigB; omega⟩
  have key : ∀ y ∈ rnd cl M, (Fta.mid cl).1 - e ≤ y ∧ y ≤ (Fta.mid cl).1 + e := by
    intro y hy
    obtain ⟨i, hi, rfl⟩ := List.mem_map.1 hy
    have hi' := List.mem_range.1 hi
    have hiM : i < M.length := by omega
    have hmem : M[i] ∈ M := List.getElem_mem hiM
    have hr : (M.map (·.l)).getD i [] = M[i].l := by simp [List.getD_eq_getElem?_getD, hiM]
    have hrl : M[i].l.length = cl.length := by
      have := (List.any_eq_false.1 hMl) _ hmem
      simp [lenNe] at this
      omega
    have hrf : M[i].l.any (Fta.far B38) = false := by
      have := (List.any_eq_false.1 hMf) _ hmem
      simpa [farRow] using this
    unfold rndAt
    rw [hr, rndAt_sum hi' hrl hcf hrf]
    have hok := sum_ok hn hrl hcf hrf
    have hsl := sumRow_len cl M[i].l
    have hel : ∀ k, k < cl.length → -e ≤ M[i].l.getD k 0 ∧ M[i].l.getD k 0 ≤ e := fun k hk => he _ hmem _ (getD_mem (by omega))
    have g1 := Fta.mid_ge (l := cl) (l' := sumRow cl M[i].l) (d := -e) hsl.symm (fun k hk hk' => by
      have := hel k hk
      simp only [sumRow, List.getElem_map, List.getElem_range, List.getD_eq_getElem?_getD, List.getElem?_eq_getElem hk, Option.getD_some] at this ⊢
      omega) hcok hok
    have g2 := Fta.mid_ge (l := sumRow cl M[i].l) (l' := cl) (d := -e) hsl (fun k hk hk' => by
      have := hel k hk'
      simp only [sumRow, List.getElem_map, List.getElem_range, List.getD_eq_getElem?_getD, List.getElem?_eq_getElem hk', Option.getD_some] at this ⊢
      omega) hok hcok
    omega
  have hne : rnd cl M ≠ [] := by
    intro e'
    have : (rnd cl M).length = cl.length := by simp [rnd]
    rw [e'] at this
    simp at this
    omega
  have h1 := key _ (Fta.least_mem hne)
  have h2 := key _ (Fta.most_mem hne)
  have h3 := Fta.least_le _ (Fta.most_mem hne)
  have hs : Fta.spread (rnd cl M) = Fta.most (rnd cl M) - Fta.least (rnd cl M) := if_neg hne
  rw [hs]
  exact ⟨by omega, by omega, hne⟩
theorem flat_spread {n : Nat} {x : Int} : Fta.spread (List.replicate n x) = 0 := by
  by_cases hn : n = 0
  · subst hn; rfl
  · have hne : List.replicate n x ≠ [] := by simp [hn]
    have h1 := List.eq_of_mem_replicate (Fta.least_mem hne)
    have h2 := List.eq_of_mem_replicate (Fta.most_mem hne)
    have hs : Fta.spread (List.replicate n x) = Fta.most (List.replicate n x) - Fta.least (List.replicate n x) := if_neg hne
    rw [hs]
    omega
end Go.Proofs.Ytalcgleepobccaa
