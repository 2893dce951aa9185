/- What Send, See and Next tell of the clocks of a round (plain). -/
import Derived.Test.YtimcljlbjnhpnaaTr
import Derived.Test.YtimcljlbjnhpnaaN6
namespace Go.Proofs.Ytimcljlbjnhpnaa
open Go.RowKit Go.Shelf
open Md Tg

/-- Clock i before slot k. -/
def Qk (n : Nat) (slot : Int) (s0 : Nat → Int) (dr : Nat → Nat → Int) (k i : Nat) : Int × Int × List Int :=
  if k = n then (fin n slot s0 dr i, (n : Int), []) else (sk slot s0 dr i k, (k : Int), dv slot s0 dr i k)
/-- Clock i in slot k, behind what it saw. -/
def Vk (slot : Int) (s0 : Nat → Int) (dr : Nat → Nat → Int) (k i : Nat) : Int × Int × List Int := (sk slot s0 dr i k, (k : Int), dv slot s0 dr i (k + 1))

section
variable {m : Me} {n : Nat} {start : Int} {s0 : Nat → Int} {dr : Nat → Nat → Int}
theorem rnd_of (hM : okM m = true) (hn : m.nodes = (n : Int)) (h0 : 0 ≤ start) (h1 : start ≤ 549755813888) (hs : ∀ i, start ≤ s0 i ∧ s0 i ≤ start + (14 * (n : Int) * m.drift + 8)) (hd : ∀ k i, -m.drift ≤ dr k i ∧ dr k i ≤ m.drift) :
    Rnd n m.drift m.slot m.win start s0 dr := by
  obtain ⟨⟨n0, n1⟩, ⟨dr0, dr1⟩, ⟨de0, de1⟩, ⟨wi0, wi1⟩, ⟨ga0, ga1⟩, ⟨so0, so1⟩, g1, g2, g3, g4⟩ := okM_bd hM
  have ha := airTo_bd m m.ml.length
  rw [show airTo m m.ml.length = maxAir m from rfl] at ha
  rw [hn] at g1
  exact ⟨by omega, by omega, dr0, dr1, g1, wi1, by omega, so1, h0, h1, hs, hd⟩
variable (hM : okM m = true) (hn : m.nodes = (n : Int)) (R : Rnd n m.drift m.slot m.win start s0 dr)
include hM R
theorem errC_at {i k j : Nat} (hk : k ≤ n) (hj : j ≤ n) {a : Option Addr} {c : Nat} : errC m ⟨sk m.slot s0 dr i k, (k : Int), a, c, dv m.slot s0 dr i j⟩ = 0 := by
  have h1 := R.at (i := i) hk
  have h2 := R.n8
  have h3 := dv_len m.slot s0 dr i j
  unfold errC okMay
  rw [if_pos hM, if_pos]
  have hf : ((dv m.slot s0 dr i j).any (Fta.far m.win)) = false := by
    rw [List.any_eq_false]
    intro x hx
    have := R.dv_mem hj hx
    simp [Fta.far]; omega
  simp only [hf, Bool.not_false, Bool.and_true, Bool.and_eq_true, decide_eq_true_eq]
  refine ⟨⟨⟨⟨?_, ?_⟩, ?_⟩, ?_⟩, ?_⟩ <;> omega
theorem send_ok {k : Nat} (hk : k < n) {a : Option Addr} {c : Nat} : sendV m ⟨sk m.slot s0 dr k k, (k : Int), a, c, dv m.slot s0 dr k k⟩ = sk m.slot s0 dr k k + m.gap := by
  unfold sendV
  rw [if_pos (errC_at hM R (by omega) (by omega))]
theorem see_ok {i k : Nat} (hk : k < n) (hi : i ≠ k) {a : Option Addr} {c : Nat} :
    seeV m ⟨sk m.slot s0 dr i k, (k : Int), a, c, dv m.slot s0 dr i k⟩ (sk m.slot s0 dr k k + m.gap + m.delay) = (Vk m.slot s0 dr k i, 0) := by
  have he := errC_at (i := i) (k := k) (j := k) (a := a) (c := c) hM R (by omega) (by omega)
  have h1 := R.seen (i := k) (j := i) (k := k) (by omega)
  have h2 := R.at (i := k) (k := k) (by omega)
  have h3 := dv_len m.slot s0 dr i k
  have h4 := R.n8
  obtain ⟨_, _, ⟨de0, de1⟩, ⟨wi0, wi1⟩, ⟨ga0, ga1⟩, _⟩ := okM_bd hM
  unfold seeV winV
  rw [if_pos he, if_pos he]
  simp only
  rw [if_neg (by omega)]
  unfold Vk
  rw [dv_succ m.slot s0 dr hi, show sk m.slot s0 dr k k + m.gap + m.delay - (sk m.slot s0 dr i k + m.gap + m.delay) = sk m.slot s0 dr k k - sk m.slot s0 dr i k by omega]
include hn in
theorem next_ok' {i k : Nat} (hk : k < n) {a : Option Addr} {c : Nat} :
    nextV m ⟨sk m.slot s0 dr i k, (k : Int), a, c, dv m.slot s0 dr i (k + 1)⟩ (dr k i) = (Qk n m.slot s0 dr (k + 1) i, 0) := by
  have he := errC_at (i := i) (k := k) (j := k + 1) (a := a) (c := c) hM R (by omega) (by omega)
  have h1 := R.hdr k i
  have h8 := R.n8
  have h4 := R.n4
  have hc : corV m ⟨sk m.slot s0 dr i k, (k : Int), a, c, dv m.slot s0 dr i (k + 1)⟩ = Fta.mid (0 :: dv m.slot s0 dr i (k + 1)) := by unfold corV; rw [if_pos he]
  have hm0 : (Fta.mid (0 :: dv m.slot s0 dr i (k + 1))).2 = 0 := by
    refine (R.mid (fun x hx => ?_) (by simp)).1
    have := R.hwin; have := R.nD
    rcases List.mem_cons.1 hx with rfl | hx
    · omega
    · exact R.dv_mem (by omega) hx
  unfold nextV
  rw [hc, if_pos hm0, if_neg (by omega)]
  have hok : okR m.win (Qk n m.slot s0 dr (k + 1) i) = true := by
    unfold okR okMay Qk
    by_cases hkn : k + 1 = n
    · have hb := R.fin_bd i
      rw [if_pos hkn]
      simp; omega
    · have hb := R.at (i := i) (k := k + 1) (by omega)
      have h3 := dv_len m.slot s0 dr i (k + 1)
      have hf : ((dv m.slot s0 dr i (k + 1)).any (Fta.far m.win)) = false := by
        rw [List.any_eq_false]
        intro x hx
        have := R.dv_mem (by omega) hx
        simp [Fta.far]; omega
      rw [if_neg hkn]
      simp only [hf, Bool.not_false, Bool.and_true, Bool.and_eq_true, decide_eq_true_eq]
      refine ⟨⟨⟨⟨?_, ?_⟩, ?_⟩, ?_⟩, ?_⟩ <;> omega
  have hnx : nxV m ⟨sk m.slot s0 dr i k, (k : Int), a, c, dv m.slot s0 dr i (k + 1)⟩ (dr k i) = Qk n m.slot s0 dr (k + 1) i := by
    unfold nxV Qk
    rw [hc, hn]
    simp only
    have hsk := sk_succ m.slot s0 dr i k
    have ht : ((k : Int) + 1).tmod (n : Int) = if k + 1 = n then 0 else (k : Int) + 1 := by
      rw [Int.tmod_eq_emod_of_nonneg (by omega)]
      by_cases hkn : k + 1 = n
      · rw [if_pos hkn, ← hkn]; simp
      · rw [if_neg hkn]; exact Int.emod_eq_of_lt (by omega) (by omega)
    rw [ht]
    by_cases hkn : k + 1 = n
    · rw [if_pos hkn, if_pos rfl, if_pos hkn]
      unfold fin
      rw [← hkn, hsk]
      simp
    · rw [if_neg hkn, if_neg (by omega), if_neg hkn, ← hsk]
      simp
  rw [hnx, if_pos hok]
end
end Go.Proofs.Ytimcljlbjnhpnaa
