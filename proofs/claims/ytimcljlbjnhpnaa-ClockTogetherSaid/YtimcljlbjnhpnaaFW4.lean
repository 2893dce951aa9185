/- Contracts: Spread, Kept and Midpoint, of the program and of the document. -/
import Derived.Test.YtimcljlbjnhpnaaFW3
import Derived.Test.YtimcljlbjnhpnaaShelf
namespace Go.Proofs.Ytimcljlbjnhpnaa
open Go.RowKit Go.Shelf

theorem least_bd {w : World} {v : Value} {l : List Int} (h : Ints w v l) (hn : l ≠ []) : I64 (Fta.least l) := h.bd _ (Fta.least_mem hn)
theorem most_bd {w : World} {v : Value} {l : List Int} (h : Ints w v l) (hn : l ≠ []) : I64 (Fta.most l) := h.bd _ (Fta.most_mem hn)

theorem rkept_nil : Fta.rkept [] = (0, 0, 4) := rfl
theorem rkept_far {l : List Int} (h : l ≠ []) (hf : Fta.least l < -1099511627776 ∨ 1099511627776 < Fta.most l) : Fta.rkept l = (0, 0, 80) := by
  unfold Fta.rkept
  rw [if_neg h]
  exact if_pos hf

/-- The document's Kept. -/
theorem rKept_any (l : List Int) (v : Value) (w : World) (h : Ints w v l) :
    Calls Try.prog 54 #[v] w fun e w' => e = .returned (.tuple #[.int .i64 (Fta.rkept l).1, .int .i64 (Fta.rkept l).2.1, .int .i64 (Fta.rkept l).2.2]) ∧ Below w.heap.size w w' := by
  have h0 := h
  obtain ⟨a, cap, rfl, h1, h2, h3⟩ := h.shape
  clear h
  by_cases hn : l = []
  · subst hn
    clear h0
    go_enter Try.func54, Try.ntmps54
    go_wp2
    go_ret3
    exact ⟨rfl, Below.refl _ _⟩
  · have hl1 := least_any l _ w h0 hn
    have hl2 := most_any l _ w h0 hn
    have b1 := least_bd h0 hn
    have b2 := most_bd h0 hn
    unfold I64 at b1 b2
    have hp : 0 < l.length := List.length_pos_iff.2 hn
    have hlen : ((l.length : Int) == 0) = false := by simp; omega
    by_cases hf : Fta.least l < -1099511627776 ∨ 1099511627776 < Fta.most l
    · have HK := Lib.hid (rkept_far hn hf)
      by_cases hf1 : Fta.least l < -1099511627776
      · clear hf hn h0 b2
        generalize Fta.least l = m at *
        have hd : decide (m < -1099511627776) = true := by simpa using hf1
        go_enter Try.func54, Try.ntmps54
        go_wp2_with (first | (go_at_call 60; refine hl1.mono ?_; rintro e w' ⟨rfl, rfl⟩) | (go_at_call 61; refine hl2.mono ?_; rintro e w' ⟨rfl, rfl⟩))
        go_ret3
        exact ⟨by rw [HK.out]; rfl, Below.refl _ _⟩
      · have hf2 : 1099511627776 < Fta.most l := by omega
        clear hf hn h0
        generalize Fta.least l = m at *
        generalize Fta.most l = m' at *
        have hd : decide (m < -1099511627776) = false := by simpa using hf1
        have hd2 : decide (1099511627776 < m') = true := by simpa using hf2
        go_enter Try.func54, Try.ntmps54
        go_wp2_with (first | (go_at_call 60; refine hl1.mono ?_; rintro e w' ⟨rfl, rfl⟩) | (go_at_call 61; refine hl2.mono ?_; rintro e w' ⟨rfl, rfl⟩))
        go_ret3
        exact ⟨by rw [HK.out]; rfl, Below.refl _ _⟩
    · have hd : decide (Fta.least l < -1099511627776) = false := by simp; omega
      have hd2 : decide (1099511627776 < Fta.most l) = false := by simp; omega
      have hnf : ¬ (Fta.least l < -1099511627776 ∨ 1099511627776 < Fta.most l) := hf
      by_cases h4 : 4 ≤ l.length
      · have hk : Fta.rkept l = (Fta.least ((l.erase (Fta.least l)).erase (Fta.most l)), Fta.most ((l.erase (Fta.least l)).erase (Fta.most l)), 0) := by
          unfold Fta.rkept
          rw [if_neg hn, if_pos h4]
          exact if_neg hnf
        have HK := Lib.hid hk
        have hw1 := without_any l _ (Fta.least l) w h0
        have hln : ((l.erase (Fta.least l)).erase (Fta.most l)) ≠ [] := by
          intro e
          have h1 := List.length_erase_of_mem (Fta.least_mem hn)
          have h2 : (l.erase (Fta.least l)).length - 1 ≤ ((l.erase (Fta.least l)).erase (Fta.most l)).length := by
            by_cases hm : Fta.most l ∈ l.erase (Fta.least l)
            · rw [List.length_erase_of_mem hm]; exact Nat.le_refl _
            · rw [List.erase_of_not_mem hm]; omega
          rw [e] at h2
          simp at h2
          omega
        have hbd : ∀ x ∈ l, I64 x := h0.bd
        have hmost : ∀ W, Below w.heap.size w W → Calls Try.prog 61 #[.slice a l.length cap] W fun e w' => e = .returned (.int .i64 (Fta.most l)) ∧ W = w' := fun W hW => most_any l _ W (h0.below hW) hn
        clear hk hf hnf hn hl2
        have hl2 := hmost w (Below.refl _ _)
        generalize hm : Fta.least l = m at *
        generalize hm' : Fta.most l = m' at *
        clear hm hm'
        have hl1' : (l.erase m).length ≤ 17592186044416 := Nat.le_trans List.length_erase_le h3
        have hl2' : ((l.erase m).erase m').length ≤ 17592186044416 := Nat.le_trans List.length_erase_le hl1'
        have hbd1 : ∀ x ∈ l.erase m, I64 x := fun x hx => hbd x (List.mem_of_mem_erase hx)
        have hbd2 : ∀ x ∈ (l.erase m).erase m', I64 x := fun x hx => hbd1 x (List.mem_of_mem_erase hx)
        clear hbd h0
        generalize l.erase m = l1 at *
        obtain ⟨l2, hl2e⟩ : ∃ l2, l2 = l1.erase m' := ⟨_, rfl⟩
        have HL2 := Lib.hid hl2e
        rw [← hl2e] at hln hl2' hbd2 HK
        clear hl2e
        go_enter Try.func54, Try.ntmps54
        go_wp2_with (first | (go_at_call 60; refine hl1.mono ?_; rintro e w' ⟨rfl, rfl⟩) | (go_at_call 61; refine hl2.mono ?_; rintro e w' ⟨rfl, rfl⟩))
        refine hw1.mono ?_
        rintro e w1 ⟨⟨v1, rfl, ho1⟩, hb1⟩
        have hi1 := Ints.of_owns ho1 hl1' hbd1
        go_wp2_with fail
        refine (hmost w1 hb1).mono ?_
        rintro e w' ⟨rfl, rfl⟩
        go_wp2_with fail
        have hw3 := without_any l1 _ m' w1 hi1
        rw [← HL2.out] at hw3
        refine hw3.mono ?_
        rintro e w2 ⟨⟨v2, rfl, ho2⟩, hb2⟩
        have hi2 := Ints.of_owns ho2 hl2' hbd2
        go_wp2_with fail
        refine (least_any l2 _ w2 hi2 hln).mono ?_
        rintro e w' ⟨rfl, rfl⟩
        go_wp2_with fail
        refine (most_any l2 _ w2 hi2 hln).mono ?_
        rintro e w' ⟨rfl, rfl⟩
        go_wp2_with fail
        go_ret3
        exact ⟨by rw [HK.out]; rfl, hb1.trans (hb2.mono hb1.size)⟩
      · have hk : Fta.rkept l = (Fta.least l, Fta.most l, 0) := by
          unfold Fta.rkept
          rw [if_neg hn, if_neg h4]
          exact if_neg hnf
        have HK := Lib.hid hk
        clear hk hf hnf hn h0
        generalize Fta.least l = m at *
        generalize Fta.most l = m' at *
        go_enter Try.func54, Try.ntmps54
        go_wp2_with (first | (go_at_call 60; refine hl1.mono ?_; rintro e w' ⟨rfl, rfl⟩) | (go_at_call 61; refine hl2.mono ?_; rintro e w' ⟨rfl, rfl⟩))
        go_ret3
        exact ⟨by rw [HK.out]; rfl, Below.refl _ _⟩

theorem wrap_small (n : Int) (h : -9223372036854775808 ≤ n) (h' : n ≤ 9223372036854775807) : wrap64 n = n := by unfold wrap64; omega
theorem spread_nil : Fta.spread [] = 0 := rfl
theorem spread_cons {l : List Int} (h : l ≠ []) : Fta.spread l = Fta.most l - Fta.least l := if_neg h

end Go.Proofs.Ytimcljlbjnhpnaa
