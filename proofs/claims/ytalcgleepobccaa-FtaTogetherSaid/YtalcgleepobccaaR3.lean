/- The contract of the program's Round, where something is wrong too. -/
import Derived.Test.YtalcgleepobccaaR2
namespace Go.Proofs.Ytalcgleepobccaa
open Go.RowKit Go.Shelf

theorem round_err {cl : List Int} {M : List Rw} {w w' : World} {z : Int} (hE : rndE cl M = z) (hL : rndL cl M = []) (hb : Below w.heap.size w w') :
    RoundPost cl M w (.returned (.tuple #[.slice none 0 0, .int .i64 z])) w' :=
  ⟨⟨_, by rw [hE], by rw [hL]; exact World.ownsRow_nil _ _ _ _⟩, hb⟩
theorem rndE_arg {cl : List Int} {M : List Rw} (h : argBad cl M = true) : rndE cl M = 2 ∧ rndL cl M = [] := by
  unfold rndE rndL
  simp [h]
theorem rndE_off {cl : List Int} {M : List Rw} (h : argBad cl M = false) (h' : offBad cl M = true) : rndE cl M = 80 ∧ rndL cl M = [] := by
  unfold rndE rndL
  simp [h, h']

set_option maxRecDepth 100000 in
set_option maxHeartbeats 1600000 in
/-- The program's Round. -/
theorem round_any (cl : List Int) (v : Value) (M : List Rw) (u : Value) (w : World) (h : Ints w v cl) (hM : Mat w u M) :
    Calls Try.prog 19 #[v, u] w (RoundPost cl M w) := by
  have hbox : Below w.heap.size w (w.alloc (.cells #[.int .i64 cl.length] 3)) := (Below.refl _ _).alloc (Nat.le_refl _) _
  have hcon1 := containsFuncM_any 31 #[.pointer (some ⟨w.heap.size, 0, none⟩)] (lenNe cl.length) M u (w.alloc (.cells #[.int .i64 cl.length] 3)) (enters_of Try.func31 (by kernel_rfl) rfl)
    (fun r hr W hW => clLen_any r cl.length w.heap.size W (by have := h.len; omega) (hM.2 r hr).len (by rw [hW.cell (by simp)]; simp)) (hM.below hbox)
  have hcon2 : ∀ W, Below w.heap.size w W → Calls Try.prog 23 #[v, .int .i64 274877906944] W fun e w' => e = .returned (.bool (cl.any (Fta.far B38))) ∧ Below W.heap.size W w' := fun W hW =>
    anyFar_any cl v 274877906944 W (by decide) (by decide) (h.below hW)
  have hcon3 : ∀ W, Below w.heap.size w W → Calls Try.prog 30 #[u, .func (.func 32) #[] #[]] W fun e w' => e = .returned (.bool (M.any farRow)) ∧ Below W.heap.size W w' := fun W hW =>
    containsFuncM_any 32 #[] farRow M u W (enters_of Try.func32 (by kernel_rfl) rfl) (fun r hr W' hW' => clFar_any r W' ((hM.below hW).2 r hr |>.below hW')) (hM.below hW)
  by_cases ha : argBad cl M = false
  · by_cases hf : offBad cl M = false
    · exact round_main cl v M u w h hM ha hf
    · have hf : offBad cl M = true := by simpa using hf
      have hE := Lib.hid (rndE_off ha hf)
      have ha' := ha
      simp only [argBad, Bool.or_eq_false_iff, decide_eq_false_iff_not, Bool.not_eq_false', decide_eq_true_eq] at ha'
      obtain ⟨⟨⟨n4, n8⟩, hML⟩, hMl⟩ := ha'
      rw [hMl] at hcon1
      obtain ⟨a, cap, rfl, q1, q2, q3⟩ := h.shape
      obtain ⟨a', cap', rfl, p1, p2, p3⟩ := hM.1.shape
      have hMLn : M.length = cl.length := by omega
      simp only [hMLn] at hcon1 hcon3 p1 p3 ⊢
      unfold offBad at hf
      clear hML hMLn ha hMl h hM
      generalize cl.length = n at *
      go_enter Try.func19, Try.ntmps19
      go_wp2_with fail
      refine hcon1.mono ?_
      rintro e w1 ⟨rfl, hb1⟩
      clear hcon1
      have b1 := hbox.trans (hb1.mono hbox.size)
      have hc2 := hcon2 w1 b1
      cases hcf : cl.any (Fta.far B38)
      · rw [hcf] at hc2 hf
        have hc3 := hcon3
        rw [show M.any farRow = true by simpa using hf] at hc3
        clear hcon2 hcon3 hcf hf
        go_wp2_with fail
        refine hc2.mono ?_
        rintro e w2 ⟨rfl, hb2⟩
        have b2 := b1.trans (hb2.mono b1.size)
        clear hc2
        go_wp2_with fail
        refine (hc3 w2 b2).mono ?_
        rintro e w3 ⟨rfl, hb3⟩
        clear hc3
        go_wp2
        go_ret2
        exact round_err hE.out.1 hE.out.2 (b2.trans (hb3.mono b2.size))
      · rw [hcf] at hc2
        clear hcon2 hcon3 hcf hf
        go_wp2_with fail
        refine hc2.mono ?_
        rintro e w2 ⟨rfl, hb2⟩
        clear hc2
        go_wp2
        go_ret2
        exact round_err hE.out.1 hE.out.2 (b1.trans (hb2.mono b1.size))
  · have ha : argBad cl M = true := by simpa using ha
    have hE := Lib.hid (rndE_arg ha)
    obtain ⟨a, cap, rfl, q1, q2, q3⟩ := h.shape
    obtain ⟨a', cap', rfl, p1, p2, p3⟩ := hM.1.shape
    clear hcon2 hcon3 h hM
    unfold argBad at ha
    by_cases n4 : cl.length < 4
    · clear ha hcon1
      have n4' : (cl.length : Int) < 4 := by omega
      generalize cl.length = n at *
      go_enter Try.func19, Try.ntmps19
      go_wp2
      go_ret2
      exact round_err hE.out.1 hE.out.2 hbox
    · by_cases n8 : 8 < cl.length
      · clear ha hcon1
        have n8' : (8 : Int) < (cl.length : Int) := by omega
        have n4' : (4 : Int) ≤ (cl.length : Int) := by omega
        generalize cl.length = n at *
        go_enter Try.func19, Try.ntmps19
        go_wp2
        go_ret2
        exact round_err hE.out.1 hE.out.2 hbox
      · have n8' : (cl.length : Int) ≤ 8 := by omega
        have n4' : (4 : Int) ≤ (cl.length : Int) := by omega
        by_cases hML : (M.length : Int) = cl.length
        · have hm : M.any (lenNe cl.length) = true := by simpa [n4, n8, hML] using ha
          rw [hm] at hcon1
          have hMLn : M.length = cl.length := by omega
          simp only [hMLn] at hcon1 p1 p3 ⊢
          clear hML hMLn ha hm
          generalize cl.length = n at *
          go_enter Try.func19, Try.ntmps19
          go_wp2_with fail
          refine hcon1.mono ?_
          rintro e w1 ⟨rfl, hb1⟩
          clear hcon1
          go_wp2
          go_ret2
          exact round_err hE.out.1 hE.out.2 (hbox.trans (hb1.mono hbox.size))
        · have hne : ((M.length : Int) != cl.length) = true := by simpa using hML
          clear hcon1 ha hML
          generalize cl.length = n at *
          generalize M.length = m at *
          go_enter Try.func19, Try.ntmps19
          go_wp2
          go_ret2
          exact round_err hE.out.1 hE.out.2 hbox
end Go.Proofs.Ytalcgleepobccaa
