/- TraceSame: the walk. -/
import Derived.Test.YtjaaldeaknmmbaaS23
import Derived.Test.YtjaaldeaknmmbaaAg
namespace Go.Proofs.Ytjaaldeaknmmbaa
open Go.RowKit Go.Shelf

theorem sameL_refl' (l : List Sx) : sameL l l = true := by
  unfold sameL
  rw [decide_eq_true rfl, Bool.true_and, List.all_eq_true]
  intro p hp
  obtain ⟨k, hk⟩ := List.getElem?_of_mem hp
  rw [List.getElem?_zip_eq_some] at hk
  obtain ⟨h1, h2⟩ := hk
  rw [h1] at h2
  have : p.1 = p.2 := by simpa using h2
  rw [decide_eq_true_iff, this]
  exact ⟨rfl, rfl, rfl, rfl, rfl, rfl, rfl, rfl, rfl, rfl, rfl, rfl, rfl⟩
theorem diff_snd (l m : List Sx) : (diffL l m).2 = !sameL l m := by
  unfold diffL
  cases sameL l m <;> rfl

set_option maxRecDepth 100000 in
set_option maxHeartbeats 1600000 in
theorem same_walk (l m : List Sx) (lv mv : Value) (w : World) (h : Sxs w lv l) (h' : Sxs w mv m) : Calls Try.prog 6 #[lv, mv] w (LessPost w) := by
  have HPO : Hid (∀ w', Below w.heap.size w w' → LessPost w (.returned (.bool true)) w') := fun _ h => ⟨rfl, h⟩
  have hgl := goodL_of h.1 h.2
  have hgm := goodL_of h'.1 h'.2
  obtain ⟨d, b, hdb⟩ : ∃ d b, diffL l m = (d, b) := ⟨_, _, rfl⟩
  have hb2 : b = !sameL l m := by have := diff_snd l m; rw [hdb] at this; exact this
  have HBS := Lib.hid hb2
  clear hb2
  have HBG : Hid (∀ W, Below w.heap.size w W → Calls Try.prog 8 #[] W fun e w' => e = .returned (.bool true) ∧ Below W.heap.size W w') := fun W _ => begun_any W
  have HFL : Hid (∀ W, Below w.heap.size w W → Calls Try.prog 9 #[lv] W fun e w' => (∃ b, e = .returned (.bool b)) ∧ Below W.heap.size W w') := fun W hW => (few_any _ lv W (hgl.1.below hW) (fun x hx => (hgl.2.1 x hx).below hW)).mono fun e w' ⟨⟨b, he, _⟩, hb⟩ => ⟨⟨b, he⟩, hb⟩
  have HFM : Hid (∀ W, Below w.heap.size w W → Calls Try.prog 9 #[mv] W fun e w' => (∃ b, e = .returned (.bool b)) ∧ Below W.heap.size W w') := fun W hW => (few_any _ mv W (hgm.1.below hW) (fun x hx => (hgm.2.1 x hx).below hW)).mono fun e w' ⟨⟨b, he, _⟩, hb⟩ => ⟨⟨b, he⟩, hb⟩
  have H24 : Hid (∀ W, Below w.heap.size w W → Calls Try.prog 24 #[lv, mv] W fun e w' => e = .returned (.tuple #[.int .i64 d, .bool b]) ∧ Below W.heap.size W w') := fun W hW => by have := diff_any l m lv mv W (h.below hW) (h'.below hW); rw [hdb] at this; exact this
  have H25 : Hid (∀ W, Below w.heap.size w W → Calls Try.prog 25 #[lv, mv] W fun e w' => e = .returned (.tuple #[.int .i64 d, .bool b]) ∧ Below W.heap.size W w') := fun W hW => by have := rdiff_any l m lv mv W (h.below hW) (h'.below hW); rw [hdb] at this; exact this
  have H26 : Hid (∀ W, Below w.heap.size w W → Calls Try.prog 26 #[lv, mv] W (SamePost (sameL l m) W)) := fun W hW => same_any l m lv mv W (h.below hW) (h'.below hW)
  have H20 : Hid (∀ W, Below w.heap.size w W → Calls Try.prog 20 #[lv, mv] W (SamePost (sameL l m) W)) := fun W hW => rsameL_any l m lv mv W (h.below hW) (h'.below hW)
  have H2A : Hid (∀ W, Below w.heap.size w W → Calls Try.prog 26 #[lv, lv] W (SamePost true W)) := fun W hW => by have := same_any l l lv lv W (h.below hW) (h.below hW); rwa [sameL_refl'] at this
  have HB0 : Hid (Below w.heap.size w w) := Below.refl _ _
  obtain ⟨a, c, rfl, q1, q2, q3⟩ := h.1.shape
  obtain ⟨a', c', rfl, r1, r2, r3⟩ := h'.1.shape
  clear h h' hgl hgm hdb
  generalize sameL l m = s at *
  generalize l.length = n at *
  generalize m.length = n' at *
  cases s with
  | true =>
    obtain rfl : b = false := HBS.out
    clear HBS
    go_enter Try.func6, Try.ntmps6
    go_wp2_with fail
    refine (HBG.out _ HB0.out).mono ?_
    rintro e w1 ⟨rfl, hb⟩
    have HB1 := Lib.hid (HB0.out.trans (hb.mono HB0.out.size))
    clear hb
    go_wp2_with fail
    refine (HFL.out _ HB1.out).mono ?_
    rintro e w2 ⟨⟨b, rfl⟩, hb⟩
    have HB2 := Lib.hid (HB1.out.trans (hb.mono HB1.out.size))
    clear hb
    cases b with
    | false =>
      go_wp2_with (go_at_call 8; refine (HBG.out _ HB2.out).mono ?_; rintro e w3 ⟨rfl, hb⟩; have HB3 := Lib.hid (HB2.out.trans (hb.mono HB2.out.size)); clear hb)
      go_ret
      exact HPO.out _ HB3.out
    | true =>
      go_wp2_with fail
      refine (HFM.out _ HB2.out).mono ?_
      rintro e w3 ⟨⟨b, rfl⟩, hb⟩
      have HB3 := Lib.hid (HB2.out.trans (hb.mono HB2.out.size))
      clear hb
      cases b with
      | false =>
        go_wp2_with (go_at_call 8; refine (HBG.out _ HB3.out).mono ?_; rintro e w4 ⟨rfl, hb⟩; have HB4 := Lib.hid (HB3.out.trans (hb.mono HB3.out.size)); clear hb)
        go_ret
        exact HPO.out _ HB4.out
      | true =>
        go_wp2_with fail
        refine (H24.out _ HB3.out).mono ?_
        rintro e w4 ⟨rfl, hb⟩
        have HB4 := Lib.hid (HB3.out.trans (hb.mono HB3.out.size))
        clear hb
        go_wp2_with fail
        refine (H25.out _ HB4.out).mono ?_
        rintro e w5 ⟨rfl, hb⟩
        have HB5 := Lib.hid (HB4.out.trans (hb.mono HB4.out.size))
        clear hb
        go_wp2_with fail
        refine (H26.out _ HB5.out).mono ?_
        rintro e w6 ⟨rfl, hb⟩
        have HB6 := Lib.hid (HB5.out.trans (hb.mono HB5.out.size))
        clear hb
        go_wp2_with fail
        refine (H20.out _ HB6.out).mono ?_
        rintro e w7 ⟨rfl, hb⟩
        have HB7 := Lib.hid (HB6.out.trans (hb.mono HB6.out.size))
        clear hb
        go_wp2_with fail
        refine (H26.out _ HB7.out).mono ?_
        rintro e w8 ⟨rfl, hb⟩
        have HB8 := Lib.hid (HB7.out.trans (hb.mono HB7.out.size))
        clear hb
        go_wp2_with fail
        refine (H2A.out _ HB8.out).mono ?_
        rintro e w9 ⟨rfl, hb⟩
        have HB9 := Lib.hid (HB8.out.trans (hb.mono HB8.out.size))
        clear hb
        go_wp2
        go_ret
        exact HPO.out _ HB9.out
  | false =>
    obtain rfl : b = true := HBS.out
    clear HBS
    go_enter Try.func6, Try.ntmps6
    go_wp2_with fail
    refine (HBG.out _ HB0.out).mono ?_
    rintro e w1 ⟨rfl, hb⟩
    have HB1 := Lib.hid (HB0.out.trans (hb.mono HB0.out.size))
    clear hb
    go_wp2_with fail
    refine (HFL.out _ HB1.out).mono ?_
    rintro e w2 ⟨⟨b, rfl⟩, hb⟩
    have HB2 := Lib.hid (HB1.out.trans (hb.mono HB1.out.size))
    clear hb
    cases b with
    | false =>
      go_wp2_with (go_at_call 8; refine (HBG.out _ HB2.out).mono ?_; rintro e w3 ⟨rfl, hb⟩; have HB3 := Lib.hid (HB2.out.trans (hb.mono HB2.out.size)); clear hb)
      go_ret
      exact HPO.out _ HB3.out
    | true =>
      go_wp2_with fail
      refine (HFM.out _ HB2.out).mono ?_
      rintro e w3 ⟨⟨b, rfl⟩, hb⟩
      have HB3 := Lib.hid (HB2.out.trans (hb.mono HB2.out.size))
      clear hb
      cases b with
      | false =>
        go_wp2_with (go_at_call 8; refine (HBG.out _ HB3.out).mono ?_; rintro e w4 ⟨rfl, hb⟩; have HB4 := Lib.hid (HB3.out.trans (hb.mono HB3.out.size)); clear hb)
        go_ret
        exact HPO.out _ HB4.out
      | true =>
        go_wp2_with fail
        refine (H24.out _ HB3.out).mono ?_
        rintro e w4 ⟨rfl, hb⟩
        have HB4 := Lib.hid (HB3.out.trans (hb.mono HB3.out.size))
        clear hb
        go_wp2_with fail
        refine (H25.out _ HB4.out).mono ?_
        rintro e w5 ⟨rfl, hb⟩
        have HB5 := Lib.hid (HB4.out.trans (hb.mono HB4.out.size))
        clear hb
        go_wp2_with fail
        refine (H26.out _ HB5.out).mono ?_
        rintro e w6 ⟨rfl, hb⟩
        have HB6 := Lib.hid (HB5.out.trans (hb.mono HB5.out.size))
        clear hb
        go_wp2_with fail
        refine (H20.out _ HB6.out).mono ?_
        rintro e w7 ⟨rfl, hb⟩
        have HB7 := Lib.hid (HB6.out.trans (hb.mono HB6.out.size))
        clear hb
        go_wp2_with fail
        refine (H26.out _ HB7.out).mono ?_
        rintro e w8 ⟨rfl, hb⟩
        have HB8 := Lib.hid (HB7.out.trans (hb.mono HB7.out.size))
        clear hb
        go_wp2_with fail
        refine (H2A.out _ HB8.out).mono ?_
        rintro e w9 ⟨rfl, hb⟩
        have HB9 := Lib.hid (HB8.out.trans (hb.mono HB8.out.size))
        clear hb
        go_wp2
        go_ret
        exact HPO.out _ HB9.out
end Go.Proofs.Ytjaaldeaknmmbaa
