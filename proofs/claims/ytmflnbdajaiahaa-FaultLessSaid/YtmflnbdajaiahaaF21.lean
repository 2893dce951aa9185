/- FaultBorne: the walk. -/
import Derived.Test.YtmflnbdajaiahaaF20
import Derived.Test.YtmflnbdajaiahaaPX
import Derived.Test.YtmflnbdajaiahaaTurn
namespace Go.Proofs.Ytmflnbdajaiahaa
open Go.RowKit Go.Shelf
open Md

structure FB (w : World) (m : Me) (bm : Nat) (L : List (Value × List Fa)) (X : World) : Prop where
  bel : Below w.heap.size w X
  good : GoodMe X m
  bm : Blk X bm 25 (encMe m).toArray
  rd : ∀ p ∈ L, Rd encF 7 X p.1 p.2
theorem FB.keep {w X Y : World} {m : Me} {bm : Nat} {L : List (Value × List Fa)} (h : FB w m bm L X) (hb : Below X.heap.size X Y) : FB w m bm L Y :=
  ⟨h.bel.trans (hb.mono h.bel.size), h.good.below hb, h.bm.keep hb, fun p hp => (h.rd p hp).below hb⟩
theorem FB.drew {w X : World} {m : Me} {bm : Nat} {L : List (Value × List Fa)} (h : FB w m bm L X) : FB w m bm L X.drew := h.keep (Below.refl _ _).drew
theorem FB.new {w X : World} {m : Me} {bm : Nat} {L : List (Value × List Fa)} (h : FB w m bm L X) (v : Value) (l : List Fa) (hv : Rd encF 7 X v l) : FB w m bm ((v, l) :: L) X :=
  ⟨h.bel, h.good, h.bm, fun p hp => by
    rcases List.mem_cons.1 hp with rfl | hp
    · exact hv
    · exact h.rd p hp⟩
def TruePost (w : World) (e : Ending) (w' : World) : Prop := e = .returned (.bool true) ∧ Below w.heap.size w w'
theorem fb_bus {w X : World} {m : Me} {bm : Nat} {L : List (Value × List Fa)} {v : Value} {l : List Fa} (h : FB w m bm L X) (hm : (v, l) ∈ L) (hl : l.length ≤ 8192) : Calls Try.prog 8 #[.agg (encMe m).toArray, v] X fun e w' => e = .returned (.bool (busF m l)) ∧ Below X.heap.size X w' := bus_any m v l X h.good (h.rd _ hm) hl
theorem fb_rbus {w X : World} {m : Me} {bm : Nat} {L : List (Value × List Fa)} {v : Value} {l : List Fa} (h : FB w m bm L X) (hm : (v, l) ∈ L) (hl : l.length ≤ 8192) : Calls Try.prog 9 #[.agg (encMe m).toArray, v] X fun e w' => e = .returned (.bool (busF m l)) ∧ Below X.heap.size X w' := by
  rw [bus_law]
  exact rbus_any m v l X h.good (h.rd _ hm) hl
theorem fb_star {w X : World} {m : Me} {bm : Nat} {L : List (Value × List Fa)} {v : Value} {l : List Fa} (h : FB w m bm L X) (hm : (v, l) ∈ L) (hl : l.length ≤ 8192) : Calls Try.prog 10 #[.agg (encMe m).toArray, v] X fun e w' => e = .returned (.bool (oneF m 7 8 l)) ∧ Below X.heap.size X w' := star_any m v l X h.good (h.rd _ hm) hl
theorem fb_rstar {w X : World} {m : Me} {bm : Nat} {L : List (Value × List Fa)} {v : Value} {l : List Fa} (h : FB w m bm L X) (hm : (v, l) ∈ L) (hl : l.length ≤ 8192) : Calls Try.prog 11 #[.agg (encMe m).toArray, v] X fun e w' => e = .returned (.bool (oneF m 7 8 l)) ∧ Below X.heap.size X w' := rstar_any m v l X h.good (h.rd _ hm) hl
theorem fb_loud {w X : World} {m : Me} {bm : Nat} {L : List (Value × List Fa)} {v : Value} {l : List Fa} (h : FB w m bm L X) (hm : (v, l) ∈ L) (hl : l.length ≤ 8192) : Calls Try.prog 12 #[.agg (encMe m).toArray, v] X fun e w' => e = .returned (.bool (oneF m 9 10 l)) ∧ Below X.heap.size X w' := loud_any m v l X h.good (h.rd _ hm) hl
theorem fb_rloud {w X : World} {m : Me} {bm : Nat} {L : List (Value × List Fa)} {v : Value} {l : List Fa} (h : FB w m bm L X) (hm : (v, l) ∈ L) (hl : l.length ≤ 8192) : Calls Try.prog 13 #[.agg (encMe m).toArray, v] X fun e w' => e = .returned (.bool (oneF m 9 10 l)) ∧ Below X.heap.size X w' := rloud_any m v l X h.good (h.rd _ hm) hl
theorem fb_clean {w X : World} {m : Me} {bm : Nat} {L : List (Value × List Fa)} {v : Value} {l : List Fa} (h : FB w m bm L X) (hm : (v, l) ∈ L) (hl : l.length ≤ 8192) (hc : (cleanF m l).length ≤ 60) : Calls Try.prog 14 #[.agg (encMe m).toArray, v] X fun e w' => (∃ v', e = .returned v' ∧ Rd encF 7 w' v' (cleanF m l)) ∧ Below X.heap.size X w' :=
  (clean_any m v l X h.good (h.rd _ hm) hl).mono fun e w' ⟨⟨v', he, ho⟩, hb⟩ => ⟨⟨v', he, Rd.of_owns (e := 33) encF_len ho (by omega)⟩, hb⟩

set_option maxRecDepth 100000 in
set_option maxHeartbeats 1600000 in
theorem borne_walk (m : Me) (v0 : Value) (l0 : List Fa) (w : World) (hm : GoodMe w m) (hv : Rd encF 7 w v0 l0) : Calls Try.prog 3 #[mev m, v0] w (TruePost w) := by
  have HP : Hid (∀ w', Below w.heap.size w w' → TruePost w (.returned (.bool true)) w') := fun w' h => ⟨rfl, h⟩
  have HF0 : Hid (FB w m w.heap.size [] (w.alloc (.cells (encMe m).toArray 25))) := Lib.hid ⟨below1 w _, hm.below (below1 w _), Blk.new' rfl, by simp⟩
  have HFW : Hid (∀ X, Hid (FB w m w.heap.size [] X) → Calls Try.prog 6 #[v0] X fun e w' => (∃ v', e = .returned v' ∧ Rd encF 7 X v' (l0.take 60)) ∧ X = w') := fun X h => few_any v0 l0 X (hv.below h.out.bel)
  have hlen : (l0.take 60).length ≤ 60 := by rw [List.length_take]; omega
  have HL := Lib.hid hlen
  clear hv hm hlen
  generalize l0.take 60 = l at *
  change Calls Try.prog 3 #[.agg (encMe m).toArray, v0] w _
  go_enter Try.func3, Try.ntmps3
  go_upto_region 1 with fail
  change Code.wp _ _ _ _ (w.alloc (.cells (encMe m).toArray 25))
  generalize w.alloc (.cells (encMe m).toArray 25) = W1 at *
  obtain ⟨bm, hbm⟩ : ∃ b, w.heap.size = b := ⟨_, rfl⟩
  rw [hbm] at HF0 HFW
  simp only [hbm]
  clear hbm
  go_wp2_with fail
  refine (HFW.out _ HF0).mono ?_
  rintro e W2 ⟨⟨v, rfl, hr⟩, rfl⟩
  have HF1 : Hid (FB w m bm [(v, l)] W1) := Lib.hid (HF0.out.new v l hr)
  clear hr HFW HF0
  have HBG : Hid (∀ X, Calls Try.prog 7 #[] X fun e w' => e = .returned (.bool true) ∧ Below X.heap.size X w') := fun X => begun_any X
  obtain ⟨b1, hb1⟩ : ∃ b, busF m l = b := ⟨_, rfl⟩
  obtain ⟨b2, hb2⟩ : ∃ b, oneF m 7 8 l = b := ⟨_, rfl⟩
  obtain ⟨b3, hb3⟩ : ∃ b, oneF m 9 10 l = b := ⟨_, rfl⟩
  have H8 : Hid (∀ X, Hid (FB w m bm [(v, l)] X) → Calls Try.prog 8 #[.agg (encMe m).toArray, v] X fun e w' => e = .returned (.bool b1) ∧ Below X.heap.size X w') := fun X h => by have := fb_bus h.out (by simp) (v := v) (l := l) (by have := HL.out; omega); rwa [hb1] at this
  have H9 : Hid (∀ X, Hid (FB w m bm [(v, l)] X) → Calls Try.prog 9 #[.agg (encMe m).toArray, v] X fun e w' => e = .returned (.bool b1) ∧ Below X.heap.size X w') := fun X h => by have := fb_rbus h.out (by simp) (v := v) (l := l) (by have := HL.out; omega); rwa [hb1] at this
  have H10 : Hid (∀ X, Hid (FB w m bm [(v, l)] X) → Calls Try.prog 10 #[.agg (encMe m).toArray, v] X fun e w' => e = .returned (.bool b2) ∧ Below X.heap.size X w') := fun X h => by have := fb_star h.out (by simp) (v := v) (l := l) (by have := HL.out; omega); rwa [hb2] at this
  have H11 : Hid (∀ X, Hid (FB w m bm [(v, l)] X) → Calls Try.prog 11 #[.agg (encMe m).toArray, v] X fun e w' => e = .returned (.bool b2) ∧ Below X.heap.size X w') := fun X h => by have := fb_rstar h.out (by simp) (v := v) (l := l) (by have := HL.out; omega); rwa [hb2] at this
  have H12 : Hid (∀ X, Hid (FB w m bm [(v, l)] X) → Calls Try.prog 12 #[.agg (encMe m).toArray, v] X fun e w' => e = .returned (.bool b3) ∧ Below X.heap.size X w') := fun X h => by have := fb_loud h.out (by simp) (v := v) (l := l) (by have := HL.out; omega); rwa [hb3] at this
  have H13 : Hid (∀ X, Hid (FB w m bm [(v, l)] X) → Calls Try.prog 13 #[.agg (encMe m).toArray, v] X fun e w' => e = .returned (.bool b3) ∧ Below X.heap.size X w') := fun X h => by have := fb_rloud h.out (by simp) (v := v) (l := l) (by have := HL.out; omega); rwa [hb3] at this
  clear hb1 hb2 hb3 HL
  go_upto_region 2 with fail
  have hS : Hid (FB w m bm [(v, l)] W1.drew) := Lib.hid HF1.out.drew
  clear HF1
  refine wp_region_held_drew (S := fun X => Hid (FB w m bm [(v, l)] X)) (by kernel_rfl) hS (fun hHeld => ?_)
  refine takeC (i := 0) rfl (by kernel_rfl) (by rfl) (fun K hK => ?_)
  go_simp
  refine (HBG.out _).mono ?_
  rintro e Wa ⟨rfl, hb⟩
  have hF : Hid (FB w m bm [(v, l)] Wa) := Lib.hid (hHeld.out.keep hb)
  clear hb hHeld
  refine hK.out _ _ hF (fun hHeld => ?_)
  clear hK K hF
  try simp only [Act.put, List.setIfInBounds_toArray, List.set_cons_zero, List.set_cons_succ]
  (refine takeW (i := 1) (v := ?_) rfl (by kernel_rfl) (by kernel_rfl) (by kernel_rfl) (fun _ _ _ h => h) (by rfl) (by assumption) ?_ ?_; rotate_left; (intro W hW; (try dsimp only at hW); go_simp; try with_reducible rfl); (try simp only [Act.put, List.setIfInBounds_toArray, List.set_cons_zero, List.set_cons_succ]))
  (refine takeW (i := 2) rfl (by kernel_rfl) (by kernel_rfl) (by kernel_rfl) (fun _ _ _ h => h) (by rfl) (by assumption) (fun W hW => exec_loadW W25 rfl rfl (cs := encMe m) rfl hW.out.bm.list) ?_; (try simp only [Act.put, List.setIfInBounds_toArray, List.set_cons_zero, List.set_cons_succ]))
  first
    | (refine takeW (i := 3) (v := ?_) rfl (by kernel_rfl) (by kernel_rfl) (by kernel_rfl) (fun _ _ _ h => h) (by rfl) (by assumption) ?_ ?_; rotate_left; (intro W hW; (try dsimp only at hW); go_simp; try with_reducible rfl); (try simp only [Act.put, List.setIfInBounds_toArray, List.set_cons_zero, List.set_cons_succ]))
    | (refine takeU (i := 3) rfl (by kernel_rfl) (by kernel_rfl) (by kernel_rfl) (fun _ _ _ h => h) (by rfl) (by assumption) ?_; (try simp only [Act.put, List.setIfInBounds_toArray, List.set_cons_zero, List.set_cons_succ]))
  (refine takeW (i := 5) rfl (by kernel_rfl) (by kernel_rfl) (by kernel_rfl) (fun _ _ _ h => h) (by rfl) (by assumption) (fun W hW => exec_loadW W25 rfl rfl (cs := encMe m) rfl hW.out.bm.list) ?_; (try simp only [Act.put, List.setIfInBounds_toArray, List.set_cons_zero, List.set_cons_succ]))
  first
    | (refine takeW (i := 6) (v := ?_) rfl (by kernel_rfl) (by kernel_rfl) (by kernel_rfl) (fun _ _ _ h => h) (by rfl) (by assumption) ?_ ?_; rotate_left; (intro W hW; (try dsimp only at hW); go_simp; try with_reducible rfl); (try simp only [Act.put, List.setIfInBounds_toArray, List.set_cons_zero, List.set_cons_succ]))
    | (refine takeU (i := 6) rfl (by kernel_rfl) (by kernel_rfl) (by kernel_rfl) (fun _ _ _ h => h) (by rfl) (by assumption) ?_; (try simp only [Act.put, List.setIfInBounds_toArray, List.set_cons_zero, List.set_cons_succ]))
  refine takeC (i := 4) rfl (by kernel_rfl) (by rfl) (fun K hK => ?_)
  go_simp
  refine (H8.out _ hHeld).mono ?_
  rintro e Wc0 ⟨rfl, hb⟩
  have hF : Hid (FB w m bm [(v, l)] Wc0) := Lib.hid (hHeld.out.keep hb)
  clear hb hHeld
  refine hK.out _ _ hF (fun hHeld => ?_)
  clear hK K hF
  try simp only [Act.put, List.setIfInBounds_toArray, List.set_cons_zero, List.set_cons_succ]
  refine takeC (i := 7) rfl (by kernel_rfl) (by rfl) (fun K hK => ?_)
  go_simp
  refine (H9.out _ hHeld).mono ?_
  rintro e Wc1 ⟨rfl, hb⟩
  have hF : Hid (FB w m bm [(v, l)] Wc1) := Lib.hid (hHeld.out.keep hb)
  clear hb hHeld
  refine hK.out _ _ hF (fun hHeld => ?_)
  clear hK K hF
  try simp only [Act.put, List.setIfInBounds_toArray, List.set_cons_zero, List.set_cons_succ]
  first
    | (refine takeW (i := 8) (v := ?_) rfl (by kernel_rfl) (by kernel_rfl) (by kernel_rfl) (fun _ _ _ h => h) (by rfl) (by assumption) ?_ ?_; rotate_left; (intro W hW; (try dsimp only at hW); go_simp; try with_reducible rfl); (try simp only [Act.put, List.setIfInBounds_toArray, List.set_cons_zero, List.set_cons_succ]))
    | (refine takeU (i := 8) rfl (by kernel_rfl) (by kernel_rfl) (by kernel_rfl) (fun _ _ _ h => h) (by rfl) (by assumption) ?_; (try simp only [Act.put, List.setIfInBounds_toArray, List.set_cons_zero, List.set_cons_succ]))
  (refine takeW (i := 9) (v := ?_) rfl (by kernel_rfl) (by kernel_rfl) (by kernel_rfl) (fun _ _ _ h => h) (by rfl) (by assumption) ?_ ?_; rotate_left; (intro W hW; (try dsimp only at hW); go_simp; try with_reducible rfl); (try simp only [Act.put, List.setIfInBounds_toArray, List.set_cons_zero, List.set_cons_succ]))
  (refine takeW (i := 10) (v := ?_) rfl (by kernel_rfl) (by kernel_rfl) (by kernel_rfl) (fun _ _ _ h => h) (by rfl) (by assumption) ?_ ?_; rotate_left; (intro W hW; (try dsimp only at hW); go_simp; try with_reducible rfl); (try simp only [Act.put, List.setIfInBounds_toArray, List.set_cons_zero, List.set_cons_succ]))
  (refine takeW (i := 11) rfl (by kernel_rfl) (by kernel_rfl) (by kernel_rfl) (fun _ _ _ h => h) (by rfl) (by assumption) (fun W hW => exec_loadW W25 rfl rfl (cs := encMe m) rfl hW.out.bm.list) ?_; (try simp only [Act.put, List.setIfInBounds_toArray, List.set_cons_zero, List.set_cons_succ]))
  first
    | (refine takeW (i := 12) (v := ?_) rfl (by kernel_rfl) (by kernel_rfl) (by kernel_rfl) (fun _ _ _ h => h) (by rfl) (by assumption) ?_ ?_; rotate_left; (intro W hW; (try dsimp only at hW); go_simp; try with_reducible rfl); (try simp only [Act.put, List.setIfInBounds_toArray, List.set_cons_zero, List.set_cons_succ]))
    | (refine takeU (i := 12) rfl (by kernel_rfl) (by kernel_rfl) (by kernel_rfl) (fun _ _ _ h => h) (by rfl) (by assumption) ?_; (try simp only [Act.put, List.setIfInBounds_toArray, List.set_cons_zero, List.set_cons_succ]))
  (refine takeW (i := 14) rfl (by kernel_rfl) (by kernel_rfl) (by kernel_rfl) (fun _ _ _ h => h) (by rfl) (by assumption) (fun W hW => exec_loadW W25 rfl rfl (cs := encMe m) rfl hW.out.bm.list) ?_; (try simp only [Act.put, List.setIfInBounds_toArray, List.set_cons_zero, List.set_cons_succ]))
  first
    | (refine takeW (i := 15) (v := ?_) rfl (by kernel_rfl) (by kernel_rfl) (by kernel_rfl) (fun _ _ _ h => h) (by rfl) (by assumption) ?_ ?_; rotate_left; (intro W hW; (try dsimp only at hW); go_simp; try with_reducible rfl); (try simp only [Act.put, List.setIfInBounds_toArray, List.set_cons_zero, List.set_cons_succ]))
    | (refine takeU (i := 15) rfl (by kernel_rfl) (by kernel_rfl) (by kernel_rfl) (fun _ _ _ h => h) (by rfl) (by assumption) ?_; (try simp only [Act.put, List.setIfInBounds_toArray, List.set_cons_zero, List.set_cons_succ]))
  refine takeC (i := 13) rfl (by kernel_rfl) (by rfl) (fun K hK => ?_)
  go_simp
  refine (H10.out _ hHeld).mono ?_
  rintro e Wc2 ⟨rfl, hb⟩
  have hF : Hid (FB w m bm [(v, l)] Wc2) := Lib.hid (hHeld.out.keep hb)
  clear hb hHeld
  refine hK.out _ _ hF (fun hHeld => ?_)
  clear hK K hF
  try simp only [Act.put, List.setIfInBounds_toArray, List.set_cons_zero, List.set_cons_succ]
  refine takeC (i := 16) rfl (by kernel_rfl) (by rfl) (fun K hK => ?_)
  go_simp
  refine (H11.out _ hHeld).mono ?_
  rintro e Wc3 ⟨rfl, hb⟩
  have hF : Hid (FB w m bm [(v, l)] Wc3) := Lib.hid (hHeld.out.keep hb)
  clear hb hHeld
  refine hK.out _ _ hF (fun hHeld => ?_)
  clear hK K hF
  try simp only [Act.put, List.setIfInBounds_toArray, List.set_cons_zero, List.set_cons_succ]
  first
    | (refine takeW (i := 17) (v := ?_) rfl (by kernel_rfl) (by kernel_rfl) (by kernel_rfl) (fun _ _ _ h => h) (by rfl) (by assumption) ?_ ?_; rotate_left; (intro W hW; (try dsimp only at hW); go_simp; try with_reducible rfl); (try simp only [Act.put, List.setIfInBounds_toArray, List.set_cons_zero, List.set_cons_succ]))
    | (refine takeU (i := 17) rfl (by kernel_rfl) (by kernel_rfl) (by kernel_rfl) (fun _ _ _ h => h) (by rfl) (by assumption) ?_; (try simp only [Act.put, List.setIfInBounds_toArray, List.set_cons_zero, List.set_cons_succ]))
  (refine takeW (i := 18) (v := ?_) rfl (by kernel_rfl) (by kernel_rfl) (by kernel_rfl) (fun _ _ _ h => h) (by rfl) (by assumption) ?_ ?_; rotate_left; (intro W hW; (try dsimp only at hW); go_simp; try with_reducible rfl); (try simp only [Act.put, List.setIfInBounds_toArray, List.set_cons_zero, List.set_cons_succ]))
  (refine takeW (i := 19) (v := ?_) rfl (by kernel_rfl) (by kernel_rfl) (by kernel_rfl) (fun _ _ _ h => h) (by rfl) (by assumption) ?_ ?_; rotate_left; (intro W hW; (try dsimp only at hW); go_simp; try with_reducible rfl); (try simp only [Act.put, List.setIfInBounds_toArray, List.set_cons_zero, List.set_cons_succ]))
  (refine takeW (i := 20) rfl (by kernel_rfl) (by kernel_rfl) (by kernel_rfl) (fun _ _ _ h => h) (by rfl) (by assumption) (fun W hW => exec_loadW W25 rfl rfl (cs := encMe m) rfl hW.out.bm.list) ?_; (try simp only [Act.put, List.setIfInBounds_toArray, List.set_cons_zero, List.set_cons_succ]))
  first
    | (refine takeW (i := 21) (v := ?_) rfl (by kernel_rfl) (by kernel_rfl) (by kernel_rfl) (fun _ _ _ h => h) (by rfl) (by assumption) ?_ ?_; rotate_left; (intro W hW; (try dsimp only at hW); go_simp; try with_reducible rfl); (try simp only [Act.put, List.setIfInBounds_toArray, List.set_cons_zero, List.set_cons_succ]))
    | (refine takeU (i := 21) rfl (by kernel_rfl) (by kernel_rfl) (by kernel_rfl) (fun _ _ _ h => h) (by rfl) (by assumption) ?_; (try simp only [Act.put, List.setIfInBounds_toArray, List.set_cons_zero, List.set_cons_succ]))
  (refine takeW (i := 23) rfl (by kernel_rfl) (by kernel_rfl) (by kernel_rfl) (fun _ _ _ h => h) (by rfl) (by assumption) (fun W hW => exec_loadW W25 rfl rfl (cs := encMe m) rfl hW.out.bm.list) ?_; (try simp only [Act.put, List.setIfInBounds_toArray, List.set_cons_zero, List.set_cons_succ]))
  first
    | (refine takeW (i := 24) (v := ?_) rfl (by kernel_rfl) (by kernel_rfl) (by kernel_rfl) (fun _ _ _ h => h) (by rfl) (by assumption) ?_ ?_; rotate_left; (intro W hW; (try dsimp only at hW); go_simp; try with_reducible rfl); (try simp only [Act.put, List.setIfInBounds_toArray, List.set_cons_zero, List.set_cons_succ]))
    | (refine takeU (i := 24) rfl (by kernel_rfl) (by kernel_rfl) (by kernel_rfl) (fun _ _ _ h => h) (by rfl) (by assumption) ?_; (try simp only [Act.put, List.setIfInBounds_toArray, List.set_cons_zero, List.set_cons_succ]))
  refine takeC (i := 22) rfl (by kernel_rfl) (by rfl) (fun K hK => ?_)
  go_simp
  refine (H12.out _ hHeld).mono ?_
  rintro e Wc4 ⟨rfl, hb⟩
  have hF : Hid (FB w m bm [(v, l)] Wc4) := Lib.hid (hHeld.out.keep hb)
  clear hb hHeld
  refine hK.out _ _ hF (fun hHeld => ?_)
  clear hK K hF
  try simp only [Act.put, List.setIfInBounds_toArray, List.set_cons_zero, List.set_cons_succ]
  refine takeC (i := 25) rfl (by kernel_rfl) (by rfl) (fun K hK => ?_)
  go_simp
  refine (H13.out _ hHeld).mono ?_
  rintro e Wc5 ⟨rfl, hb⟩
  have hF : Hid (FB w m bm [(v, l)] Wc5) := Lib.hid (hHeld.out.keep hb)
  clear hb hHeld
  refine hK.out _ _ hF (fun hHeld => ?_)
  clear hK K hF
  try simp only [Act.put, List.setIfInBounds_toArray, List.set_cons_zero, List.set_cons_succ]
  first
    | (refine takeW (i := 26) (v := ?_) rfl (by kernel_rfl) (by kernel_rfl) (by kernel_rfl) (fun _ _ _ h => h) (by rfl) (by assumption) ?_ ?_; rotate_left; (intro W hW; (try dsimp only at hW); go_simp; try with_reducible rfl); (try simp only [Act.put, List.setIfInBounds_toArray, List.set_cons_zero, List.set_cons_succ]))
    | (refine takeU (i := 26) rfl (by kernel_rfl) (by kernel_rfl) (by kernel_rfl) (fun _ _ _ h => h) (by rfl) (by assumption) ?_; (try simp only [Act.put, List.setIfInBounds_toArray, List.set_cons_zero, List.set_cons_succ]))
  (refine takeW (i := 27) (v := ?_) rfl (by kernel_rfl) (by kernel_rfl) (by kernel_rfl) (fun _ _ _ h => h) (by rfl) (by assumption) ?_ ?_; rotate_left; (intro W hW; (try dsimp only at hW); go_simp; try with_reducible rfl); (try simp only [Act.put, List.setIfInBounds_toArray, List.set_cons_zero, List.set_cons_succ]))
  (refine takeW (i := 28) (v := ?_) rfl (by kernel_rfl) (by kernel_rfl) (by kernel_rfl) (fun _ _ _ h => h) (by rfl) (by assumption) ?_ ?_; rotate_left; (intro W hW; (try dsimp only at hW); go_simp; try with_reducible rfl); (try simp only [Act.put, List.setIfInBounds_toArray, List.set_cons_zero, List.set_cons_succ]))
  refine wpAnyH_done (by kernel_rfl) ?_ _
  have HBF := Lib.hid hHeld.out.bel
  clear hHeld
  go_wp2
  first | exact HP.out _ HBF.out | (go_ret; exact HP.out _ HBF.out)
end Go.Proofs.Ytmflnbdajaiahaa
