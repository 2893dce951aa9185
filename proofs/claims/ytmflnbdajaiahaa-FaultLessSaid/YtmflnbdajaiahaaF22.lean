/- FaultClean: the walk. -/
import Derived.Test.YtmflnbdajaiahaaF21
import Derived.Test.YtmflnbdajaiahaaPX
import Derived.Test.YtmflnbdajaiahaaTurn
namespace Go.Proofs.Ytmflnbdajaiahaa
open Go.RowKit Go.Shelf
open Md

theorem cleanF_len (m : Me) (l : List Fa) : (cleanF m l).length ≤ l.length := by
  rw [cleanF_pm]
  have h1 := fold_len (l.filter (pm m)) []
  have h2 := List.length_filter_le (pm m) l
  simp only [List.length_nil, Nat.add_zero] at h1
  omega
def Turned (l : List Fa) (W : World) (u : Value) (wx : World) : Prop := (∃ m : List Fa, m.Perm l ∧ Rd encF 7 wx u m) ∧ Below W.heap.size W wx
set_option maxRecDepth 100000 in
set_option maxHeartbeats 1600000 in
theorem clean_walk (m : Me) (v0 : Value) (l0 : List Fa) (j : Int) (w : World) (hm : GoodMe w m) (hv : Rd encF 7 w v0 l0) (j0 : 0 ≤ j) (j1 : j ≤ 255) : Calls Try.prog 4 #[mev m, v0, .int .u8 j] w (TruePost w) := by
  have HP : Hid (∀ w', Below w.heap.size w w' → TruePost w (.returned (.bool true)) w') := fun w' h => ⟨rfl, h⟩
  have HF0 : Hid (FB w m w.heap.size [] (w.alloc (.cells (encMe m).toArray 25))) := Lib.hid ⟨below1 w _, hm.below (below1 w _), Blk.new' rfl, by simp⟩
  have HFW : Hid (∀ X, Hid (FB w m w.heap.size [] X) → Calls Try.prog 6 #[v0] X fun e w' => (∃ v', e = .returned v' ∧ Rd encF 7 X v' (l0.take 60)) ∧ X = w') := fun X h => few_any v0 l0 X (hv.below h.out.bel)
  have hlen : (l0.take 60).length ≤ 60 := by rw [List.length_take]; omega
  have HL := Lib.hid hlen
  clear hv hm hlen
  generalize l0.take 60 = l at *
  change Calls Try.prog 4 #[.agg (encMe m).toArray, v0, .int .u8 j] w _
  go_enter Try.func4, Try.ntmps4
  go_upto_region 1 with fail
  change Code.wp _ _ _ _ (w.alloc (.cells (encMe m).toArray 25))
  generalize w.alloc (.cells (encMe m).toArray 25) = W1 at *
  obtain ⟨bm, hbm⟩ : ∃ b, w.heap.size = b := ⟨_, rfl⟩
  rw [hbm] at HF0 HFW
  simp only [hbm]
  clear hbm
  go_wp2_with fail
  refine (HFW.out _ HF0).mono ?_
  rintro e W2 ⟨⟨v, rfl, hr⟩, rfl⟩
  have HF1 : Hid (FB w m bm [(v, l)] W1) := Lib.hid (HF0.out.new v l hr)
  clear hr HFW HF0
  have HBG : Hid (∀ X, Calls Try.prog 7 #[] X fun e w' => e = .returned (.bool true) ∧ Below X.heap.size X w') := fun X => begun_any X
  have HCL := Lib.hid (fb_clean HF1.out (v := v) (l := l) (by simp) (by have := HL.out; omega) (Nat.le_trans (cleanF_len m l) HL.out))
  go_wp2_with ((with_reducible show wpList _ _ _ (Oper.mk (some 12) _ _ _ _ _ :: _) _ _); refine wpList_loadW W25 rfl rfl rfl (encMe m) rfl HF1.out.bm.list ?_)
  refine HCL.out.mono ?_
  rintro e W3 ⟨⟨vx, rfl, hr⟩, hb⟩
  have HF2 : Hid (FB w m bm [(vx, cleanF m l), (v, l)] W3) := Lib.hid ((HF1.out.keep hb).new vx _ hr)
  clear hr hb HCL HF1
  obtain ⟨X, hX⟩ : ∃ X, cleanF m l = X := ⟨_, rfl⟩
  have HXX : Hid (cleanF m X = X) := by rw [← hX]; exact cleanF_again m l
  have HXP : Hid (∀ mm : List Fa, mm.Perm l → cleanF m mm = X) := fun mm h => by rw [← hX]; exact cleanF_perm m h
  have HX1 : Hid (busF m X = busF m l) := by rw [← hX]; exact busF_again m l
  have HX2 : Hid (∀ a b, oneF m a b X = oneF m a b l) := fun a b => by rw [← hX]; exact oneF_again m a b l
  have HXL : Hid (X.length ≤ 60) := by rw [← hX]; exact Nat.le_trans (cleanF_len m l) HL.out
  rw [hX] at HF2
  clear hX
  have HCN := Lib.hid (clone_any l v W3 (HF2.out.rd (v, l) (by simp)) (by have := HL.out; omega))
  go_wp2_with fail
  refine HCN.out.mono ?_
  rintro e w2 ⟨⟨v1, rfl, ho1⟩, hb2⟩
  clear HCN
  obtain ⟨w1, rfl⟩ : ∃ w1 : World, w1 = W3 := ⟨_, rfl⟩
  obtain ⟨n, hn0⟩ : ∃ n, n = l.length := ⟨_, rfl⟩
  have HN := Lib.hid hn0
  have hn60 : n ≤ 60 := by rw [hn0]; exact HL.out
  rw [← hn0] at ho1
  clear hn0
  have hsz2 := hb2.size
  obtain ⟨a1, c1, rfl, hlc, hcapm, -⟩ := owns_shape ho1
  go_upto_if 19 with fail
  go_cut [8, 9] from 19 to 31 (fun u _ wx => Turned l w1 u wx)
  case first =>
    clear HF2 HP HBG HXX HXP HX1 HX2 HXL
    by_cases hn : n = 0
    · have hT : Turned l w1 (.slice a1 n c1) w2 := ⟨⟨l, List.Perm.refl _, Rd.of_owns encF_len (by have := ho1; rw [HN.out] at this ⊢; exact this) (by have := HN.out; omega)⟩, hb2⟩
      have HT := Lib.hid hT
      clear ho1 hb2 hT
      subst hn
      go_wp2_with fail
      go_meet
      exact HT.out
    · have hp : 0 < n := by omega
      obtain ⟨g, hgw, rfl⟩ : ∃ g, w1.heap.size ≤ g ∧ a1 = some ⟨g, 0, none⟩ := by
        rcases ho1.2 with ⟨_, h0⟩ | ⟨g, cap, cur, e, hbg, _⟩
        · omega
        · simp only [Value.slice.injEq] at e
          exact ⟨g, hbg, e.1⟩
      obtain ⟨k, hk, hkl⟩ : ∃ k : Nat, j.tmod (n : Int) = k ∧ k < n := ⟨(j.tmod (n : Int)).toNat, by
        rw [Int.tmod_eq_emod_of_nonneg j0]
        have := Int.emod_nonneg j (show (n : Int) ≠ 0 by omega); omega, by
        rw [Int.tmod_eq_emod_of_nonneg j0]
        have h1 := Int.emod_nonneg j (show (n : Int) ≠ 0 by omega)
        have h2 := Int.emod_lt_of_pos j (show (0 : Int) < n by omega)
        omega⟩
      have hnl := Lib.hid (List.take_append_drop k l)
      clear hn
      have HO1 := Lib.hid ho1
      have HB2 := Lib.hid hb2
      clear ho1 hb2
      go_upto_region 6 with fail
      clear hk
      have hkle : k ≤ n := by omega
      have hcapk : ¬ c1 = k := by omega
      have hkc : k ≤ c1 := by omega
      have hdr : Below w2.heap.size w2 w2.drew := (Below.refl _ w2).drew
      have hmd : w2.drew.ownsRow w1.heap.size 33 7 (.slice (some ⟨g, 0, none⟩) n c1) n (l.flatMap encF) := HO1.out
      have hS : True := trivial
      refine wp_region_held_drew (S := fun _ => True) (by kernel_rfl) hS (fun hHeld => ?_)
      (refine takeW (i := 0) (v := ?_) rfl (by kernel_rfl) (by kernel_rfl) (by kernel_rfl) (fun _ _ _ h => h) (by rfl) (by assumption) ?_ ?_; rotate_left; (intro W hW; (try dsimp only at hW); go_simp; try with_reducible rfl); (try simp only [Act.put, List.setIfInBounds_toArray, List.set_cons_zero, List.set_cons_succ]))
      (refine takeW (i := 1) (v := ?_) rfl (by kernel_rfl) (by kernel_rfl) (by kernel_rfl) (fun _ _ _ h => h) (by rfl) (by assumption) ?_ ?_; rotate_left; (intro W hW; (try dsimp only at hW); go_simp; try with_reducible rfl); (try simp only [Act.put, List.setIfInBounds_toArray, List.set_cons_zero, List.set_cons_succ]))
      (refine takeW (i := 2) (v := ?_) rfl (by kernel_rfl) (by kernel_rfl) (by kernel_rfl) (fun _ _ _ h => h) (by rfl) (by assumption) ?_ ?_; rotate_left; (intro W hW; (try dsimp only at hW); go_simp; try with_reducible rfl); (try simp only [Act.put, List.setIfInBounds_toArray, List.set_cons_zero, List.set_cons_succ]))
      (refine takeW (i := 3) (v := ?_) rfl (by kernel_rfl) (by kernel_rfl) (by kernel_rfl) (fun _ _ _ h => h) (by rfl) (by assumption) ?_ ?_; rotate_left; (intro W hW; (try dsimp only at hW); go_simp; try with_reducible rfl); (try simp only [Act.put, List.setIfInBounds_toArray, List.set_cons_zero, List.set_cons_succ]))
      (refine takeW (i := 4) (v := ?_) rfl (by kernel_rfl) (by kernel_rfl) (by kernel_rfl) (fun _ _ _ h => h) (by rfl) (by assumption) ?_ ?_; rotate_left; (intro W hW; (try dsimp only at hW); go_simp; try with_reducible rfl); (try simp only [Act.put, List.setIfInBounds_toArray, List.set_cons_zero, List.set_cons_succ]))
      (refine takeW (i := 5) (v := ?_) rfl (by kernel_rfl) (by kernel_rfl) (by kernel_rfl) (fun _ _ _ h => h) (by rfl) (by assumption) ?_ ?_; rotate_left; (intro W hW; (try dsimp only at hW); go_simp; try with_reducible rfl); (try simp only [Act.put, List.setIfInBounds_toArray, List.set_cons_zero, List.set_cons_succ]))
      refine takeC (i := 6) rfl (by kernel_rfl) (by rfl) (fun K hK => ?_)
      refine turn_wp E26 encF_len encF_one rfl _ _ rfl HN.out.symm hmd hkl (by omega) (by simpa using hsz2) rfl rfl ?_
      intro u2 w4 hu2 hb4
      refine hK.out _ _ trivial (fun hHeld => ?_)
      clear hK K
      try simp only [Act.put, List.setIfInBounds_toArray, List.set_cons_zero, List.set_cons_succ]
      (refine takeW (i := 7) (v := ?_) rfl (by kernel_rfl) (by kernel_rfl) (by kernel_rfl) (fun _ _ _ h => h) (by rfl) (by assumption) ?_ ?_; rotate_left; (intro W hW; (try dsimp only at hW); go_simp; try with_reducible rfl); (try simp only [Act.put, List.setIfInBounds_toArray, List.set_cons_zero, List.set_cons_succ]))
      refine wpAnyH_done (by kernel_rfl) ?_ _
      go_wp2_with fail
      go_meet
      refine ⟨⟨_, ?_, hu2⟩, HB2.out.trans ((hdr.mono hsz2).trans hb4)⟩
      exact List.perm_append_comm.trans (by rw [hnl.out])
  case rest =>
    obtain ⟨⟨mm, hperm, hmr⟩, hb3⟩ := hcut
    obtain ⟨w3, rfl⟩ : ∃ w3 : World, w3 = wc := ⟨_, rfl⟩
    have HF3 : Hid (FB w m bm [(u8, mm), (vx, X), (v, l)] w3) := Lib.hid ((HF2.out.keep hb3).new u8 mm hmr)
    have HMX := Lib.hid (HXP.out mm hperm)
    have HML : Hid (mm.length ≤ 60) := by rw [hperm.length_eq]; exact HL.out
    clear HF2 ho1 hb2 hperm hmr hb3 HXP hsz2 hlc hcapm
    obtain ⟨b1, hb1⟩ : ∃ b, busF m l = b := ⟨_, rfl⟩
    obtain ⟨b2, hb2⟩ : ∃ b, oneF m 7 8 l = b := ⟨_, rfl⟩
    obtain ⟨b3, hb3⟩ : ∃ b, oneF m 9 10 l = b := ⟨_, rfl⟩
    have HCX : Hid (∀ W, Hid (FB w m bm [(u8, mm), (vx, X), (v, l)] W) → Calls Try.prog 14 #[.agg (encMe m).toArray, vx] W fun e w' => (∃ v', e = .returned v' ∧ Rd encF 7 w' v' X) ∧ Below W.heap.size W w') := fun W h => by
      have := fb_clean h.out (v := vx) (l := X) (by simp) (by have := HXL.out; omega) (by rw [HXX.out]; exact HXL.out)
      rwa [HXX.out] at this
    have HCT : Hid (∀ W, Hid (FB w m bm [(u8, mm), (vx, X), (v, l)] W) → Calls Try.prog 14 #[.agg (encMe m).toArray, u8] W fun e w' => (∃ v', e = .returned v' ∧ Rd encF 7 w' v' X) ∧ Below W.heap.size W w') := fun W h => by
      have := fb_clean h.out (v := u8) (l := mm) (by simp) (by have := HML.out; omega) (by rw [HMX.out]; exact HXL.out)
      rwa [HMX.out] at this
    have HEQ : Hid (∀ W vr, Hid (FB w m bm [(u8, mm), (vx, X), (v, l)] W) → Hid (Rd encF 7 W vr X) → Calls Try.prog 16 #[vr, vx] W fun e w' => e = .returned (.bool true) ∧ Below W.heap.size W w') := fun W vr h hr => by
      have := equal_any vr vx X X W hr.out (h.out.rd (vx, X) (by simp))
      rwa [decide_eq_true rfl] at this
    have H8l : Hid (∀ W, Hid (FB w m bm [(u8, mm), (vx, X), (v, l)] W) → Calls Try.prog 8 #[.agg (encMe m).toArray, v] W fun e w' => e = .returned (.bool b1) ∧ Below W.heap.size W w') := fun W h => by have := fb_bus h.out (v := v) (l := l) (by simp) (by have := HL.out; have := HXL.out; omega); rwa [hb1] at this
    have H8x : Hid (∀ W, Hid (FB w m bm [(u8, mm), (vx, X), (v, l)] W) → Calls Try.prog 8 #[.agg (encMe m).toArray, vx] W fun e w' => e = .returned (.bool b1) ∧ Below W.heap.size W w') := fun W h => by have := fb_bus h.out (v := vx) (l := X) (by simp) (by have := HL.out; have := HXL.out; omega); rwa [HX1.out, hb1] at this
    have H10l : Hid (∀ W, Hid (FB w m bm [(u8, mm), (vx, X), (v, l)] W) → Calls Try.prog 10 #[.agg (encMe m).toArray, v] W fun e w' => e = .returned (.bool b2) ∧ Below W.heap.size W w') := fun W h => by have := fb_star h.out (v := v) (l := l) (by simp) (by have := HL.out; have := HXL.out; omega); rwa [hb2] at this
    have H10x : Hid (∀ W, Hid (FB w m bm [(u8, mm), (vx, X), (v, l)] W) → Calls Try.prog 10 #[.agg (encMe m).toArray, vx] W fun e w' => e = .returned (.bool b2) ∧ Below W.heap.size W w') := fun W h => by have := fb_star h.out (v := vx) (l := X) (by simp) (by have := HL.out; have := HXL.out; omega); rwa [HX2.out, hb2] at this
    have H12l : Hid (∀ W, Hid (FB w m bm [(u8, mm), (vx, X), (v, l)] W) → Calls Try.prog 12 #[.agg (encMe m).toArray, v] W fun e w' => e = .returned (.bool b3) ∧ Below W.heap.size W w') := fun W h => by have := fb_loud h.out (v := v) (l := l) (by simp) (by have := HL.out; have := HXL.out; omega); rwa [hb3] at this
    have H12x : Hid (∀ W, Hid (FB w m bm [(u8, mm), (vx, X), (v, l)] W) → Calls Try.prog 12 #[.agg (encMe m).toArray, vx] W fun e w' => e = .returned (.bool b3) ∧ Below W.heap.size W w') := fun W h => by have := fb_loud h.out (v := vx) (l := X) (by simp) (by have := HL.out; have := HXL.out; omega); rwa [HX2.out, hb3] at this
    clear hb1 hb2 hb3 HL HXX HMX HXL HML HX1 HX2
    go_upto_region 7 with fail
    have hS : Hid (FB w m bm [(u8, mm), (vx, X), (v, l)] w3.drew) := Lib.hid HF3.out.drew
    clear HF3
    refine wp_region_held_drew (S := fun X' => Hid (FB w m bm [(u8, mm), (vx, X), (v, l)] X')) (by kernel_rfl) hS (fun hHeld => ?_)
    refine takeC (i := 0) rfl (by kernel_rfl) (by rfl) (fun K hK => ?_)
    go_simp
    refine (HBG.out _).mono ?_
    rintro e Wa ⟨rfl, hb⟩
    have hF : Hid (FB w m bm [(u8, mm), (vx, X), (v, l)] Wa) := Lib.hid (hHeld.out.keep hb)
    clear hb hHeld
    refine hK.out _ _ hF (fun hHeld => ?_)
    clear hK K hF
    try simp only [Act.put, List.setIfInBounds_toArray, List.set_cons_zero, List.set_cons_succ]
    (refine takeW (i := 1) (v := ?_) rfl (by kernel_rfl) (by kernel_rfl) (by kernel_rfl) (fun _ _ _ h => h) (by rfl) (by assumption) ?_ ?_; rotate_left; (intro W hW; (try dsimp only at hW); go_simp; try with_reducible rfl); (try simp only [Act.put, List.setIfInBounds_toArray, List.set_cons_zero, List.set_cons_succ]))
    (refine takeW (i := 2) rfl (by kernel_rfl) (by kernel_rfl) (by kernel_rfl) (fun _ _ _ h => h) (by rfl) (by assumption) (fun W hW => exec_loadW W25 rfl rfl (cs := encMe m) rfl hW.out.bm.list) ?_; (try simp only [Act.put, List.setIfInBounds_toArray, List.set_cons_zero, List.set_cons_succ]))
    first
      | (refine takeW (i := 3) (v := ?_) rfl (by kernel_rfl) (by kernel_rfl) (by kernel_rfl) (fun _ _ _ h => h) (by rfl) (by assumption) ?_ ?_; rotate_left; (intro W hW; (try dsimp only at hW); go_simp; try with_reducible rfl); (try simp only [Act.put, List.setIfInBounds_toArray, List.set_cons_zero, List.set_cons_succ]))
      | (refine takeU (i := 3) rfl (by kernel_rfl) (by kernel_rfl) (by kernel_rfl) (fun _ _ _ h => h) (by rfl) (by assumption) ?_; (try simp only [Act.put, List.setIfInBounds_toArray, List.set_cons_zero, List.set_cons_succ]))
    first
      | (refine takeW (i := 5) (v := ?_) rfl (by kernel_rfl) (by kernel_rfl) (by kernel_rfl) (fun _ _ _ h => h) (by rfl) (by assumption) ?_ ?_; rotate_left; (intro W hW; (try dsimp only at hW); go_simp; try with_reducible rfl); (try simp only [Act.put, List.setIfInBounds_toArray, List.set_cons_zero, List.set_cons_succ]))
      | (refine takeU (i := 5) rfl (by kernel_rfl) (by kernel_rfl) (by kernel_rfl) (fun _ _ _ h => h) (by rfl) (by assumption) ?_; (try simp only [Act.put, List.setIfInBounds_toArray, List.set_cons_zero, List.set_cons_succ]))
    refine takeC (i := 4) rfl (by kernel_rfl) (by rfl) (fun K hK => ?_)
    go_simp
    refine (HCX.out _ hHeld).mono ?_
    rintro e Wb ⟨⟨vr, rfl, hr⟩, hb⟩
    have hF : Hid (FB w m bm [(u8, mm), (vx, X), (v, l)] Wb) := Lib.hid (hHeld.out.keep hb)
    have HR := Lib.hid hr
    clear hr
    clear hb hHeld
    refine hK.out _ _ hF (fun hHeld => ?_)
    clear hK K hF
    try simp only [Act.put, List.setIfInBounds_toArray, List.set_cons_zero, List.set_cons_succ]
    refine takeC (i := 6) rfl (by kernel_rfl) (by rfl) (fun K hK => ?_)
    go_simp
    refine (HEQ.out _ _ hHeld HR).mono ?_
    rintro e Wc ⟨rfl, hb⟩
    have hF : Hid (FB w m bm [(u8, mm), (vx, X), (v, l)] Wc) := Lib.hid (hHeld.out.keep hb)
    clear HR
    clear hb hHeld
    refine hK.out _ _ hF (fun hHeld => ?_)
    clear hK K hF
    try simp only [Act.put, List.setIfInBounds_toArray, List.set_cons_zero, List.set_cons_succ]
    (refine takeW (i := 7) (v := ?_) rfl (by kernel_rfl) (by kernel_rfl) (by kernel_rfl) (fun _ _ _ h => h) (by rfl) (by assumption) ?_ ?_; rotate_left; (intro W hW; (try dsimp only at hW); go_simp; try with_reducible rfl); (try simp only [Act.put, List.setIfInBounds_toArray, List.set_cons_zero, List.set_cons_succ]))
    (refine takeW (i := 8) (v := ?_) rfl (by kernel_rfl) (by kernel_rfl) (by kernel_rfl) (fun _ _ _ h => h) (by rfl) (by assumption) ?_ ?_; rotate_left; (intro W hW; (try dsimp only at hW); go_simp; try with_reducible rfl); (try simp only [Act.put, List.setIfInBounds_toArray, List.set_cons_zero, List.set_cons_succ]))
    (refine takeW (i := 9) rfl (by kernel_rfl) (by kernel_rfl) (by kernel_rfl) (fun _ _ _ h => h) (by rfl) (by assumption) (fun W hW => exec_loadW W25 rfl rfl (cs := encMe m) rfl hW.out.bm.list) ?_; (try simp only [Act.put, List.setIfInBounds_toArray, List.set_cons_zero, List.set_cons_succ]))
    first
      | (refine takeW (i := 10) (v := ?_) rfl (by kernel_rfl) (by kernel_rfl) (by kernel_rfl) (fun _ _ _ h => h) (by rfl) (by assumption) ?_ ?_; rotate_left; (intro W hW; (try dsimp only at hW); go_simp; try with_reducible rfl); (try simp only [Act.put, List.setIfInBounds_toArray, List.set_cons_zero, List.set_cons_succ]))
      | (refine takeU (i := 10) rfl (by kernel_rfl) (by kernel_rfl) (by kernel_rfl) (fun _ _ _ h => h) (by rfl) (by assumption) ?_; (try simp only [Act.put, List.setIfInBounds_toArray, List.set_cons_zero, List.set_cons_succ]))
    first
      | (refine takeW (i := 12) (v := ?_) rfl (by kernel_rfl) (by kernel_rfl) (by kernel_rfl) (fun _ _ _ h => h) (by rfl) (by assumption) ?_ ?_; rotate_left; (intro W hW; (try dsimp only at hW); go_simp; try with_reducible rfl); (try simp only [Act.put, List.setIfInBounds_toArray, List.set_cons_zero, List.set_cons_succ]))
      | (refine takeU (i := 12) rfl (by kernel_rfl) (by kernel_rfl) (by kernel_rfl) (fun _ _ _ h => h) (by rfl) (by assumption) ?_; (try simp only [Act.put, List.setIfInBounds_toArray, List.set_cons_zero, List.set_cons_succ]))
    refine takeC (i := 11) rfl (by kernel_rfl) (by rfl) (fun K hK => ?_)
    go_simp
    refine (HCT.out _ hHeld).mono ?_
    rintro e Wd ⟨⟨vr, rfl, hr⟩, hb⟩
    have hF : Hid (FB w m bm [(u8, mm), (vx, X), (v, l)] Wd) := Lib.hid (hHeld.out.keep hb)
    have HR := Lib.hid hr
    clear hr
    clear hb hHeld
    refine hK.out _ _ hF (fun hHeld => ?_)
    clear hK K hF
    try simp only [Act.put, List.setIfInBounds_toArray, List.set_cons_zero, List.set_cons_succ]
    refine takeC (i := 13) rfl (by kernel_rfl) (by rfl) (fun K hK => ?_)
    go_simp
    refine (HEQ.out _ _ hHeld HR).mono ?_
    rintro e We ⟨rfl, hb⟩
    have hF : Hid (FB w m bm [(u8, mm), (vx, X), (v, l)] We) := Lib.hid (hHeld.out.keep hb)
    clear HR
    clear hb hHeld
    refine hK.out _ _ hF (fun hHeld => ?_)
    clear hK K hF
    try simp only [Act.put, List.setIfInBounds_toArray, List.set_cons_zero, List.set_cons_succ]
    (refine takeW (i := 14) (v := ?_) rfl (by kernel_rfl) (by kernel_rfl) (by kernel_rfl) (fun _ _ _ h => h) (by rfl) (by assumption) ?_ ?_; rotate_left; (intro W hW; (try dsimp only at hW); go_simp; try with_reducible rfl); (try simp only [Act.put, List.setIfInBounds_toArray, List.set_cons_zero, List.set_cons_succ]))
    (refine takeW (i := 15) (v := ?_) rfl (by kernel_rfl) (by kernel_rfl) (by kernel_rfl) (fun _ _ _ h => h) (by rfl) (by assumption) ?_ ?_; rotate_left; (intro W hW; (try dsimp only at hW); go_simp; try with_reducible rfl); (try simp only [Act.put, List.setIfInBounds_toArray, List.set_cons_zero, List.set_cons_succ]))
    (refine takeW (i := 16) rfl (by kernel_rfl) (by kernel_rfl) (by kernel_rfl) (fun _ _ _ h => h) (by rfl) (by assumption) (fun W hW => exec_loadW W25 rfl rfl (cs := encMe m) rfl hW.out.bm.list) ?_; (try simp only [Act.put, List.setIfInBounds_toArray, List.set_cons_zero, List.set_cons_succ]))
    first
      | (refine takeW (i := 17) (v := ?_) rfl (by kernel_rfl) (by kernel_rfl) (by kernel_rfl) (fun _ _ _ h => h) (by rfl) (by assumption) ?_ ?_; rotate_left; (intro W hW; (try dsimp only at hW); go_simp; try with_reducible rfl); (try simp only [Act.put, List.setIfInBounds_toArray, List.set_cons_zero, List.set_cons_succ]))
      | (refine takeU (i := 17) rfl (by kernel_rfl) (by kernel_rfl) (by kernel_rfl) (fun _ _ _ h => h) (by rfl) (by assumption) ?_; (try simp only [Act.put, List.setIfInBounds_toArray, List.set_cons_zero, List.set_cons_succ]))
    (refine takeW (i := 19) rfl (by kernel_rfl) (by kernel_rfl) (by kernel_rfl) (fun _ _ _ h => h) (by rfl) (by assumption) (fun W hW => exec_loadW W25 rfl rfl (cs := encMe m) rfl hW.out.bm.list) ?_; (try simp only [Act.put, List.setIfInBounds_toArray, List.set_cons_zero, List.set_cons_succ]))
    first
      | (refine takeW (i := 20) (v := ?_) rfl (by kernel_rfl) (by kernel_rfl) (by kernel_rfl) (fun _ _ _ h => h) (by rfl) (by assumption) ?_ ?_; rotate_left; (intro W hW; (try dsimp only at hW); go_simp; try with_reducible rfl); (try simp only [Act.put, List.setIfInBounds_toArray, List.set_cons_zero, List.set_cons_succ]))
      | (refine takeU (i := 20) rfl (by kernel_rfl) (by kernel_rfl) (by kernel_rfl) (fun _ _ _ h => h) (by rfl) (by assumption) ?_; (try simp only [Act.put, List.setIfInBounds_toArray, List.set_cons_zero, List.set_cons_succ]))
    refine takeC (i := 18) rfl (by kernel_rfl) (by rfl) (fun K hK => ?_)
    go_simp
    refine (H8l.out _ hHeld).mono ?_
    rintro e Wf0 ⟨rfl, hb⟩
    have hF : Hid (FB w m bm [(u8, mm), (vx, X), (v, l)] Wf0) := Lib.hid (hHeld.out.keep hb)
    clear hb hHeld
    refine hK.out _ _ hF (fun hHeld => ?_)
    clear hK K hF
    try simp only [Act.put, List.setIfInBounds_toArray, List.set_cons_zero, List.set_cons_succ]
    refine takeC (i := 21) rfl (by kernel_rfl) (by rfl) (fun K hK => ?_)
    go_simp
    refine (H8x.out _ hHeld).mono ?_
    rintro e Wf1 ⟨rfl, hb⟩
    have hF : Hid (FB w m bm [(u8, mm), (vx, X), (v, l)] Wf1) := Lib.hid (hHeld.out.keep hb)
    clear hb hHeld
    refine hK.out _ _ hF (fun hHeld => ?_)
    clear hK K hF
    try simp only [Act.put, List.setIfInBounds_toArray, List.set_cons_zero, List.set_cons_succ]
    first
      | (refine takeW (i := 22) (v := ?_) rfl (by kernel_rfl) (by kernel_rfl) (by kernel_rfl) (fun _ _ _ h => h) (by rfl) (by assumption) ?_ ?_; rotate_left; (intro W hW; (try dsimp only at hW); go_simp; try with_reducible rfl); (try simp only [Act.put, List.setIfInBounds_toArray, List.set_cons_zero, List.set_cons_succ]))
      | (refine takeU (i := 22) rfl (by kernel_rfl) (by kernel_rfl) (by kernel_rfl) (fun _ _ _ h => h) (by rfl) (by assumption) ?_; (try simp only [Act.put, List.setIfInBounds_toArray, List.set_cons_zero, List.set_cons_succ]))
    (refine takeW (i := 23) (v := ?_) rfl (by kernel_rfl) (by kernel_rfl) (by kernel_rfl) (fun _ _ _ h => h) (by rfl) (by assumption) ?_ ?_; rotate_left; (intro W hW; (try dsimp only at hW); go_simp; try with_reducible rfl); (try simp only [Act.put, List.setIfInBounds_toArray, List.set_cons_zero, List.set_cons_succ]))
    (refine takeW (i := 24) (v := ?_) rfl (by kernel_rfl) (by kernel_rfl) (by kernel_rfl) (fun _ _ _ h => h) (by rfl) (by assumption) ?_ ?_; rotate_left; (intro W hW; (try dsimp only at hW); go_simp; try with_reducible rfl); (try simp only [Act.put, List.setIfInBounds_toArray, List.set_cons_zero, List.set_cons_succ]))
    (refine takeW (i := 25) rfl (by kernel_rfl) (by kernel_rfl) (by kernel_rfl) (fun _ _ _ h => h) (by rfl) (by assumption) (fun W hW => exec_loadW W25 rfl rfl (cs := encMe m) rfl hW.out.bm.list) ?_; (try simp only [Act.put, List.setIfInBounds_toArray, List.set_cons_zero, List.set_cons_succ]))
    first
      | (refine takeW (i := 26) (v := ?_) rfl (by kernel_rfl) (by kernel_rfl) (by kernel_rfl) (fun _ _ _ h => h) (by rfl) (by assumption) ?_ ?_; rotate_left; (intro W hW; (try dsimp only at hW); go_simp; try with_reducible rfl); (try simp only [Act.put, List.setIfInBounds_toArray, List.set_cons_zero, List.set_cons_succ]))
      | (refine takeU (i := 26) rfl (by kernel_rfl) (by kernel_rfl) (by kernel_rfl) (fun _ _ _ h => h) (by rfl) (by assumption) ?_; (try simp only [Act.put, List.setIfInBounds_toArray, List.set_cons_zero, List.set_cons_succ]))
    (refine takeW (i := 28) rfl (by kernel_rfl) (by kernel_rfl) (by kernel_rfl) (fun _ _ _ h => h) (by rfl) (by assumption) (fun W hW => exec_loadW W25 rfl rfl (cs := encMe m) rfl hW.out.bm.list) ?_; (try simp only [Act.put, List.setIfInBounds_toArray, List.set_cons_zero, List.set_cons_succ]))
    first
      | (refine takeW (i := 29) (v := ?_) rfl (by kernel_rfl) (by kernel_rfl) (by kernel_rfl) (fun _ _ _ h => h) (by rfl) (by assumption) ?_ ?_; rotate_left; (intro W hW; (try dsimp only at hW); go_simp; try with_reducible rfl); (try simp only [Act.put, List.setIfInBounds_toArray, List.set_cons_zero, List.set_cons_succ]))
      | (refine takeU (i := 29) rfl (by kernel_rfl) (by kernel_rfl) (by kernel_rfl) (fun _ _ _ h => h) (by rfl) (by assumption) ?_; (try simp only [Act.put, List.setIfInBounds_toArray, List.set_cons_zero, List.set_cons_succ]))
    refine takeC (i := 27) rfl (by kernel_rfl) (by rfl) (fun K hK => ?_)
    go_simp
    refine (H10l.out _ hHeld).mono ?_
    rintro e Wf2 ⟨rfl, hb⟩
    have hF : Hid (FB w m bm [(u8, mm), (vx, X), (v, l)] Wf2) := Lib.hid (hHeld.out.keep hb)
    clear hb hHeld
    refine hK.out _ _ hF (fun hHeld => ?_)
    clear hK K hF
    try simp only [Act.put, List.setIfInBounds_toArray, List.set_cons_zero, List.set_cons_succ]
    refine takeC (i := 30) rfl (by kernel_rfl) (by rfl) (fun K hK => ?_)
    go_simp
    refine (H10x.out _ hHeld).mono ?_
    rintro e Wf3 ⟨rfl, hb⟩
    have hF : Hid (FB w m bm [(u8, mm), (vx, X), (v, l)] Wf3) := Lib.hid (hHeld.out.keep hb)
    clear hb hHeld
    refine hK.out _ _ hF (fun hHeld => ?_)
    clear hK K hF
    try simp only [Act.put, List.setIfInBounds_toArray, List.set_cons_zero, List.set_cons_succ]
    first
      | (refine takeW (i := 31) (v := ?_) rfl (by kernel_rfl) (by kernel_rfl) (by kernel_rfl) (fun _ _ _ h => h) (by rfl) (by assumption) ?_ ?_; rotate_left; (intro W hW; (try dsimp only at hW); go_simp; try with_reducible rfl); (try simp only [Act.put, List.setIfInBounds_toArray, List.set_cons_zero, List.set_cons_succ]))
      | (refine takeU (i := 31) rfl (by kernel_rfl) (by kernel_rfl) (by kernel_rfl) (fun _ _ _ h => h) (by rfl) (by assumption) ?_; (try simp only [Act.put, List.setIfInBounds_toArray, List.set_cons_zero, List.set_cons_succ]))
    (refine takeW (i := 32) (v := ?_) rfl (by kernel_rfl) (by kernel_rfl) (by kernel_rfl) (fun _ _ _ h => h) (by rfl) (by assumption) ?_ ?_; rotate_left; (intro W hW; (try dsimp only at hW); go_simp; try with_reducible rfl); (try simp only [Act.put, List.setIfInBounds_toArray, List.set_cons_zero, List.set_cons_succ]))
    (refine takeW (i := 33) (v := ?_) rfl (by kernel_rfl) (by kernel_rfl) (by kernel_rfl) (fun _ _ _ h => h) (by rfl) (by assumption) ?_ ?_; rotate_left; (intro W hW; (try dsimp only at hW); go_simp; try with_reducible rfl); (try simp only [Act.put, List.setIfInBounds_toArray, List.set_cons_zero, List.set_cons_succ]))
    (refine takeW (i := 34) rfl (by kernel_rfl) (by kernel_rfl) (by kernel_rfl) (fun _ _ _ h => h) (by rfl) (by assumption) (fun W hW => exec_loadW W25 rfl rfl (cs := encMe m) rfl hW.out.bm.list) ?_; (try simp only [Act.put, List.setIfInBounds_toArray, List.set_cons_zero, List.set_cons_succ]))
    first
      | (refine takeW (i := 35) (v := ?_) rfl (by kernel_rfl) (by kernel_rfl) (by kernel_rfl) (fun _ _ _ h => h) (by rfl) (by assumption) ?_ ?_; rotate_left; (intro W hW; (try dsimp only at hW); go_simp; try with_reducible rfl); (try simp only [Act.put, List.setIfInBounds_toArray, List.set_cons_zero, List.set_cons_succ]))
      | (refine takeU (i := 35) rfl (by kernel_rfl) (by kernel_rfl) (by kernel_rfl) (fun _ _ _ h => h) (by rfl) (by assumption) ?_; (try simp only [Act.put, List.setIfInBounds_toArray, List.set_cons_zero, List.set_cons_succ]))
    (refine takeW (i := 37) rfl (by kernel_rfl) (by kernel_rfl) (by kernel_rfl) (fun _ _ _ h => h) (by rfl) (by assumption) (fun W hW => exec_loadW W25 rfl rfl (cs := encMe m) rfl hW.out.bm.list) ?_; (try simp only [Act.put, List.setIfInBounds_toArray, List.set_cons_zero, List.set_cons_succ]))
    first
      | (refine takeW (i := 38) (v := ?_) rfl (by kernel_rfl) (by kernel_rfl) (by kernel_rfl) (fun _ _ _ h => h) (by rfl) (by assumption) ?_ ?_; rotate_left; (intro W hW; (try dsimp only at hW); go_simp; try with_reducible rfl); (try simp only [Act.put, List.setIfInBounds_toArray, List.set_cons_zero, List.set_cons_succ]))
      | (refine takeU (i := 38) rfl (by kernel_rfl) (by kernel_rfl) (by kernel_rfl) (fun _ _ _ h => h) (by rfl) (by assumption) ?_; (try simp only [Act.put, List.setIfInBounds_toArray, List.set_cons_zero, List.set_cons_succ]))
    refine takeC (i := 36) rfl (by kernel_rfl) (by rfl) (fun K hK => ?_)
    go_simp
    refine (H12l.out _ hHeld).mono ?_
    rintro e Wf4 ⟨rfl, hb⟩
    have hF : Hid (FB w m bm [(u8, mm), (vx, X), (v, l)] Wf4) := Lib.hid (hHeld.out.keep hb)
    clear hb hHeld
    refine hK.out _ _ hF (fun hHeld => ?_)
    clear hK K hF
    try simp only [Act.put, List.setIfInBounds_toArray, List.set_cons_zero, List.set_cons_succ]
    refine takeC (i := 39) rfl (by kernel_rfl) (by rfl) (fun K hK => ?_)
    go_simp
    refine (H12x.out _ hHeld).mono ?_
    rintro e Wf5 ⟨rfl, hb⟩
    have hF : Hid (FB w m bm [(u8, mm), (vx, X), (v, l)] Wf5) := Lib.hid (hHeld.out.keep hb)
    clear hb hHeld
    refine hK.out _ _ hF (fun hHeld => ?_)
    clear hK K hF
    try simp only [Act.put, List.setIfInBounds_toArray, List.set_cons_zero, List.set_cons_succ]
    first
      | (refine takeW (i := 40) (v := ?_) rfl (by kernel_rfl) (by kernel_rfl) (by kernel_rfl) (fun _ _ _ h => h) (by rfl) (by assumption) ?_ ?_; rotate_left; (intro W hW; (try dsimp only at hW); go_simp; try with_reducible rfl); (try simp only [Act.put, List.setIfInBounds_toArray, List.set_cons_zero, List.set_cons_succ]))
      | (refine takeU (i := 40) rfl (by kernel_rfl) (by kernel_rfl) (by kernel_rfl) (fun _ _ _ h => h) (by rfl) (by assumption) ?_; (try simp only [Act.put, List.setIfInBounds_toArray, List.set_cons_zero, List.set_cons_succ]))
    (refine takeW (i := 41) (v := ?_) rfl (by kernel_rfl) (by kernel_rfl) (by kernel_rfl) (fun _ _ _ h => h) (by rfl) (by assumption) ?_ ?_; rotate_left; (intro W hW; (try dsimp only at hW); go_simp; try with_reducible rfl); (try simp only [Act.put, List.setIfInBounds_toArray, List.set_cons_zero, List.set_cons_succ]))
    (refine takeW (i := 42) (v := ?_) rfl (by kernel_rfl) (by kernel_rfl) (by kernel_rfl) (fun _ _ _ h => h) (by rfl) (by assumption) ?_ ?_; rotate_left; (intro W hW; (try dsimp only at hW); go_simp; try with_reducible rfl); (try simp only [Act.put, List.setIfInBounds_toArray, List.set_cons_zero, List.set_cons_succ]))
    refine wpAnyH_done (by kernel_rfl) ?_ _
    have HBF := Lib.hid hHeld.out.bel
    clear hHeld
    go_wp2
    first | exact HP.out _ HBF.out | (go_ret; exact HP.out _ HBF.out)
end Go.Proofs.Ytmflnbdajaiahaa
