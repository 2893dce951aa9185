/- QueueAny: the same events, put in any order, are told the same. -/
import Derived.Test.YtbmnecdkjkffdaaG3
import Derived.Test.YtbmnecdkjkffdaaTurn
import Derived.Test.YtbmnecdkjkffdaaE14
import Derived.Deep.CutRange
namespace Go.Proofs.Ytbmnecdkjkffdaa
open Go.RowKit Go.Shelf

def Turned (l : List Ev) (W : World) (u : Value) (wx : World) : Prop := (∃ m : List Ev, m.Perm l ∧ Rd encE 4 wx u m) ∧ Below W.heap.size W wx
/-- How far the events have been put. -/
def AnyJ (m : List Ev) (q : Nat) (w4 : World) (k : Nat) (W : World) : Prop := (∃ sv h, Qu W q sv h 0 ∧ h.Perm (m.take k)) ∧ Below w4.heap.size w4 W
theorem AnyJ.push {m : List Ev} {q k : Nat} {w4 W W' : World} {h : List Ev} {sv sv' : Value} {x : Ev} (hq4 : w4.heap.size ≤ q) (hb : Below w4.heap.size w4 W) (hQ : Qu W q sv h 0) (hp : h.Perm (m.take k)) (hx : m[k]? = some x) (he : pushE h 0 x = 0)
    (hQ' : Qu W' q sv' (pushL h 0 x) 0) (hS : QS W W' q sv sv') : AnyJ m q w4 (k + 1) W' := by
  refine ⟨⟨sv', _, hQ', ?_⟩, hb.trans (hS.below hb.size hq4 (fun g e => by have := (hQ.2.lt g e).1; omega))⟩
  rw [take_snoc hx]
  exact (pushL_yes he).trans ((hp.cons x).trans (List.perm_append_comm (l₁ := [x]) (l₂ := m.take k)))
theorem push_good {h : List Ev} {x : Ev} (hx : badE x = false) (hl : h.length < 16384) : pushE h 0 x = 0 := by
  unfold badE at hx
  simp at hx
  unfold pushE
  rw [if_neg (by omega), if_neg (by omega)]
set_option maxRecDepth 100000 in
set_option maxHeartbeats 1600000 in
theorem any_long (v : Value) (j : Int) (l : List Ev) (w : World) (hv : Rd encE 4 w v l) (hl : 200 < l.length) : Calls Try.prog 4 #[v, .int .u8 j] w (True1 w) := by
  have HP : Hid (∀ w', Below w.heap.size w w' → True1 w (.returned (.bool true)) w') := fun w' h => ⟨rfl, h⟩
  have HC := Lib.hid begun_any
  obtain ⟨a, cap, rfl, hcap, hcm, hlen⟩ := hv.shape
  clear hv
  go_enter Try.func4, Try.ntmps4
  go_wp2_with fail
  refine (HC.out _).mono ?_
  rintro e w1 ⟨rfl, hb1⟩
  have HB1 := Lib.hid hb1
  clear hb1
  go_wp2_with fail
  refine (HC.out _).mono ?_
  rintro e w2 ⟨rfl, hb2⟩
  have HB2 := Lib.hid hb2
  clear hb2
  go_wp2
  go_ret
  exact HP.out _ (bt HB1.out HB2.out)
set_option maxRecDepth 100000 in
set_option maxHeartbeats 3200000 in
theorem any_any (v : Value) (j : Int) (l : List Ev) (w : World) (hv : Rd encE 4 w v l) (hl : l.length ≤ 200) (j0 : 0 ≤ j) (j1 : j ≤ 255) : Calls Try.prog 4 #[v, .int .u8 j] w (True1 w) := by
  have HP : Hid (∀ w', Below w.heap.size w w' → True1 w (.returned (.bool true)) w') := fun w' h => ⟨rfl, h⟩
  have HBG := Lib.hid begun_any
  have HV := Lib.hid hv
  obtain ⟨a, cap, rfl, hcap, hcm, hlen⟩ := hv.shape
  obtain ⟨n, hn⟩ : ∃ n, n = l.length := ⟨_, rfl⟩
  rw [← hn] at hl hcap hlen HV
  rw [← hn]
  have HN := Lib.hid hn
  clear hv hn
  go_enter Try.func4, Try.ntmps4
  go_wp2_with fail
  refine (HBG.out _).mono ?_
  rintro e w1 ⟨rfl, hb1⟩
  have HB1 := Lib.hid hb1
  clear hb1 HBG
  have HV1 := Lib.hid (HV.out.below HB1.out)
  have HCL := Lib.hid (clone_any l _ w1 HV1.out (by have := HN.out; omega))
  go_wp2_with fail
  refine HCL.out.mono ?_
  rintro e w2 ⟨⟨v1, rfl, ho1⟩, hb2⟩
  rw [← HN.out] at ho1
  have hb12 := bt HB1.out hb2
  have hv2 := HV1.out.below hb2
  have hsz2 := hb2.size
  clear HCL
  obtain ⟨a1, c1, rfl, hlc, hcapm, -⟩ := owns_shape ho1
  go_upto_if 25 with fail
  go_cut [5, 6] from 25 to 37 (fun u _ wx => Turned l w1 u wx)
  case first =>
    clear HB1 HV1 HV HP hb12 hv2
    by_cases hn : n = 0
    · have hT : Turned l w1 (.slice a1 n c1) w2 := ⟨⟨l, List.Perm.refl _, Rd.of_owns encE_len (by have := ho1; rw [HN.out] at this ⊢; exact this) (by have := HN.out; omega)⟩, hb2⟩
      have HT := Lib.hid hT
      clear ho1 hb2 hT
      subst hn
      go_wp2_with fail
      go_meet
      exact HT.out
    · have hp : 0 < n := by omega
      obtain ⟨g, hgw, rfl⟩ : ∃ g, w1.heap.size ≤ g ∧ a1 = some ⟨g, 0, none⟩ := by
        rcases ho1.2 with ⟨_, h0⟩ | ⟨g, cap, cur, e, hbg, _⟩
        · omega
        · simp only [Value.slice.injEq] at e
          exact ⟨g, hbg, e.1⟩
      obtain ⟨k, hk, hkl⟩ : ∃ k : Nat, j.tmod (n : Int) = k ∧ k < n := ⟨(j.tmod (n : Int)).toNat, by
        rw [Int.tmod_eq_emod_of_nonneg j0]
        have := Int.emod_nonneg j (show (n : Int) ≠ 0 by omega); omega, by
        rw [Int.tmod_eq_emod_of_nonneg j0]
        have h1 := Int.emod_nonneg j (show (n : Int) ≠ 0 by omega)
        have h2 := Int.emod_lt_of_pos j (show (0 : Int) < n by omega)
        omega⟩
      have hnl := Lib.hid (List.take_append_drop k l)
      clear hn
      have HO1 := Lib.hid ho1
      have HB2 := Lib.hid hb2
      clear ho1 hb2
      go_upto_region 6 with fail
      clear hk
      have hkle : k ≤ n := by omega
      have hcapk : ¬ c1 = k := by omega
      have hkc : k ≤ c1 := by omega
      have hdr : Below w2.heap.size w2 w2.drew := (Below.refl _ w2).drew
      have hmd : w2.drew.ownsRow w1.heap.size 31 4 (.slice (some ⟨g, 0, none⟩) n c1) n (l.flatMap encE) := HO1.out
      have hS : True := trivial
      refine wp_region_held_drew (S := fun _ => True) (by kernel_rfl) hS (fun hHeld => ?_)
      (refine takeW (i := 0) (v := ?_) rfl (by kernel_rfl) (by kernel_rfl) (by kernel_rfl) (fun _ _ _ h => h) (by rfl) (by assumption) ?_ ?_; rotate_left; (intro W hW; (try dsimp only at hW); go_simp; try with_reducible rfl); (try simp only [Act.put, List.setIfInBounds_toArray, List.set_cons_zero, List.set_cons_succ]))
      (refine takeW (i := 1) (v := ?_) rfl (by kernel_rfl) (by kernel_rfl) (by kernel_rfl) (fun _ _ _ h => h) (by rfl) (by assumption) ?_ ?_; rotate_left; (intro W hW; (try dsimp only at hW); go_simp; try with_reducible rfl); (try simp only [Act.put, List.setIfInBounds_toArray, List.set_cons_zero, List.set_cons_succ]))
      (refine takeW (i := 2) (v := ?_) rfl (by kernel_rfl) (by kernel_rfl) (by kernel_rfl) (fun _ _ _ h => h) (by rfl) (by assumption) ?_ ?_; rotate_left; (intro W hW; (try dsimp only at hW); go_simp; try with_reducible rfl); (try simp only [Act.put, List.setIfInBounds_toArray, List.set_cons_zero, List.set_cons_succ]))
      (refine takeW (i := 3) (v := ?_) rfl (by kernel_rfl) (by kernel_rfl) (by kernel_rfl) (fun _ _ _ h => h) (by rfl) (by assumption) ?_ ?_; rotate_left; (intro W hW; (try dsimp only at hW); go_simp; try with_reducible rfl); (try simp only [Act.put, List.setIfInBounds_toArray, List.set_cons_zero, List.set_cons_succ]))
      (refine takeW (i := 4) (v := ?_) rfl (by kernel_rfl) (by kernel_rfl) (by kernel_rfl) (fun _ _ _ h => h) (by rfl) (by assumption) ?_ ?_; rotate_left; (intro W hW; (try dsimp only at hW); go_simp; try with_reducible rfl); (try simp only [Act.put, List.setIfInBounds_toArray, List.set_cons_zero, List.set_cons_succ]))
      (refine takeW (i := 5) (v := ?_) rfl (by kernel_rfl) (by kernel_rfl) (by kernel_rfl) (fun _ _ _ h => h) (by rfl) (by assumption) ?_ ?_; rotate_left; (intro W hW; (try dsimp only at hW); go_simp; try with_reducible rfl); (try simp only [Act.put, List.setIfInBounds_toArray, List.set_cons_zero, List.set_cons_succ]))
      refine takeC (i := 6) rfl (by kernel_rfl) (by rfl) (fun K hK => ?_)
      refine turn_wp E22 encE_len encE_one rfl _ _ rfl HN.out.symm hmd hkl (by omega) (by simpa using hsz2) rfl rfl ?_
      intro u2 w4 hu2 hb4
      refine hK.out _ _ trivial (fun hHeld => ?_)
      clear hK K
      try simp only [Act.put, List.setIfInBounds_toArray, List.set_cons_zero, List.set_cons_succ]
      (refine takeW (i := 7) (v := ?_) rfl (by kernel_rfl) (by kernel_rfl) (by kernel_rfl) (fun _ _ _ h => h) (by rfl) (by assumption) ?_ ?_; rotate_left; (intro W hW; (try dsimp only at hW); go_simp; try with_reducible rfl); (try simp only [Act.put, List.setIfInBounds_toArray, List.set_cons_zero, List.set_cons_succ]))
      refine wpAnyH_done (by kernel_rfl) ?_ _
      go_wp2_with fail
      go_meet
      refine ⟨⟨_, ?_, hu2⟩, HB2.out.trans ((hdr.mono hsz2).trans hb4)⟩
      exact List.perm_append_comm.trans (by rw [hnl.out])
  case rest =>
    obtain ⟨⟨m, hperm, hm⟩, hb3⟩ := hcut
    obtain ⟨w3, rfl⟩ : ∃ w3 : World, w3 = wc := ⟨_, rfl⟩
    have HM := Lib.hid hm
    have HPM := Lib.hid hperm
    have HB3 := Lib.hid (bt HB1.out hb3)
    have HV3 := Lib.hid (HV1.out.below hb3)
    have hmlen : m.length = n := by rw [hperm.length_eq, HN.out]
    obtain ⟨ma, mc, hmv, hmcap, hmcm, -⟩ := hm.shape
    rw [hmlen] at hmv hmcap
    have HML := Lib.hid hmlen
    subst hmv
    clear HB1 HV1 HV ho1 hb2 hb12 hv2 hb3 hm hperm hmlen hsz2
    by_cases hbad : l.any badE = true
    · have HNW := Lib.hid (new_bad _ l w3 HV3.out (by have := HN.out; omega) hbad)
      have HE : Hid (newE l = 140) := by show _ = _; unfold newE; rw [if_neg (by have := HN.out; omega), if_pos hbad]
      clear hbad
      go_wp2_with fail
      refine HNW.out.mono ?_
      rintro e w4 ⟨rfl, hb4⟩
      rw [HE.out]
      have HB4 := Lib.hid (bt HB3.out hb4)
      clear hb4 HNW
      go_wp2_with fail
      refine (new_good _ [] w4 (Rd.nil w4) (by simp) (by simp)).mono ?_
      rintro e w5 ⟨q, sq, rfl, hq, hQ, hb5⟩
      have HB5 := Lib.hid (bt HB4.out hb5)
      clear hq hQ hb5
      go_wp2
      go_ret
      exact HP.out _ HB5.out
    · have hb0 : l.any badE = false := by simpa using hbad
      have HNW := Lib.hid (new_good _ l w3 HV3.out (by have := HN.out; omega) hb0)
      have HG : Hid (∀ x ∈ m, badE x = false) := fun x hx => by
        have := List.any_eq_false.1 hb0 x (HPM.out.mem_iff.1 hx)
        simpa using this
      clear hbad hb0
      go_wp2_with fail
      refine HNW.out.mono ?_
      rintro e w4 ⟨p, sp, rfl, hp, hP, hb4⟩
      have HB4 := Lib.hid (bt HB3.out hb4)
      have HM4 := Lib.hid (HM.out.below hb4)
      have HPQ := Lib.hid hP
      have HPP : Hid (w3.heap.size ≤ p) := hp
      clear hp hP hb4 HNW HM
      go_wp2_with fail
      refine (new_good _ [] w4 (Rd.nil w4) (by simp) (by simp)).mono ?_
      rintro e w5 ⟨q, sq, rfl, hq, hQ, hb5⟩
      have HJ5 : Hid (AnyJ m q w4 0 w5) := ⟨⟨sq, [], hQ, List.Perm.refl _⟩, hb5⟩
      have HQ4 : Hid (w4.heap.size ≤ q) := hq
      clear hq hQ hb5
      go_wp2_with fail
      go_loopw [57] (fun i wr => ∃ k : Nat, k ≤ n ∧ i = .int .i64 k ∧ Hid (AnyJ m q w4 k wr)) (fun i _ => n - (intOf i).toNat)
      case atStart => exact ⟨0, by omega, rfl, HJ5⟩
      case round =>
        clear HJ5
        obtain ⟨k, hk, rfl, HJ⟩ := hrel
        obtain ⟨wo, rfl⟩ : ∃ wo : World, wo = wr := ⟨_, rfl⟩
        obtain ⟨⟨sv, h, hQ, hph⟩, hbw⟩ := HJ.out
        by_cases hlt : k < n
        · obtain ⟨x, hx⟩ : ∃ x, m[k]? = some x := ⟨_, List.getElem?_eq_getElem (by have := HML.out; omega)⟩
          obtain ⟨bl, off, rfl, hbl, hc⟩ := (HM4.out.below hbw).row (by rintro rfl; simp at hx)
          have HC := Lib.hid (hc k x hx)
          have hhl : h.length ≤ 200 := by have := hph.length_eq; rw [this, List.length_take]; omega
          have HE0 := Lib.hid (push_good (HG.out x (List.mem_of_getElem? hx)) (by omega : h.length < 16384))
          have HST := Lib.hid (fun W1 W' (hal : Below wo.heap.size wo W1) sv' (hq' : Qu W' q sv' (pushL h 0 x) 0) (hs : QS W1 W' q sv sv') => AnyJ.push HQ4.out (hbw.trans (hal.mono hbw.size)) (hQ.below hal) hph hx HE0.out hq' hs)
          have HPU := Lib.hid (fun W1 (hal : Below wo.heap.size wo W1) => push_any q sv h 0 x W1 (hQ.below hal) (by omega))
          clear hx hc hQ hph hbw HJ
          go_wp2_with (first | ((with_reducible show wpList _ _ _ (Oper.mk (some 60) _ _ _ _ _ :: _) _ _); refine wpList_loadW W31 rfl rfl rfl (encE x) rfl HC.out ?_) | ((with_reducible show wpList _ _ _ (Oper.mk none (Op.store 31 _ _) _ _ _ _ :: _) _ _); refine wpList_boxW W31 rfl rfl rfl (encE x) rfl rfl (encE_one x) rfl ?_; intro W2 hbx hbel hsz; have HBX := Lib.hid hbx; have HE := Lib.hid hbel; clear hbx hbel hsz) | ((with_reducible show wpList _ _ _ (Oper.mk (some 62) _ _ _ _ _ :: _) _ _); refine wpList_loadW W31 rfl rfl rfl (encE x) rfl HBX.out.list ?_))
          refine (HPU.out _ HE.out).mono ?_
          rintro e w7 ⟨rfl, sv', hq7, hs7⟩
          rw [HE0.out]
          have HJ7 := Lib.hid (HST.out _ _ HE.out _ hq7 hs7)
          clear HPU HST HE0 hq7 hs7 HBX HE
          go_wp2
          go_roundw
          case rel => exact ⟨k + 1, by omega, by go_num, HJ7⟩
          case measure => simp [intOf]; omega
        · obtain rfl : n = k := by omega
          have hph2 : h.Perm m := by rw [← HML.out, List.take_length] at hph; exact hph
          have hso : sortE (newL l) = sortE h := sortE_of_perm ((newL_perm l).trans (HPM.out.symm.trans hph2.symm))
          have hhl : h.length = n := by rw [hph2.length_eq, HML.out]
          have HPo := Lib.hid (HPQ.out.below hbw)
          have HQo := Lib.hid hQ
          have HSO := Lib.hid hso
          have HHL := Lib.hid hhl
          have HBo := Lib.hid (HB4.out.trans (hbw.mono HB4.out.size))
          have HNL : Hid ((newL l).length = n) := by show _ = _; rw [newL_len]; exact HN.out.symm
          clear hlt hk HJ hQ hph hbw hph2 hso hhl
          go_wp2_with fail
          refine (all_any (some ⟨p, 0, none⟩) wo).mono ?_
          rintro e w8 ⟨rfl, hw8⟩
          have HB8 : Hid (Below wo.heap.size wo w8) := by rw [← hw8]; exact below1 _ _
          have HX8 : Hid (Blk w8 wo.heap.size 25 #[.pointer (some ⟨p, 0, none⟩)]) := by rw [← hw8]; exact Blk.new' rfl
          clear hw8
          go_wp2_with fail
          refine (told_all wo.heap.size p sp (newL l) 0 9999 w8 HX8.out (HPo.out.below HB8.out) (by have := HNL.out; omega)).mono ?_
          rintro e w9 ⟨⟨v9, rfl, ho9⟩, hb9⟩
          have HR9 : Hid (Rd encE 4 w9 v9 (sortE h)) := by
            have e0 : (sortE (newL l)).take (9999 : Int).toNat = sortE h := by rw [List.take_of_length_le (by rw [sortE_len]; have := HNL.out; simp; omega), HSO.out]
            rw [e0] at ho9
            exact Rd.of_owns encE_len ho9 (by rw [sortE_len]; have := HHL.out; omega)
          have HB9 := Lib.hid (bt HB8.out hb9)
          clear ho9 hb9 HX8 HB8
          go_wp2_with fail
          refine (all_any (some ⟨q, 0, none⟩) w9).mono ?_
          rintro e w10 ⟨rfl, hw10⟩
          have HB10 : Hid (Below w9.heap.size w9 w10) := by rw [← hw10]; exact below1 _ _
          have HX10 : Hid (Blk w10 w9.heap.size 25 #[.pointer (some ⟨q, 0, none⟩)]) := by rw [← hw10]; exact Blk.new' rfl
          clear hw10
          go_wp2_with fail
          refine (told_all w9.heap.size q sv h 0 9999 w10 HX10.out ((HQo.out.below HB9.out).below HB10.out) (by have := HHL.out; omega)).mono ?_
          rintro e w11 ⟨⟨v11, rfl, ho11⟩, hb11⟩
          have HR11 : Hid (Rd encE 4 w11 v11 (sortE h)) := by
            have e0 : (sortE h).take (9999 : Int).toNat = sortE h := List.take_of_length_le (by rw [sortE_len]; have := HHL.out; simp; omega)
            rw [e0] at ho11
            exact Rd.of_owns encE_len ho11 (by rw [sortE_len]; have := HHL.out; omega)
          have HB11 := Lib.hid (bt (bt HB9.out HB10.out) hb11)
          have HR9b := Lib.hid ((HR9.out.below HB10.out).below hb11)
          clear ho11 hb11 HX10 HB10 HR9 HB9
          go_wp2_with fail
          refine (equal_any v9 v11 _ _ w11 HR9b.out HR11.out).mono ?_
          rintro e w12 ⟨rfl, hb12⟩
          rw [show decide (sortE h = sortE h) = true by simp]
          have HB12 := Lib.hid (bt HB11.out hb12)
          clear hb12 HB11 HR11 HR9b
          have HLE : Hid (Calls Try.prog 12 #[.pointer (some ⟨p, 0, none⟩)] w12 fun e w' => e = .returned (.int .i64 n) ∧ w12 = w') := by
            have := len_any p sp (newL l) 0 w12 (HPo.out.below HB12.out)
            rw [HNL.out] at this
            exact this
          have HBF := Lib.hid (HBo.out.trans (HB12.out.mono HBo.out.size))
          have hnn : ((n : Int) == (n : Int)) = true := by simp
          go_wp2_with (go_at_call 12; refine HLE.out.mono ?_; go_must (rintro e w' ⟨rfl, rfl⟩))
          go_ret
          exact HP.out _ HBF.out
end Go.Proofs.Ytbmnecdkjkffdaa
