/- QueueNone: a queue that no call made. -/
import Derived.Test.YtbmnecdkjkffdaaH1
import Derived.Test.YtbmnecdkjkffdaaE14
namespace Go.Proofs.Ytbmnecdkjkffdaa
open Go.RowKit Go.Shelf

set_option maxRecDepth 100000 in
set_option maxHeartbeats 3200000 in
theorem none_walk (x : Ev) (w : World) : Calls Try.prog 5 #[.agg (encE x).toArray] w (True1 w) := by
  have HP : Hid (∀ w', Below w.heap.size w w' → True1 w (.returned (.bool true)) w') := fun w' h => ⟨rfl, h⟩
  have HBG := Lib.hid begun_any
  have HB1 := Lib.hid (((below1 w (.cells (encE x).toArray 31)).alloc (by simp) (.cells #[.bool false, .slice none 0 0, .int .i64 0] 47)).alloc (by simp; omega) (.cells #[.pointer none, .pointer (some ⟨w.heap.size + 1, 0, none⟩)] 25))
  have HX1 : Hid (Blk (((w.alloc (.cells (encE x).toArray 31)).alloc (.cells #[.bool false, .slice none 0 0, .int .i64 0] 47)).alloc (.cells #[.pointer none, .pointer (some ⟨w.heap.size + 1, 0, none⟩)] 25)) w.heap.size 31 (encE x).toArray) := ((Blk.new' rfl : Blk _ _ _ _).alloc _).alloc _
  have HQ1 : Hid (Blk (((w.alloc (.cells (encE x).toArray 31)).alloc (.cells #[.bool false, .slice none 0 0, .int .i64 0] 47)).alloc (.cells #[.pointer none, .pointer (some ⟨w.heap.size + 1, 0, none⟩)] 25)) (w.heap.size + 1) 47 #[.bool false, .slice none 0 0, .int .i64 0]) := (Blk.new' (by simp) : Blk _ _ _ _).alloc _
  have HS1 : Hid (Blk (((w.alloc (.cells (encE x).toArray 31)).alloc (.cells #[.bool false, .slice none 0 0, .int .i64 0] 47)).alloc (.cells #[.pointer none, .pointer (some ⟨w.heap.size + 1, 0, none⟩)] 25)) (w.heap.size + 2) 25 #[.pointer none, .pointer (some ⟨w.heap.size + 1, 0, none⟩)]) := Blk.new' (by simp)
  go_enter Try.func5, Try.ntmps5
  go_wp2_with fail
  generalize (((w.alloc (.cells (encE x).toArray 31)).alloc (.cells #[.bool false, .slice none 0 0, .int .i64 0] 47)).alloc (.cells #[.pointer none, .pointer (some ⟨w.heap.size + 1, 0, none⟩)] 25)) = W0 at *
  generalize w.heap.size = b at *
  go_loopw [13] (fun i wr => ∃ k : Nat, k ≤ 2 ∧ i = .int .i64 k ∧ Hid (Below W0.heap.size W0 wr)) (fun i _ => 2 - (intOf i).toNat)
  case atStart => exact ⟨0, by omega, rfl, Below.refl _ _⟩
  case round =>
    obtain ⟨k, hk, rfl, HW⟩ := hrel
    obtain ⟨wo, rfl⟩ : ∃ wo : World, wo = wr := ⟨_, rfl⟩
    by_cases hlt : k < 2
    · have hUN : ∃ p : Option Addr, wo.cell? ⟨b + 1 + 1, 0 + k, none⟩ = some (.pointer p) ∧ Un wo p := by
        have hs := HS1.out.keep HW.out
        have hq := HQ1.out.keep HW.out
        match k with
        | 0 => exact ⟨none, hs.cell 0, .inl rfl⟩
        | 1 => exact ⟨some ⟨b + 1, 0, none⟩, hs.cell 1, .inr ⟨_, rfl, hq⟩⟩
        | k + 2 => omega
      obtain ⟨p, hcp, hu⟩ := hUN
      rw [Nat.zero_add] at hcp
      have HU := Lib.hid hu
      have HX := Lib.hid (HX1.out.keep HW.out)
      clear hu
      go_wp2_with fail
      refine (pop_un HU.out).mono ?_
      rintro e w2 ⟨rfl, hb2⟩
      have B2 := Lib.hid hb2
      clear hb2 hcp
      go_wp2_with ((with_reducible show wpList _ _ _ (Oper.mk none (Op.store 31 _ _) _ _ _ _ :: _) _ _); refine wpList_boxW W31 rfl rfl rfl (encE E0) rfl rfl (encE_one E0) rfl ?_; intro w3 hbx hbel hsz; have XA := Lib.hid hbx; have EA := Lib.hid hbel; clear hbx hbel hsz)
      refine (peek_un ((HU.out.keep B2.out).keep EA.out)).mono ?_
      rintro e w4 ⟨rfl, hb4⟩
      have B4 := Lib.hid (bt (bt B2.out EA.out) hb4)
      clear hb4 XA
      go_wp2_with (first | ((with_reducible show wpList _ _ _ (Oper.mk none (Op.store 31 _ _) _ _ _ _ :: _) _ _); refine wpList_boxW W31 rfl rfl rfl (encE E0) rfl rfl (encE_one E0) rfl ?_; intro w5 hbx hbel hsz; have XB := Lib.hid hbx; have EB := Lib.hid hbel; clear hbx hbel hsz) | ((with_reducible show wpList _ _ _ (Oper.mk (some 28) _ _ _ _ _ :: _) _ _); refine wpList_loadW W31 rfl rfl rfl (encE x) rfl ((HX.out.keep B4.out).keep EB.out).list ?_))
      have B5 := Lib.hid (bt B4.out EB.out)
      clear EA B2 B4
      refine (push_un x (HU.out.keep B5.out)).mono ?_
      rintro e w6 ⟨rfl, hb6⟩
      have B6 := Lib.hid (bt B5.out hb6)
      have XB6 := Lib.hid (XB.out.keep hb6)
      have cx : w6.cell? ⟨b, 2, none⟩ = some (.int .i64 x.n) := (HX.out.keep B6.out).list0 rfl
      clear hb6 B5 EB XB
      go_wp2_with (first | ((with_reducible show wpList _ _ _ (Oper.mk (some 39) _ _ _ _ _ :: _) _ _); refine wpList_loadW W31 rfl rfl rfl (encE E0) rfl XB6.out.list ?_) | ((with_reducible show wpList _ _ _ (Oper.mk (some 41) _ _ _ _ _ :: _) _ _); refine wpList_val rfl (exec_neE (u := E0) (v := E0) rfl rfl rfl) ?_))
      refine (drop_un x.n (HU.out.keep B6.out)).mono ?_
      rintro e w7 ⟨rfl, hb7⟩
      have B7 := Lib.hid (bt B6.out hb7)
      have HLE := Lib.hid (len_un (HU.out.keep B7.out))
      have HNO := Lib.hid (now_un (HU.out.keep B7.out))
      clear hb7 B6 cx XB6
      go_wp2_with (first | (go_at_call 12; refine HLE.out.mono ?_; go_must (rintro e w' ⟨rfl, rfl⟩)) | (go_at_call 19; refine HNO.out.mono ?_; go_must (rintro e w' ⟨rfl, rfl⟩)))
      refine (all_any p w7).mono ?_
      rintro e w8 ⟨rfl, hw8⟩
      have B8 : Hid (Below w7.heap.size w7 w8) := by rw [← hw8]; exact below1 _ _
      have X8 : Hid (Blk w8 w7.heap.size 25 #[.pointer p]) := by rw [← hw8]; exact Blk.new' rfl
      clear hw8
      go_wp2_with fail
      refine (told_none w7.heap.size p 9 w8 X8.out (fun W' hW' => (((HU.out.keep B7.out).keep B8.out).keep hW').made)).mono ?_
      rintro e w9 ⟨⟨v, rfl, ho⟩, hb9⟩
      have B9 := Lib.hid (bt (bt B7.out B8.out) hb9)
      obtain ⟨va, vc, rfl, -⟩ := owns_shape ho
      have hz : (([] : List Ev).take (9 : Int).toNat).length = 0 := by simp
      rw [hz]
      have HW2 := Lib.hid (bt HW.out B9.out)
      clear ho hb9 X8 B8 B7 HLE HNO hz
      go_wp2
      go_roundw
      case rel => exact ⟨k + 1, by omega, by go_num, HW2⟩
      case measure => simp [intOf]; omega
    · obtain rfl : 2 = k := by omega
      have HBF := Lib.hid (HB1.out.trans (HW.out.mono (Nat.le_of_lt HX1.out.lt)))
      clear hlt hk
      go_wp2_with fail
      refine (HBG.out _).mono ?_
      rintro e w2 ⟨rfl, hb2⟩
      have HB2 := Lib.hid (HBF.out.trans (hb2.mono (Nat.le_of_lt (HX1.out.keep HW.out).lt)))
      clear hb2
      go_wp2
      go_ret
      exact HP.out _ HB2.out
end Go.Proofs.Ytbmnecdkjkffdaa
