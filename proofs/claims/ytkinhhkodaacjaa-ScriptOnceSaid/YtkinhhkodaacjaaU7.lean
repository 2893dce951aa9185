/- The walk of ScriptOnce. -/
import Derived.Test.YtkinhhkodaacjaaU6
import Derived.Test.YtkinhhkodaacjaaT9
import Derived.Test.YtkinhhkodaacjaaM8
namespace Go.Proofs.Ytkinhhkodaacjaa
open Go.RowKit Go.Shelf
open Md

/-- What ScriptOnce keeps. -/
structure OB (m : Me) (s : Sc) (w X : World) : Prop where
  bel : Below w.heap.size w X
  gm : GoodMe X m
  gs : GoodSc X s
  bm : Blk X w.heap.size 25 (encMe m).toArray
  bs : Blk X (w.heap.size + 1) 30 (encSc s).toArray
theorem OB.keep {m : Me} {s : Sc} {w X Y : World} (h : OB m s w X) (hb : Below X.heap.size X Y) : OB m s w Y := ⟨h.bel.trans (hb.mono h.bel.size), h.gm.below hb, h.gs.below hb, h.bm.keep hb, h.bs.keep hb⟩
/-- .. and of a script of its own. -/
structure OY (y : Sc) (b : Nat) (X : World) : Prop where
  gy : GoodSc X y
  by' : Blk X b 30 (encSc y).toArray
theorem OY.keep {y : Sc} {b : Nat} {X Y : World} (h : OY y b X) (hb : Below X.heap.size X Y) : OY y b Y := ⟨h.gy.below hb, h.by'.keep hb⟩
/-- Its cells, as the last test reads them. -/
structure CY7 (m : Me) (y : Sc) (n : Nat) (w : World) (b : Nat) (X : World) : Prop where
  c0 : X.cell? ⟨w.heap.size, 0, none⟩ = some (.int .i64 (n : Int))
  y0 : X.cell? ⟨b, 0, none⟩ = some (.int .i64 y.rounds)
  y1 : X.cell? ⟨b, 1, none⟩ = some (.slice y.ups.a n y.ups.c)
  y2 : X.cell? ⟨b, 2, none⟩ = some (.slice y.offs.a n y.offs.c)
  y3 : X.cell? ⟨b, 3, none⟩ = some (.slice y.gates.a n y.gates.c)
  y4 : X.cell? ⟨b, 4, none⟩ = some (.slice y.guards.a n y.guards.c)
theorem c7_of {m : Me} {s y : Sc} {n : Nat} {w : World} {b : Nat} {X : World} (h : OB m s w X) (hy : OY y b X) (hn : m.nodes = (n : Int)) (hc : CleanL m s y) : CY7 m y n w b X := by
  have hN : m.nodes.toNat = n := by omega
  have l1 : y.ups.l.length = n := by rw [hc.ups, upsL_len, hN]
  have l2 : y.offs.l.length = n := by rw [hc.offs, rowL_len, hN]
  have l3 : y.gates.l.length = n := by rw [hc.gates, rowL_len, hN]
  have l4 : y.guards.l.length = n := by rw [hc.guards, rowL_len, hN]
  refine ⟨by rw [← hn]; exact h.bm.list0 rfl, hy.by'.list0 rfl, ?_, ?_, ?_, ?_⟩
  · rw [← l1]; exact hy.by'.list0 rfl
  · rw [← l2]; exact hy.by'.list0 rfl
  · rw [← l3]; exact hy.by'.list0 rfl
  · rw [← l4]; exact hy.by'.list0 rfl
set_option maxRecDepth 100000 in
set_option maxHeartbeats 3200000 in
theorem once_any (m : Me) (s : Sc) (w : World) (hm : GoodMe w m) (hs : GoodSc w s) :
    Calls Try.prog 3 #[.agg (encMe m).toArray, .agg (encSc s).toArray] w fun e w' => e = .returned (.bool true) ∧ Below w.heap.size w w' := by
  have HP : Hid (∀ w', Below w.heap.size w w' → (fun e w' => e = Ending.returned (.bool true) ∧ Below w.heap.size w w') (.returned (.bool true)) w') := fun w' hb => ⟨rfl, hb⟩
  generalize (fun e w' => e = Ending.returned (.bool true) ∧ Below w.heap.size w w') = POST at *
  have HS : Hid (OB m s w ((w.alloc (.cells (encMe m).toArray 25)).alloc (.cells (encSc s).toArray 30))) := Lib.hid (
    have hb := below2 w (.cells (encMe m).toArray 25) (.cells (encSc s).toArray 30)
    ⟨hb, hm.below hb, hs.below hb, (Blk.new' rfl : Blk _ _ _ _).alloc _, Blk.new' (by simp)⟩)
  clear hm hs
  go_enter Try.func3, Try.ntmps3
  go_upto_region 1 with fail
  change Code.wp _ _ _ _ ((w.alloc (.cells (encMe m).toArray 25)).alloc (.cells (encSc s).toArray 30))
  generalize ((w.alloc (.cells (encMe m).toArray 25)).alloc (.cells (encSc s).toArray 30)) = W0 at *
  go_wp2_with fail
  refine (begun_any W0).mono ?_
  rintro e W1 ⟨rfl, hb1⟩
  replace HS := Lib.hid (HS.out.keep hb1)
  clear hb1
  go_wp2_with ((with_reducible show wpList _ _ _ (Oper.mk (some 15) _ _ _ _ _ :: _) _ _); refine wpList_loadW W30 rfl rfl rfl (encSc s) rfl HS.out.bs.list ?_)
  refine (few_any s W1 HS.out.gs).mono ?_
  rintro e W2 ⟨⟨bx, rfl, hbx⟩, hb1⟩
  replace HS := Lib.hid (HS.out.keep hb1)
  have HBX := Lib.hid hbx
  clear hb1 hbx
  cases bx with
  | false =>
    go_wp2_with fail
    refine (begun_any W2).mono ?_
    rintro e W3 ⟨rfl, hb1⟩
    replace HS := Lib.hid (HS.out.keep hb1)
    clear hb1
    go_wp2
    exact HP.out _ HS.out.bel
  | true =>
    have HSM : Hid (Small s) := HBX.out rfl
    clear HBX
    go_wp2_with (first | ((with_reducible show wpList _ _ _ (Oper.mk (some 21) _ _ _ _ _ :: _) _ _); refine wpList_loadW W25 rfl rfl rfl (encMe m) rfl HS.out.bm.list ?_) | ((with_reducible show wpList _ _ _ (Oper.mk (some 22) _ _ _ _ _ :: _) _ _); refine wpList_loadW W30 rfl rfl rfl (encSc s) rfl HS.out.bs.list ?_))
    refine (cleaned_any m s W2 HS.out.gm HS.out.gs HSM.out).mono ?_
    rintro e W3 ⟨hif, hb1⟩
    replace HS := Lib.hid (HS.out.keep hb1)
    clear hb1
    by_cases hok : okM m = true
    · rw [if_pos hok] at hif
      obtain ⟨y, rfl, gy, hcl⟩ := hif
      have HOK := Lib.hid hok
      have HCL := Lib.hid hcl
      have HGY := Lib.hid gy
      clear hok hcl gy HSM
      go_upto_region 4 with ((with_reducible show wpList _ _ _ (Oper.mk none (Op.store 30 _ _) _ _ _ _ :: _) _ _); refine wpList_boxW W30 rfl rfl rfl (encSc y) rfl rfl (encSc_one y) rfl ?_; intro W4 HBOX hal hz1; replace HS := Lib.hid (HS.out.keep hal); have HY : Hid (OY y W3.heap.size W4) := Lib.hid ⟨HGY.out.below hal, HBOX⟩; clear HGY; clear HBOX hal hz1)
      generalize W3.heap.size = b5 at *
      go_upto_region 6 with fail
      have HSMY := Lib.hid (HCL.out.small HOK.out)
      go_wp2_with (first | ((with_reducible show wpList _ _ _ (Oper.mk (some 32) _ _ _ _ _ :: _) _ _); refine wpList_loadW W25 rfl rfl rfl (encMe m) rfl HS.out.bm.list ?_) | ((with_reducible show wpList _ _ _ (Oper.mk (some 33) _ _ _ _ _ :: _) _ _); refine wpList_loadW W30 rfl rfl rfl (encSc y) rfl HY.out.by'.list ?_))
      refine (cleaned_any m y W4 HS.out.gm HY.out.gy HSMY.out).mono ?_
      rintro e W5 ⟨hif, hb1⟩
      replace HS := Lib.hid (HS.out.keep hb1)
      replace HY := Lib.hid (HY.out.keep hb1)
      clear hb1
      rw [if_pos HOK.out] at hif
      obtain ⟨z, rfl, gz, hcz⟩ := hif
      have HGZ := Lib.hid gz
      have HSAME : Hid (decide (SameSc y z) = true) := decide_eq_true (CleanL.again HOK.out HCL.out hcz)
      have HLZ : Hid (z.ups.l.length ≤ 16384) := by have := (CleanL.small HOK.out hcz).l1; show _ ≤ _; omega
      clear gz hcz
      go_upto_region 7 with ((with_reducible show wpList _ _ _ (Oper.mk none (Op.store 30 _ _) _ _ _ _ :: _) _ _); refine wpList_boxW W30 rfl rfl rfl (encSc z) rfl rfl (encSc_one z) rfl ?_; intro W6 HBOX hal hz1; replace HS := Lib.hid (HS.out.keep hal); replace HY := Lib.hid (HY.out.keep hal); have HZ : Hid (OY z W5.heap.size W6) := Lib.hid ⟨HGZ.out.below hal, HBOX⟩; clear HBOX hal hz1)
      clear HGZ
      generalize W5.heap.size = b7 at *
      obtain ⟨n, hn⟩ : ∃ n : Nat, m.nodes = (n : Int) := ⟨m.nodes.toNat, by have := okM_drift HOK.out; omega⟩
      have HN := Lib.hid hn
      clear hn
      have HRD : Hid (1 ≤ y.rounds ∧ y.rounds ≤ 16) := by show _ ∧ _; rw [HCL.out.rounds]; exact inTo_in (by omega)
      have hr1 : ¬ y.rounds < 1 := by have := HRD.out; omega
      have hr2 : ¬ 16 < y.rounds := by have := HRD.out; omega
      go_wp2_with (first | ((with_reducible show wpList _ _ _ (Oper.mk (some 40) _ _ _ _ _ :: _) _ _); refine wpList_loadW W30 rfl rfl rfl (encSc y) rfl HY.out.by'.list ?_) | ((with_reducible show wpList _ _ _ (Oper.mk (some 41) _ _ _ _ _ :: _) _ _); refine wpList_loadW W30 rfl rfl rfl (encSc z) rfl HZ.out.by'.list ?_))
      refine (rsameSc_any y z W6 HY.out.gy HZ.out.gy (by have := HSMY.out.l1; omega) HLZ.out).mono ?_
      rintro e W7 ⟨rfl, hb1⟩
      rw [HSAME.out]
      replace HS := Lib.hid (HS.out.keep hb1)
      replace HY := Lib.hid (HY.out.keep hb1)
      clear hb1 HZ HSAME HLZ
      have HC7 := Lib.hid (c7_of HS.out HY.out HN.out HCL.out)
      have k0 := HC7.out.c0
      have k1 := HC7.out.y0
      have k2 := HC7.out.y1
      have k3 := HC7.out.y2
      have k4 := HC7.out.y3
      have k5 := HC7.out.y4
      clear HC7
      go_upto_region 9 with fail
      clear k0 k1 k2 k3 k4 k5 hr1 hr2 HRD
      obtain ⟨fl, hfl⟩ : ∃ fl, fl = y.faults.length := ⟨_, rfl⟩
      have HFL := Lib.hid hfl
      have hfl3 : fl ≤ 300 := by have := HSMY.out.l7; omega
      clear hfl
      have k7 : W7.cell? ⟨b5, 7, none⟩ = some (.slice y.fa fl y.fc) := by rw [HFL.out]; exact HY.out.by'.list0 rfl
      go_wp2_with fail
      clear k7
      go_loopw [90] (fun i wr => ∃ k : Nat, k ≤ fl ∧ i = .int .i64 k ∧ Hid (OB m s w wr) ∧ Hid (OY y b5 wr)) (fun i _ => fl - (intOf i).toNat)
      case atStart => exact ⟨0, Nat.zero_le _, rfl, HS, HY⟩
      case round =>
        clear HS HY
        obtain ⟨k, hk, rfl, HS, HY⟩ := hrel
        obtain ⟨wo, rfl⟩ : ∃ wo : World, wo = wr := ⟨_, rfl⟩
        by_cases hlt : k < fl
        · obtain ⟨f, hs⟩ : ∃ f, y.faults[k]? = some f := ⟨_, List.getElem?_eq_getElem (by rw [← HFL.out]; exact hlt)⟩
          have HIN : Hid (decide (f ∈ s.faults) = true) := decide_eq_true (HCL.out.faultin f (List.mem_of_getElem? hs))
          obtain ⟨b, off, hba, hbl, hc⟩ := HY.out.gy.faults.row (by rintro e; rw [e] at hs; simp at hs)
          have HC := Lib.hid (hc k f hs)
          rw [hba]
          clear hc hs hba hbl
          go_upto_region 12 with (first | ((with_reducible show wpList _ _ _ (Oper.mk (some 93) _ _ _ _ _ :: _) _ _); refine wpList_loadW W39 rfl rfl rfl (encF f) rfl HC.out ?_) | ((with_reducible show wpList _ _ _ (Oper.mk none (Op.store 39 _ _) _ _ _ _ :: _) _ _); refine wpList_boxW W39 rfl rfl rfl (encF f) rfl rfl (encF_one f) rfl ?_; intro W1 HBOX hal hz1; have HS1 := Lib.hid (HS.out.keep hal); have HY1 := Lib.hid (HY.out.keep hal); have HB9 := Lib.hid HBOX; clear HBOX hal hz1))
          generalize wo.heap.size = b9 at *
          have k7 : W1.cell? ⟨w.heap.size + 1, 7, none⟩ = some (.slice s.fa s.faults.length s.fc) := HS1.out.bs.list0 rfl
          clear HS HY
          go_wp2_with ((with_reducible show wpList _ _ _ (Oper.mk (some 96) _ _ _ _ _ :: _) _ _); refine wpList_loadW W39 rfl rfl rfl (encF f) rfl HB9.out.list ?_)
          refine (hasF_any f _ s.faults W1 HS1.out.gs.faults).mono ?_
          rintro e W2 ⟨rfl, hb⟩
          rw [HIN.out]
          have HS2 := Lib.hid (HS1.out.keep hb)
          have HY2 := Lib.hid (HY1.out.keep hb)
          clear hb HS1 HY1 HB9 HIN HC k7
          go_wp2
          go_roundw
          case rel => exact ⟨k + 1, by omega, by go_num, HS2, HY2⟩
          case measure => simp [intOf]; omega
        · obtain ⟨ol, hol⟩ : ∃ ol, ol = y.ops.length := ⟨_, rfl⟩
          have HOL := Lib.hid hol
          have hol3 : ol ≤ 300 := by have := HSMY.out.l6; omega
          clear hol
          have k6 : wo.cell? ⟨b5, 6, none⟩ = some (.slice y.oa ol y.oc) := by rw [HOL.out]; exact HY.out.by'.list0 rfl
          go_wp2_with fail
          clear k6 hlt hk
          go_loopw [103] (fun i wr => ∃ k : Nat, k ≤ ol ∧ i = .int .i64 k ∧ Hid (OB m s w wr) ∧ Hid (OY y b5 wr)) (fun i _ => ol - (intOf i).toNat)
          case atStart => exact ⟨0, Nat.zero_le _, rfl, HS, HY⟩
          case round =>
            clear HS HY
            obtain ⟨k, hk, rfl, HS, HY⟩ := hrel
            obtain ⟨wo, rfl⟩ : ∃ wo : World, wo = wr := ⟨_, rfl⟩
            by_cases hlt : k < ol
            · obtain ⟨z, hs⟩ : ∃ z, y.ops[k]? = some z := ⟨_, List.getElem?_eq_getElem (by rw [← HOL.out]; exact hlt)⟩
              have HIN := Lib.hid (HCL.out.opin z (List.mem_of_getElem? hs))
              have HZG := Lib.hid (HY.out.gy.opg z (List.mem_of_getElem? hs))
              obtain ⟨b, off, hba, hbl, hc⟩ := HY.out.gy.ops.row (by rintro e; rw [e] at hs; simp at hs)
              have HC := Lib.hid (ho_at hc hs)
              rw [hba]
              clear hc hs hba hbl
              go_upto_region 18 with (first | ((with_reducible show wpList _ _ _ (Oper.mk (some 106) _ _ _ _ _ :: _) _ _); refine wpList_loadW W43 rfl rfl rfl (encH z) rfl HC.out ?_) | ((with_reducible show wpList _ _ _ (Oper.mk none (Op.store 43 _ _) _ _ _ _ :: _) _ _); refine wpList_boxW W43 rfl rfl rfl (encH z) rfl rfl (encH_one z) rfl ?_; intro W1 HBOX hal hz1; have HS1 := Lib.hid (HS.out.keep hal); have HY1 := Lib.hid (HY.out.keep hal); have HB11 := Lib.hid HBOX; have HZ1 := Lib.hid (HZG.out.below hal); clear HBOX hal hz1))
              generalize wo.heap.size = b11 at *
              have k6 : W1.cell? ⟨w.heap.size + 1, 6, none⟩ = some (.slice s.oa s.ops.length s.oc) := HS1.out.bs.list0 rfl
              clear HS HY
              go_wp2_with fail
              refine (hasH_any z b11 _ s.ops W1 HB11.out HZ1.out HS1.out.gs.ops HS1.out.gs.opg).mono ?_
              rintro e W2 ⟨rfl, hb⟩
              rw [HIN.out]
              have HS2 := Lib.hid (HS1.out.keep hb)
              have HY2 := Lib.hid (HY1.out.keep hb)
              clear hb HS1 HY1 HB11 HZ1 HZG HIN HC k6
              go_wp2
              go_roundw
              case rel => exact ⟨k + 1, by omega, by go_num, HS2, HY2⟩
              case measure => simp [intOf]; omega
            · go_wp2
              exact HP.out _ HS.out.bel
    · rw [if_neg hok] at hif
      subst hif
      have HER : Hid (errM m = 70) := by show _ = _; unfold errM; rw [if_neg hok]
      clear hok HSM
      go_upto_region 4 with ((with_reducible show wpList _ _ _ (Oper.mk none (Op.store 30 _ _) _ _ _ _ :: _) _ _); refine wpList_boxW W30 rfl rfl rfl zScr rfl rfl (by simp [Value.oneCell', zScr]) rfl ?_; intro W4 HBOX hal hz1; replace HS := Lib.hid (HS.out.keep hal); clear HBOX hal hz1)
      go_upto_region 5 with fail
      go_wp2_with ((with_reducible show wpList _ _ _ (Oper.mk (some 28) _ _ _ _ _ :: _) _ _); refine wpList_loadW W25 rfl rfl rfl (encMe m) rfl HS.out.bm.list ?_)
      refine (rcheck7_any m W4 HS.out.gm).mono ?_
      rintro e W5 ⟨rfl, hb1⟩
      rw [HER.out]
      replace HS := Lib.hid (HS.out.keep hb1)
      clear hb1 HER
      go_wp2
      exact HP.out _ HS.out.bel
end Go.Proofs.Ytkinhhkodaacjaa
