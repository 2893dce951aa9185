/- The document's Parse: a script out of a text. -/
import Derived.Test.YtkinhhkodaacjaaGreatDoorV7
import Derived.Test.YtkinhhkodaacjaaGreatDoorV9
namespace Go.Proofs.YtkinhhkodaacjaaGreatDoor
open Go.RowKit Go.Shelf
open Md

set_option maxRecDepth 100000 in
set_option maxHeartbeats 3200000 in
theorem rparse_any (t : List UInt8) (w : World) (ht : t.length ≤ 100000000) : Calls Tryz.prog 8 #[strV t] w (ParseP t w) := by
  obtain ⟨b5, hb5⟩ : ∃ b5, b5 = w.heap.size + 1 := ⟨_, rfl⟩
  obtain ⟨B, hB⟩ : ∃ B, B = w.heap.size + 2 := ⟨_, rfl⟩
  obtain ⟨b2, hb2⟩ : ∃ b2, b2 = w.heap.size := ⟨_, rfl⟩
  have HPF : Hid (∀ (X : World) (n : Nat), Below w.heap.size w X → parseS t = (none, n) → Blk X b2 27 (encSc sc0).toArray → ParseP t w (.returned (.tuple #[.agg (encSc sc0).toArray, .int .i64 (n : Int), .int .i64 160])) (X.setRow b2 (encSc sc0).toArray)) := fun X n h1 h2 _ => ⟨below_setRowP h1 (by omega), sc0, n, 160, rfl, good0 _, .inr ⟨rfl, rfl, h2⟩⟩
  have HPG : Hid (∀ (X : World) (y : Sc), Below w.heap.size w X → parseS t = (some y.k, 0) → OwnS B X y → Blk X b2 27 (encSc sc0).toArray → ParseP t w (.returned (.tuple #[.agg (encSc y).toArray, .int .i64 0, .int .i64 0])) (X.setRow b2 (encSc y).toArray)) := fun X y h1 h2 h3 h4 => ⟨below_setRowP h1 (by omega), y, 0, 0, rfl, (h3.setRow h4).read h2 ht, .inl ⟨rfl, rfl, h2⟩⟩
  generalize ParseP t w = POST at *
  have HT : Hid (t.length ≤ 100000000) := ht
  obtain ⟨W0, hW0⟩ : ∃ W0, W0 = (w.alloc (.cells (encSc sc0).toArray 27)).alloc (.cells (encSc sc0).toArray 27) := ⟨_, rfl⟩
  have HBE : Hid (Below w.heap.size w W0) := by rw [hW0]; exact below2 w _ _
  have HB20 : Hid (Blk W0 b2 27 (encSc sc0).toArray) := by rw [hW0, hb2]; exact (Blk.new' rfl : Blk _ _ _ _).alloc _
  have HB50 : Hid (Blk W0 b5 27 (encSc sc0).toArray) := by rw [hW0, hb5]; exact Blk.new' (by simp)
  have HOX0 : Hid (OwnS B W0 sc0) := OwnS.zero _ _
  have HNE : Hid (b2 ≠ b5) := by show _ ≠ _; omega
  have HP0 : Hid (PAt t sc0.k 0 (t.drop 0)) := by rw [List.drop_zero]; exact PAt.start t
  have HG1 : Hid (w.heap.size + 1 = b5) := hb5.symm
  have HG0 : Hid (w.heap.size = b2) := hb2.symm
  have HBQ : Hid (w.heap.size ≤ B ∧ b2 < B ∧ b5 < B ∧ B = b5 + 1 ∧ w.heap.size ≤ b5) := ⟨by omega, by omega, by omega, by omega, by omega⟩
  have HW00 := Lib.hid hW0
  obtain ⟨q, hq⟩ : ∃ q, q = t.length := ⟨_, rfl⟩
  have HLEN := Lib.hid (fun (w : World) (o : Oper) (ac : Act) (X : Operand) (ho : o.op = .call { callee := .builtin .len, args := #[X], argTypes := #[9] }) (hx : ac.eval X = strV t) => exec_lenS (w := w) ho hx)
  rw [← hq] at HLEN
  have HQ := Lib.hid hq
  have hq8 : q ≤ 100000000 := by omega
  clear ht hb5 hb2 hW0 hB hq
  go_enter Tryz.func8, Tryz.ntmps8
  go_upto_region 2 with fail
  change Code.wp _ _ _ _ ((w.alloc (.cells (encSc sc0).toArray 27)).alloc (.cells (encSc sc0).toArray 27))
  rw [← HW00.out, HG1.out, HG0.out]
  clear HW00 HG1 HG0
  go_wp2_with fail
  go_loopg [6, 7] q (fun kx v i wr => ∃ (y : Sc) (n a : Nat), v = .int .i64 (a : Int) ∧ a ≤ q ∧ q - a ≤ kx ∧ i = .int .i64 (n : Int) ∧ Hid (Blk wr b5 27 (encSc y).toArray) ∧ Hid (Blk wr b2 27 (encSc sc0).toArray) ∧ Hid (OwnS B wr y) ∧ Hid (Below w.heap.size w wr) ∧ Hid (PAt t y.k n (t.drop a)))
  case atStart => exact ⟨sc0, 0, 0, rfl, Nat.zero_le _, by omega, rfl, HB50, HB20, HOX0, HBE, HP0⟩
  case round =>
    clear HB50 HB20 HOX0 HBE HP0
    obtain ⟨y, n, a, rfl, haq, hkx, rfl, HB5, HB2, HOX, HB, HP⟩ := hrel
    obtain ⟨wo, rfl⟩ : ∃ wo : World, wo = wr := ⟨_, rfl⟩
    have hrt : n ≤ 100000000 := by have := HP.out.2.2.1; have := HT.out; omega
    have HSM := Lib.hid HP.out.small
    have hdr : t.drop a = [] ↔ ¬ a < q := by
      have := HQ.out
      rw [List.drop_eq_nil_iff]
      omega
    by_cases hdone : 6 ≤ n ∧ t.drop a = []
    · have hn6 : ¬ ((n : Int) < 6) := by omega
      have hd6 : decide ((n : Int) < 6) = false := by simp; omega
      have ha1 : ¬ ((a : Int) < (q : Int)) := by have := hdr.1 hdone.2; omega
      have hda : decide ((a : Int) < (q : Int)) = false := by simp; omega
      have HD := Lib.hid (HP.out.done hdone.2 hdone.1)
      clear hdone hdr HP
      go_wp2_with (first | ((with_reducible show wpList _ _ _ (Oper.mk (some 13) _ _ _ _ _ :: _) _ _); refine wpList_val rfl (HLEN.out _ _ _ _ rfl rfl) ?_) | ((with_reducible show wpList _ _ _ (Oper.mk (some 66) _ _ _ _ _ :: _) _ _); refine wpList_loadW W27 rfl rfl (x := .tmp 5) rfl (encSc y) rfl (Blk.list HB5.out) ?_) | ((with_reducible show wpList _ _ _ (Oper.mk none (Op.store 27 _ _) _ _ _ _ :: _) _ _); refine wpList_skipped rfl (exec_storeW W27 rfl rfl rfl rfl (encSc_one _) HB2.out rfl) ?_))
      exact bodyPost_ret (results_cell3v rfl W27 rfl rfl (Blk.list (Blk.part HB2.out)) (v := .int .i64 0) (u := .int .i64 0) rfl rfl) rfl (HPG.out _ _ HB.out HD.out HOX.out HB2.out)
    · have HGU := Lib.hid hdone
      go_upto_region 4 with fail
      go_cut [18] from 11 to 19 (fun s wx => s = .bool true ∧ wx = wo)
      case first =>
        by_cases ha1 : a < q
        · have ha1' : ((a : Int) < (q : Int)) := by omega
          have hda : decide ((a : Int) < (q : Int)) = true := by simp; omega
          go_wp2_with ((with_reducible show wpList _ _ _ (Oper.mk (some 13) _ _ _ _ _ :: _) _ _); refine wpList_val rfl (HLEN.out _ _ _ _ rfl rfl) ?_)
          go_meet
          exact ⟨rfl, rfl⟩
        · have ha1' : ¬ ((a : Int) < (q : Int)) := by omega
          have hda : decide ((a : Int) < (q : Int)) = false := by simp; omega
          have hn6 : n < 6 := by
            have h1 := hdr.2 ha1
            have h2 : ¬ 6 ≤ n := fun h => hdone ⟨h, h1⟩
            omega
          have hn6' : ((n : Int) < 6) := by omega
          have hd6 : decide ((n : Int) < 6) = true := by simp; omega
          go_wp2_with ((with_reducible show wpList _ _ _ (Oper.mk (some 13) _ _ _ _ _ :: _) _ _); refine wpList_val rfl (HLEN.out _ _ _ _ rfl rfl) ?_)
          go_meet
          exact ⟨rfl, rfl⟩
      case rest =>
      obtain ⟨rfl, hwc2⟩ := hcut
      replace hwc2 := hwc2.symm
      subst hwc2
      clear hdone hdr
      go_upto_region 6 with fail
      go_wp2_with fail
      go_loopw [8] (fun v wr => ∃ k : Nat, a ≤ k ∧ k ≤ q ∧ v = .int .i64 (k : Int) ∧ Hid ((10 : UInt8) ∉ (t.take k).drop a) ∧ wr = wo) (fun v _ => q - (intOf v).toNat)
      case atStart => exact ⟨a, Nat.le_refl _, haq, rfl, Lib.hid (by rw [List.drop_take]; simp), rfl⟩
      case round =>
        obtain ⟨k, hak, hkq, rfl, HNI, hwr⟩ := hrel
        replace hwr := hwr.symm
        subst hwr
        by_cases hk : k < q
        rotate_left
        · as_aux_lemma =>
          have hk1 : ¬ ((k : Int) < (q : Int)) := by omega
          have hdk : decide ((k : Int) < (q : Int)) = false := by simp; omega
          have HNX : Hid (parseS t = (none, n + 1)) := by
            refine Lib.hid (HP.out.cutNone HGU.out (next_miss ?_))
            have := HNI.out
            rwa [List.take_of_length_le (by have := HQ.out; omega)] at this
          clear HNI
          go_wp2_with (first | ((with_reducible show wpList _ _ _ (Oper.mk (some 22) _ _ _ _ _ :: _) _ _); refine wpList_val rfl (HLEN.out _ _ _ _ rfl rfl) ?_) | ((with_reducible show wpList _ _ _ (Oper.mk (some 34) _ _ _ _ _ :: _) _ _); refine wpList_val rfl (HLEN.out _ _ _ _ rfl rfl) ?_) | ((with_reducible show wpList _ _ _ (Oper.mk (some 59) _ _ _ _ _ :: _) _ _); refine wpList_val rfl (exec_bld27z rfl) ?_) | ((with_reducible show wpList _ _ _ (Oper.mk none (Op.store 27 _ _) _ _ _ _ :: _) _ _); refine wpList_skipped rfl (exec_storeW W27 rfl rfl rfl rfl (encSc_one _) HB2.out rfl) ?_))
          exact bodyPost_ret (results_cell3v rfl W27 rfl rfl (Blk.list (Blk.part HB2.out)) (v := .int .i64 ((n : Int) + 1)) (u := .int .i64 160) rfl rfl) rfl (HPF.out _ (n + 1) HB.out (HNX.out) HB2.out)
        · obtain ⟨c, hc⟩ : ∃ c, t[k]? = some c := ⟨_, List.getElem?_eq_getElem (by have := HQ.out; omega)⟩
          have HC := Lib.hid hc
          have hk1 : ((k : Int) < (q : Int)) := by omega
          have hdk : decide ((k : Int) < (q : Int)) = true := by simp; omega
          have HIX := Lib.hid (fun (w : World) (o : Oper) (ac : Act) (X Y : Operand) (ho : o.op = .index 9 X Y) (hx : ac.eval X = strV t) (hy : ac.eval Y = .int .i64 (k : Int)) => exec_ix (w := w) ho hx hy hc)
          by_cases h10 : c = 10
          rotate_left
          · have hcn : ((c.toNat : Int) != 10) = true := by
              simp only [bne_iff_ne, ne_eq]
              intro e
              exact h10 (UInt8.toNat_inj.1 (by have h3 : c.toNat = 10 := (by omega); rw [h3]; rfl))
            have hcz : ¬ ((c.toNat : Int) = 10) := by simpa using hcn
            have HNI2 : Hid ((10 : UInt8) ∉ (t.take (k + 1)).drop a) := by
              show _ ∉ _
              rw [take_snoc hc, List.drop_append_of_le_length (by rw [List.length_take]; have := HQ.out; omega)]
              intro h
              rcases List.mem_append.1 h with h | h
              · exact HNI.out h
              · exact h10 (List.mem_singleton.1 h).symm
            generalize (c.toNat : Int) = cz at *
            clear hc h10
            go_wp2_with (first | ((with_reducible show wpList _ _ _ (Oper.mk (some 22) _ _ _ _ _ :: _) _ _); refine wpList_val rfl (HLEN.out _ _ _ _ rfl rfl) ?_) | ((with_reducible show wpList _ _ _ (Oper.mk (some 27) _ _ _ _ _ :: _) _ _); refine wpList_val rfl (HIX.out _ _ _ _ _ rfl rfl rfl) ?_))
            go_roundw
            case rel => exact ⟨k + 1, by omega, by omega, by go_num, HNI2, by first | rfl | trivial⟩
            case measure => simp [intOf]; omega
          · subst h10
            have HNX := Lib.hid (next_hit hak hc HNI.out)
            have HNW := Lib.hid (next_words HNX.out)
            obtain ⟨l1, hl1⟩ : ∃ l1, (t.take k).drop a = l1 := ⟨_, rfl⟩
            have HMID := Lib.hid (fun w => run_mid t hak (show k ≤ t.length by have := HQ.out; omega) w)
            rw [hl1] at HNX HNW HMID
            have HPL : Hid (l1.length ≤ 1000000000) := by
              show _ ≤ _
              rw [← hl1, List.length_drop, List.length_take]
              have := HT.out
              omega
            have HWR := Lib.hid (rwords_any l1 wo HPL.out)
            obtain ⟨w1, ws, hws⟩ : ∃ w1 ws, splitB 32 l1 = w1 :: ws := by
              cases h : splitB 32 l1 with
              | nil => exact absurd h HNW.out.1
              | cons a l => exact ⟨a, l, rfl⟩
            rw [hws] at HWR HNX HNW
            clear hc hl1 hws HNI
            go_wp2_with (first | ((with_reducible show wpList _ _ _ (Oper.mk (some 22) _ _ _ _ _ :: _) _ _); refine wpList_val rfl (HLEN.out _ _ _ _ rfl rfl) ?_) | ((with_reducible show wpList _ _ _ (Oper.mk (some 34) _ _ _ _ _ :: _) _ _); refine wpList_val rfl (HLEN.out _ _ _ _ rfl rfl) ?_) | ((with_reducible show wpList _ _ _ (Oper.mk (some 27) _ _ _ _ _ :: _) _ _); refine wpList_val rfl (HIX.out _ _ _ _ _ rfl rfl rfl) ?_) | ((with_reducible show wpList _ _ _ (Oper.mk (some 40) _ _ _ _ _ :: _) _ _); refine wpList_val rfl (exec_slice rfl rfl rfl rfl (HMID.out _)) ?_))
            refine HWR.out.mono ?_
            rintro e W3 ⟨⟨v, rfl, ho⟩, hb3⟩
            have HB23 := Lib.hid (HB2.out.keep hb3)
            have HB53 := Lib.hid (HB5.out.keep hb3)
            have HOX3 := Lib.hid (HOX.out.below hb3)
            have HBW3 := Lib.hid (HB.out.trans (hb3.mono HB.out.size))
            have HWL : Hid (ws.length ≤ 500000000) := by
              have := HNW.out.2.1
              have := HSM.out.2.2.2
              have := HT.out
              simp only [List.length_cons] at *
              show _ ≤ _; omega
            have HWD : Hid (Wds W3 v (w1 :: ws)) := Lib.hid (Rd.of_owns (enc := encT) (size := 1) encT_len (by rw [encT_flat]; exact ho) (by have := HWL.out; simp only [List.length_cons]; omega))
            have HWY : Hid (∀ z ∈ w1 :: ws, z.length ≤ 1000000000) := fun z hz => by
              have h1 := HNW.out.2.2.1 z hz
              have h2 := HSM.out.2.2.2
              have h3 := HT.out
              omega
            have HBB3 : Hid (B ≤ W3.heap.size) := by have h1 := HB53.out.lt; have h2 := HBQ.out.2.2.2.1; show _ ≤ _; omega
            have HR2 : Hid (q - (k + 1) < q - a) := by show _ < _; omega
            have hkq1 : k + 1 ≤ q := hk
            obtain ⟨va, vc, rfl, -⟩ := owns_shape ho
            clear ho hb3 HB2 HB5 HOX HB HWR HMID HIX hdk hk1 hk
            by_cases hn6 : n < 6
            · have HLS : Hid (lineS y.k n (w1 :: ws) = headS y.k n (w1 :: ws)) := Lib.hid (by unfold lineS; rw [if_pos hn6])
              have hn6' : (n : Int) < 6 := by omega
              have hd6 : decide ((n : Int) < 6) = true := by simp; omega
              have HHD := Lib.hid (rhead_any B y n _ w1 ws W3 HOX3.out HBB3.out HWD.out HWY.out hn6 (by have h1 := HSM.out.1; have h2 := HWL.out; have h3 := HT.out; have h4 : y.k.ups.length = y.ups.l.length := rfl; omega))
              clear hn6
              go_wp2_with ((with_reducible show wpList _ _ _ (Oper.mk (some 45) _ _ _ _ _ :: _) _ _); refine wpList_loadW W27 rfl rfl (x := .tmp 5) rfl (encSc y) rfl (Blk.list HB53.out) ?_)
              refine HHD.out.mono ?_
              rintro e W5 ⟨hb5, ok, y', rfl, hm5⟩
              have HB55 : Hid (Blk W5 b5 27 (encSc y).toArray) := Lib.hid ((hb5.block b5 HBQ.out.2.2.1).trans HB53.out)
              have HB25 : Hid (Blk W5 b2 27 (encSc sc0).toArray) := Lib.hid ((hb5.block b2 HBQ.out.2.1).trans HB23.out)
              have HBW5 := Lib.hid (HBW3.out.trans (hb5.mono HBQ.out.1))
              have HM5 := Lib.hid hm5
              clear hb5 hm5 HHD HB53 HB23 HOX3 HBW3 HWD
              go_upto_region 14 with ((with_reducible show wpList _ _ _ (Oper.mk none (Op.store 27 _ _) _ _ _ _ :: _) _ _); refine wpList_skipped rfl (exec_storeW W27 rfl rfl rfl rfl (encSc_one _) HB55.out rfl) ?_)
              have HB56 : Hid (Blk (W5.setRow b5 (encSc y').toArray) b5 27 (encSc y').toArray) := Lib.hid (Blk.part HB55.out)
              have HB26 : Hid (Blk (W5.setRow b5 (encSc y').toArray) b2 27 (encSc sc0).toArray) := Lib.hid (HB25.out.farRow HNE.out)
              have HBW6 : Hid (Below w.heap.size w (W5.setRow b5 (encSc y').toArray)) := Lib.hid (below_setRowP HBW5.out HBQ.out.2.2.2.2)
              have HOR : Hid (∀ z : Sc, OwnS B W5 z → OwnS B (W5.setRow b5 (encSc y').toArray) z) := fun z h => h.setRow HB55.out
              generalize W5.setRow b5 (encSc y').toArray = W6 at *
              cases ok with
              | false =>
                as_aux_lemma =>
                have HNX2 : Hid (parseS t = (none, n + 1)) := HP.out.lineNone HGU.out HNX.out (by
                  have h := HM5.out
                  rw [HLS.out]
                  cases hq : headS y.k n (w1 :: ws) with
                  | none => rfl
                  | some k => rw [hq] at h; cases h.1)
                clear HM5
                go_wp2_with (first | ((with_reducible show wpList _ _ _ (Oper.mk (some 59) _ _ _ _ _ :: _) _ _); refine wpList_val rfl (exec_bld27z rfl) ?_) | ((with_reducible show wpList _ _ _ (Oper.mk none (Op.store 27 _ _) _ _ _ _ :: _) _ _); refine wpList_skipped rfl (exec_storeW W27 rfl rfl rfl rfl (encSc_one _) HB26.out rfl) ?_))
                exact bodyPost_ret (results_cell3v rfl W27 rfl rfl (Blk.list (Blk.part HB26.out)) (v := .int .i64 ((n : Int) + 1)) (u := .int .i64 160) rfl rfl) rfl (HPF.out _ (n + 1) HBW6.out (HNX2.out) HB26.out)
              | true =>
                as_aux_lemma =>
                obtain ⟨HY1, HY3⟩ : Hid (lineS y.k n (w1 :: ws) = some y'.k) ∧ Hid (OwnS B W6 y') := by
                  have h := HM5.out
                  cases hq : headS y.k n (w1 :: ws) with
                  | none => rw [hq] at h; cases h
                  | some k =>
                    rw [hq] at h
                    obtain ⟨_, rfl, h3⟩ := h
                    exact ⟨HLS.out.trans hq, HOR.out _ h3⟩
                have HST := Lib.hid (HP.out.step HGU.out HNX.out HY1.out)
                clear HM5 HY1 HOR
                go_wp2
                go_roundg (q - (k + 1))
                case measure => have := HR2.out; omega
                case rel => exact ⟨y', n + 1, k + 1, by go_num, hkq1, Nat.le_refl _, by go_num, HB56, HB26, HY3, HBW6, Lib.hid HST.out.1⟩
            · have HLS : Hid (lineS y.k n (w1 :: ws) = tailS y.k (w1 :: ws)) := Lib.hid (by unfold lineS; rw [if_neg hn6])
              have hn6' : ¬ (n : Int) < 6 := by omega
              have hd6 : decide ((n : Int) < 6) = false := by simp; omega
              have HHD := Lib.hid (rtail_any B y _ w1 ws W3 HOX3.out HBB3.out HWD.out HWY.out (by have h1 := HSM.out.2.1; have h3 := HT.out; have h4 : y.k.ops.length = y.ops.length := List.length_map _; omega) (by have h1 := HSM.out.2.2.1; have h3 := HT.out; have h4 : y.k.fts.length = y.faults.length := List.length_map _; omega))
              clear hn6
              go_wp2_with ((with_reducible show wpList _ _ _ (Oper.mk (some 52) _ _ _ _ _ :: _) _ _); refine wpList_loadW W27 rfl rfl (x := .tmp 5) rfl (encSc y) rfl (Blk.list HB53.out) ?_)
              refine HHD.out.mono ?_
              rintro e W5 ⟨hb5, ok, y', rfl, hm5⟩
              have HB55 : Hid (Blk W5 b5 27 (encSc y).toArray) := Lib.hid ((hb5.block b5 HBQ.out.2.2.1).trans HB53.out)
              have HB25 : Hid (Blk W5 b2 27 (encSc sc0).toArray) := Lib.hid ((hb5.block b2 HBQ.out.2.1).trans HB23.out)
              have HBW5 := Lib.hid (HBW3.out.trans (hb5.mono HBQ.out.1))
              have HM5 := Lib.hid hm5
              clear hb5 hm5 HHD HB53 HB23 HOX3 HBW3 HWD
              go_upto_region 14 with ((with_reducible show wpList _ _ _ (Oper.mk none (Op.store 27 _ _) _ _ _ _ :: _) _ _); refine wpList_skipped rfl (exec_storeW W27 rfl rfl rfl rfl (encSc_one _) HB55.out rfl) ?_)
              have HB56 : Hid (Blk (W5.setRow b5 (encSc y').toArray) b5 27 (encSc y').toArray) := Lib.hid (Blk.part HB55.out)
              have HB26 : Hid (Blk (W5.setRow b5 (encSc y').toArray) b2 27 (encSc sc0).toArray) := Lib.hid (HB25.out.farRow HNE.out)
              have HBW6 : Hid (Below w.heap.size w (W5.setRow b5 (encSc y').toArray)) := Lib.hid (below_setRowP HBW5.out HBQ.out.2.2.2.2)
              have HOR : Hid (∀ z : Sc, OwnS B W5 z → OwnS B (W5.setRow b5 (encSc y').toArray) z) := fun z h => h.setRow HB55.out
              generalize W5.setRow b5 (encSc y').toArray = W6 at *
              cases ok with
              | false =>
                as_aux_lemma =>
                have HNX2 : Hid (parseS t = (none, n + 1)) := HP.out.lineNone HGU.out HNX.out (by
                  have h := HM5.out
                  rw [HLS.out]
                  cases hq : tailS y.k (w1 :: ws) with
                  | none => rfl
                  | some k => rw [hq] at h; cases h.1)
                clear HM5
                go_wp2_with (first | ((with_reducible show wpList _ _ _ (Oper.mk (some 59) _ _ _ _ _ :: _) _ _); refine wpList_val rfl (exec_bld27z rfl) ?_) | ((with_reducible show wpList _ _ _ (Oper.mk none (Op.store 27 _ _) _ _ _ _ :: _) _ _); refine wpList_skipped rfl (exec_storeW W27 rfl rfl rfl rfl (encSc_one _) HB26.out rfl) ?_))
                exact bodyPost_ret (results_cell3v rfl W27 rfl rfl (Blk.list (Blk.part HB26.out)) (v := .int .i64 ((n : Int) + 1)) (u := .int .i64 160) rfl rfl) rfl (HPF.out _ (n + 1) HBW6.out (HNX2.out) HB26.out)
              | true =>
                as_aux_lemma =>
                obtain ⟨HY1, HY3⟩ : Hid (lineS y.k n (w1 :: ws) = some y'.k) ∧ Hid (OwnS B W6 y') := by
                  have h := HM5.out
                  cases hq : tailS y.k (w1 :: ws) with
                  | none => rw [hq] at h; cases h
                  | some k =>
                    rw [hq] at h
                    obtain ⟨_, rfl, h3⟩ := h
                    exact ⟨HLS.out.trans hq, HOR.out _ h3⟩
                have HST := Lib.hid (HP.out.step HGU.out HNX.out HY1.out)
                clear HM5 HY1 HOR
                go_wp2
                go_roundg (q - (k + 1))
                case measure => have := HR2.out; omega
                case rel => exact ⟨y', n + 1, k + 1, by go_num, hkq1, Nat.le_refl _, by go_num, HB56, HB26, HY3, HBW6, Lib.hid HST.out.1⟩
end Go.Proofs.YtkinhhkodaacjaaGreatDoor
