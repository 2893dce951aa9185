/- The document's groups: the walk. -/
import Derived.Test.YtjaaldeaknmmbaaS17
import Derived.Deep.DeepCutAuto
namespace Go.Proofs.Ytjaaldeaknmmbaa
open Go.RowKit Go.Shelf

def GroupsPost (but : List Int) (X : List Sn) (w : World) (e : Ending) (w' : World) : Prop :=
  (∃ (v : Value) (gs : List Gr), e = .returned v ∧ w'.ownsRow w.heap.size 23 1 v gs.length (gs.map (fun g => g.v)) ∧ (∀ g ∈ gs, w'.ownsRow w.heap.size 3 1 g.v g.ids.length (g.ids.map (.int .i64))) ∧ gs.map pg = clq but X) ∧ Below w.heap.size w w'
theorem encN_one (x : Sn) : ∀ u ∈ encN x, u.oneCell' = true := fun u hu => encS_one x u (List.mem_of_mem_drop hu)
theorem encC_len (c : Cs) : (encC c).length = 5 := rfl
theorem flat_getC (gs : List Gr) {k : Nat} {g : Gr} (h : gs[k]? = some g) : ∀ j u, (encC g.c)[j]? = some u → (gs.flatMap (fun g => encC g.c))[k * 5 + j]? = some u := fun j u hj => flat_get (enc := fun g : Gr => encC g.c) (fun _ => rfl) gs k g h j u hj
theorem lastG_lt {c : Cs} {gs : List Gr} : ∀ k, -1 ≤ lastG c gs k ∧ lastG c gs k < (gs.length : Int)
  | 0 => by
    have : lastG c gs 0 = -1 := rfl
    omega
  | k + 1 => by
    have ih := lastG_lt (c := c) (gs := gs) k
    by_cases h : k < gs.length
    · rw [lastG_succ (List.getElem?_eq_getElem h)]
      split
      · omega
      · exact ih
    · have : lastG c gs (k + 1) = lastG c gs k := by
        unfold lastG
        rw [List.take_of_length_le (by omega), List.take_of_length_le (by omega)]
      rw [this]; exact ih

set_option maxRecDepth 100000 in
set_option maxHeartbeats 1600000 in
theorem groups_any (l : List Sn) (lv : Value) (but : List Int) (bv : Value) (w : World) (h : Snaps w lv l) (hl : l.length ≤ 300) (hbt : Ns w bv but) :
    Calls Try.prog 32 #[lv, bv] w (GroupsPost but l w) := by
  have HPO : Hid (∀ (v : Value) (gs : List Gr) (w' : World), w'.ownsRow w.heap.size 23 1 v gs.length (gs.map (fun g : Gr => g.v)) → (∀ g ∈ gs, w'.ownsRow w.heap.size 3 1 g.v g.ids.length (g.ids.map (.int .i64))) → gs.map pg = clq but l → Below w.heap.size w w' → GroupsPost but l w (.returned v) w') := fun v gs w' h1 h2 h3 h4 => ⟨⟨v, gs, rfl, h1, h2, h3⟩, h4⟩
  have HIN : Hid (∀ x W, Below w.heap.size w W → Calls Try.prog 48 #[.int .i64 x, bv] W fun e w' => e = .returned (.bool (but.contains x)) ∧ w' = W) := fun x W hW => rin_any x bv but W (hbt.below hW)
  have HS := Lib.hid h
  obtain ⟨a, c, rfl, q1, q2, q3⟩ := h.shape
  obtain ⟨ba, bc, rfl, bq1, bq2, bq3⟩ := hbt.shape
  have HG : Hid (∀ k, k < l.length → ∃ x, l[k]? = some x) := fun k hk => ⟨_, List.getElem?_eq_getElem hk⟩
  have HCL := Lib.hid (fun k => clq_len but (l.take k))
  have HDF := Lib.hid (fun k => clq_diff but (l.take k))
  have HSN : Hid (∀ k x, l[k]? = some x → clq but (l.take (k + 1)) = if takes but x then addG (clq but (l.take k)) x.c x.i else clq but (l.take k)) := fun k x hk => by rw [take_snoc hk, clq_snoc]
  have HT : Hid (∀ k, l.length ≤ k → clq but (l.take k) = clq but l) := fun k hk => by rw [List.take_of_length_le hk]
  have HC0 : Hid (clq but (l.take 0) = []) := rfl
  clear h hbt
  generalize hnn : l.length = n at *
  have HN := Lib.hid hnn
  clear hnn
  generalize hbl : but.length = bl at *
  clear hbl
  go_enter Try.func32, Try.ntmps32
  go_wp2
  go_loopw [5, 6, 7] (fun sv ov i wr => ∃ (k : Nat) (gs : List Gr), k ≤ n ∧ i = .int .i64 k ∧ Hid (G2 wr w.heap.size sv ov gs) ∧ Hid (gs.map pg = clq but (l.take k)) ∧ Hid (Below w.heap.size w wr)) (fun _ _ i _ => n - (intOf i).toNat)
  case atStart => exact ⟨0, [], Nat.zero_le _, rfl, G2.nil _ _, HC0.out.symm, Below.refl _ _⟩
  case round =>
    obtain ⟨k, gs, hk, rfl, HGR, HE, HW⟩ := hrel
    rename World => wo
    by_cases hlt : k < n
    · obtain ⟨x, hs⟩ := HG.out k hlt
      have hgl : gs.length ≤ 300 := by
        have h1 := HCL.out k
        rw [← HE.out] at h1
        simp at h1
        omega
      obtain ⟨b, off, rfl, hbl, hc⟩ := (HS.out.below HW.out).row (by rintro rfl; simp at hs)
      have HC : Hid (∀ j u, (encN x)[j]? = some u → wo.cell? ⟨b, off + k * 23 + 1 + j, none⟩ = some u) := fun j u hj => by
        have := sn_at hc hs (1 + j) u (s_n x j u hj)
        rwa [← Nat.add_assoc] at this
      have hbs := HW.out.size
      have HQ := Lib.hid (HSN.out k x hs)
      have HTK : Hid (takes but x = (x.s == 4 && !but.contains x.i)) := rfl
      obtain ⟨sa, sc, rfl, sq1, sq2, sq3⟩ := owns_shape HGR.out.st
      obtain ⟨oa, oc, rfl, oq1, oq2, oq3⟩ := owns_shape HGR.out.row
      have HSQ := Lib.hid sq3
      have HOQ := Lib.hid oq3
      have hin := HIN.out x.i
      clear hc hs sq3 oq3
      go_upto_region 7 with (first
        | ((with_reducible show wpList _ _ _ (Oper.mk (some 21) _ _ _ _ _ :: _) _ _); refine wpList_loadW W39 rfl rfl rfl (encN x) rfl HC.out ?_)
        | ((with_reducible show wpList _ _ _ (Oper.mk none (Op.store 39 _ _) _ _ _ _ :: _) _ _); refine wpList_boxW W39 rfl rfl rfl (encN x) rfl rfl (encN_one x) rfl ?_; go_must (intro W1 hX hal hz1; have HBX := Lib.hid hX; have HB1 : Hid (Below w.heap.size w W1) := HW.out.trans (hal.mono hbs); have HGR1 := Lib.hid (HGR.out.keep hal); clear hX hal hz1)))
      have k0 : W1.cell? ⟨wo.heap.size, 0, none⟩ = some (.int .i64 x.i) := HBX.out.list0 rfl
      have k1 : W1.cell? ⟨wo.heap.size, 1, none⟩ = some (.int .i64 x.s) := HBX.out.list0 rfl
      have zz := HBX.out.lt
      replace hin := hin W1 HB1.out
      clear HGR HW hbs HC hbl
      generalize wo.heap.size = wb at *
      clear wo
      by_cases h4 : x.s = 4
      · have e1 : (x.s != 4) = false := by simpa using h4
        have HT2 : Hid (takes but x = !but.contains x.i) := by show _ = _; rw [HTK.out, h4]; rfl
        clear h4 HTK
        generalize but.contains x.i = bb at *
        cases bb with
        | true =>
          go_wp2_with (go_at_call 48; refine hin.mono ?_; rintro e w2 ⟨rfl, hw⟩; have hw := hw.symm; subst hw)
          go_roundw
          case rel => exact ⟨k + 1, gs, by omega, by go_num, HGR1, (by show _ = _; rw [HQ.out, HT2.out, HE.out]; rfl), HB1⟩
          case measure => simp [intOf]; omega
        | false =>
          go_wp2_with (go_at_call 48; refine hin.mono ?_; rintro e w2 ⟨rfl, hw⟩; have hw := hw.symm; subst hw)
          clear hin k0 k1
          have HLS := Lib.hid (fun (q : Nat) g (hq : gs[q]? = some g) => lastG_succ (c := x.c) hq)
          have HL0 : Hid (lastG x.c gs 0 = -1) := rfl
          have HLP := Lib.hid (lastG_pos (c := x.c) gs (by rw [HE.out]; exact HDF.out k))
          have HGI : Hid (∀ q, q < gs.length → ∃ g, gs[q]? = some g) := fun q hq => ⟨_, List.getElem?_eq_getElem hq⟩
          go_loopw [9, 10] (fun m i wi => ∃ q : Nat, q ≤ gs.length ∧ i = .int .i64 q ∧ m = .int .i64 (lastG x.c gs q) ∧ Hid (Below W1.heap.size W1 wi)) (fun _ i _ => gs.length - (intOf i).toNat)
          case atStart => exact ⟨0, Nat.zero_le _, rfl, by rw [HL0.out], Below.refl _ _⟩
          case round =>
            obtain ⟨q, hq, rfl, rfl, HWI⟩ := hrel
            have HB2 : Hid (Below w.heap.size w wr) := HB1.out.trans (HWI.out.mono HB1.out.size)
            by_cases hqt : q < gs.length
            · obtain ⟨g, hg⟩ := HGI.out q hqt
              obtain ⟨sb, rfl, -⟩ := HSQ.out (by omega)
              have HSC : Hid (∀ W, Below wr.heap.size wr W → ∀ j u, (encC g.c)[j]? = some u → W.cell? ⟨sb, q * 5 + j, none⟩ = some u) := fun W hW j u hj => own_cell (ow_below (ow_below HGR1.out.st HWI.out) hW) (flat_getC gs hg j u hj)
              have HXC : Hid (∀ W, Below wr.heap.size wr W → ∀ j u, (encC x.c)[j]? = some u → W.cell? ⟨wb, 2 + j, none⟩ = some u) := fun W hW => ((HBX.out.keep HWI.out).keep hW).sub (n_c x)
              have HST := Lib.hid (HLS.out q g hg)
              have hqI : (q : Int) < (gs.length : Int) := by omega
              have hwz := HWI.out.size
              obtain ⟨bq, hbq⟩ : ∃ bq, bq = decide (g.c = x.c) := ⟨_, rfl⟩
              have HBQ := Lib.hid hbq
              clear hg
              go_upto_region 12 with fail
              refine wp_region_held_drew (S := fun X => Below wr.heap.size wr X) (by kernel_rfl) ((Below.refl _ _).drew) (fun hHeld => ?_)
              (refine takeW (i := 0) (v := ?_) rfl (by kernel_rfl) (by kernel_rfl) (by kernel_rfl) (fun _ _ _ h => h) (by rfl) (by assumption) ?_ ?_; rotate_left; (intro W hW; (try dsimp only at hW); go_simp; try with_reducible rfl); (try simp only [Act.put, List.setIfInBounds_toArray, List.set_cons_zero, List.set_cons_succ]))
              (refine takeW (i := 1) (v := ?_) rfl (by kernel_rfl) (by kernel_rfl) (by kernel_rfl) (fun _ _ _ h => h) (by rfl) (by assumption) ?_ ?_; rotate_left; (intro W hW; (try dsimp only at hW); go_simp; try with_reducible rfl); (try simp only [Act.put, List.setIfInBounds_toArray, List.set_cons_zero, List.set_cons_succ]))
              (refine takeW (i := 2) (v := ?_) rfl (by kernel_rfl) (by kernel_rfl) (by kernel_rfl) (fun _ _ _ h => h) (by rfl) (by assumption) ?_ ?_; rotate_left; (intro W hW; (try dsimp only at hW); go_simp; try with_reducible rfl); (try simp only [Act.put, List.setIfInBounds_toArray, List.set_cons_zero, List.set_cons_succ]))
              (refine takeW (i := 3) rfl (by kernel_rfl) (by kernel_rfl) (by kernel_rfl) (fun _ _ _ h => h) (by rfl) (by assumption) (fun W hW => exec_loadW W31 rfl rfl rfl (HSC.out W hW)) ?_; (try simp only [Act.put, List.setIfInBounds_toArray, List.set_cons_zero, List.set_cons_succ]))
              (refine takeW (i := 4) (v := ?_) rfl (by kernel_rfl) (by kernel_rfl) (by kernel_rfl) (fun _ _ _ h => h) (by rfl) (by assumption) ?_ ?_; rotate_left; (intro W hW; (try dsimp only at hW); go_simp; try with_reducible rfl); (try simp only [Act.put, List.setIfInBounds_toArray, List.set_cons_zero, List.set_cons_succ]))
              (refine takeW (i := 5) rfl (by kernel_rfl) (by kernel_rfl) (by kernel_rfl) (fun _ _ _ h => h) (by rfl) (by assumption) (fun W hW => exec_loadW W31 rfl rfl rfl (HXC.out W hW)) ?_; (try simp only [Act.put, List.setIfInBounds_toArray, List.set_cons_zero, List.set_cons_succ]))
              (refine takeW (i := 6) rfl (by kernel_rfl) (by kernel_rfl) (by kernel_rfl) (fun _ _ _ h => h) (by rfl) (by assumption) (fun W hW => exec_eqlC rfl rfl rfl) ?_; (try simp only [Act.put, List.setIfInBounds_toArray, List.set_cons_zero, List.set_cons_succ]))
              refine wpAnyH_done (by kernel_rfl) ?_ _
              rw [← hbq]
              clear hbq
              have HB4 : Hid (Below W1.heap.size W1 wr.drew) := HWI.out.drew
              clear hHeld
              cases bq with
              | true =>
                have HV : Hid (lastG x.c gs (q + 1) = (q : Int)) := by
                  show _ = _
                  rw [HST.out, if_pos (of_decide_eq_true HBQ.out.symm)]
                go_wp2
                go_roundw
                case rel => exact ⟨q + 1, by omega, by go_num, by rw [HV.out], HB4⟩
                case measure => simp [intOf]; omega
              | false =>
                have HV : Hid (lastG x.c gs (q + 1) = lastG x.c gs q) := by
                  show _ = _
                  rw [HST.out, if_neg (of_decide_eq_false HBQ.out.symm)]
                go_wp2
                go_roundw
                case rel => exact ⟨q + 1, by omega, by go_num, by rw [HV.out], HB4⟩
                case measure => simp [intOf]; omega
            · obtain rfl : q = gs.length := by omega
              have HBX2 := Lib.hid (HBX.out.keep HWI.out)
              have HGR2 := Lib.hid (HGR1.out.keep HWI.out)
              clear HBX HGR1 HWI HLS HL0
              rw [HLP.out]
              rename World => w4
              have HBX := HBX2
              have HBW := HB2
              clear HBX2 HB2
              have z4 := HBX.out.lt
              rcases posG_ge x.c gs 0 with hp | ⟨j, g, hp, hg, hgc⟩
              · have HP := Lib.hid hp
                rw [hp]
                clear hp
                have HXC : Hid (∀ j u, (encC x.c)[j]? = some u → w4.cell? ⟨wb, 2 + j, none⟩ = some u) := HBX.out.sub (n_c x)
                have hs4 := HBW.out.size
                go_upto_region 18 with (first
                  | ((with_reducible show wpList _ _ _ (Oper.mk (some 51) _ _ _ _ _ :: _) _ _); refine wpList_loadW W31 rfl rfl rfl (encC x.c) rfl HXC.out ?_)
                  | ((with_reducible show wpList _ _ _ (Oper.mk (some 52) _ _ _ _ _ :: _) _ _); refine wpList_sliceW E85 (by decide) rfl rfl (encC x.c) rfl rfl ?_)
                  | ((with_reducible show wpList _ _ _ (Oper.mk (some 53) _ _ _ _ _ :: _) _ _); refine wpList_app_at (m := 1) E85 rfl rfl (HGR2.out.st.alloc _) (news := encC x.c) rfl (cells_new _ _ _) (encC_one x.c) rfl rfl (by omega) (by simp; omega) ?_; go_must (intro v5 w5 ho5 hg5 _; have HO5 := Lib.hid ho5; have HG5 := Lib.hid hg5; have HR5 := Lib.hid (own_keptT (HGR2.out.row.alloc (.cells (encC x.c).toArray 31)) (HGR2.out.st.alloc _) (by decide) hg5); have HBX5 := Lib.hid ((HBX.out.alloc _).kept hg5 (fun e => own_blk_ne HGR2.out.st HBX.out (by decide) e.symm)); have HBW5 := Lib.hid ((HBW.out.trans ((below1 w4 (.cells (encC x.c).toArray 31)).mono HBW.out.size)).grown hg5 (by have := HBW.out.size; simp; omega) (fun q e => ((HGR2.out.st.alloc (.cells (encC x.c).toArray 31)).lt q e).1)); have hs5 := HBW5.out.size; clear ho5 hg5))
                  | ((with_reducible show wpList _ _ _ (Oper.mk (some 56) _ _ _ _ _ :: _) _ _); refine wpList_app_at (m := 1) E28 rfl rfl (HR5.out.alloc _) (news := [.slice none 0 0]) rfl (cells_new _ _ _) (by simp [Value.oneCell']) rfl rfl (by omega) (by simp; omega) ?_; go_must (intro v6 w6 ho6 hg6 _; have HGR := Lib.hid (HGR2.out.push HO5.out HG5.out ho6 hg6); have HBX6 := Lib.hid ((HBX5.out.alloc _).kept hg6 (fun e => own_blk_ne HR5.out HBX5.out (by decide) e.symm)); have HBW6 := Lib.hid ((HBW5.out.trans ((below1 w5 (.cells #[.slice none 0 0] 23)).mono HBW5.out.size)).grown hg6 (by have := HBW5.out.size; simp; omega) (fun q e => ((HR5.out.alloc (.cells #[.slice none 0 0] 23)).lt q e).1)); obtain ⟨ga, cap, rfl, -, -, hga⟩ := owns_shape ho6; obtain ⟨gb, rfl, -⟩ := hga (by omega); clear ho6 hg6 hga)))
                clear HBX HBW HXC z4
                have HBX := HBX6
                have HBW := HBW6
                have z4 := HBX.out.lt
                clear HBX6 HBW6 HBX5 HBW5 HO5 HG5 HR5 hs5 hs4 HGR2
                rename World => w4
                have HK : Hid ((gs ++ [(⟨x.c, .slice none 0 0, []⟩ : Gr)])[gs.length]? = some ⟨x.c, .slice none 0 0, []⟩) := by show _ = _; simp
                have HIL : Hid ((⟨x.c, .slice none 0 0, []⟩ : Gr).ids.length ≤ 300) := by show ([] : List Int).length ≤ 300; simp
                have HNW : Hid (addG (clq but (l.take k)) x.c x.i = (gs ++ [(⟨x.c, .slice none 0 0, [x.i]⟩ : Gr)]).map pg) := by show _ = _; rw [← HE.out]; exact add_new x.c x.i _ gs 0 HP.out
                have HEQ : Hid (∀ u, ((gs ++ [(⟨x.c, .slice none 0 0, []⟩ : Gr)]).set gs.length ⟨x.c, u, [x.i]⟩).map pg = clq but (l.take (k + 1))) := fun u => by rw [HQ.out, HT2.out, if_pos (by rfl), HNW.out]; simp [pg]
                have hln : (gs.length : Int) < (gs.length : Int) + 1 := by omega
                have HAT : Hid (((gs ++ [(⟨x.c, .slice none 0 0, []⟩ : Gr)]).map (fun g => g.v))[gs.length]? = some (.slice none 0 0)) := by show _ = _; rw [List.getElem?_map, HK.out]; rfl
                have HCV : Hid (w4.cell? ⟨gb, gs.length, none⟩ = some (.slice none 0 0)) := own_cell HGR.out.row HAT.out
                go_upto_region 18 with fail
                have hS18 : w4.drew.cell? ⟨wb, 0, none⟩ = some (.int .i64 x.i) := HBX.out.list0 (j := 0) rfl
                replace HBX := Lib.hid (HBX.out.keep (Below.refl _ _).drew); replace HGR := Lib.hid (HGR.out.keep (Below.refl _ _).drew); replace HBW := Lib.hid HBW.out.drew; have HID := Lib.hid (HGR.out.each _ (List.mem_of_getElem? HK.out)); replace HCV : Hid (w4.drew.cell? ⟨gb, gs.length, none⟩ = some (.slice none 0 0)) := HCV.out
                have hsz9 : w.heap.size ≤ w4.heap.size := HBW.out.size
                refine wp_region_held_drew (S := fun X => X.cell? ⟨wb, 0, none⟩ = some (.int .i64 x.i)) (by kernel_rfl) hS18 (fun hHeld => ?_)
                (refine takeW (i := 0) (v := ?_) rfl (by kernel_rfl) (by kernel_rfl) (by kernel_rfl) (fun _ _ _ h => h) (by rfl) (by assumption) ?_ ?_; rotate_left; (intro W hW; (try dsimp only at hW); go_simp; try with_reducible rfl); (try simp only [Act.put, List.setIfInBounds_toArray, List.set_cons_zero, List.set_cons_succ]))
                (refine takeW (i := 1) (v := ?_) rfl (by kernel_rfl) (by kernel_rfl) (by kernel_rfl) (fun _ _ _ h => h) (by rfl) (by assumption) ?_ ?_; rotate_left; (intro W hW; (try dsimp only at hW); go_simp; try with_reducible rfl); (try simp only [Act.put, List.setIfInBounds_toArray, List.set_cons_zero, List.set_cons_succ]))
                (refine takeW (i := 2) (v := ?_) rfl (by kernel_rfl) (by kernel_rfl) (by kernel_rfl) (fun _ _ _ h => h) (by rfl) (by assumption) ?_ ?_; rotate_left; (intro W hW; (try dsimp only at hW); go_simp; try with_reducible rfl); (try simp only [Act.put, List.setIfInBounds_toArray, List.set_cons_zero, List.set_cons_succ]))
                (refine takeW (i := 3) (v := ?_) rfl (by kernel_rfl) (by kernel_rfl) (by kernel_rfl) (fun _ _ _ h => h) (by rfl) (by assumption) ?_ ?_; rotate_left; (intro W hW; (try dsimp only at hW); go_simp; try with_reducible rfl); (try simp only [Act.put, List.setIfInBounds_toArray, List.set_cons_zero, List.set_cons_succ]))
                (refine takeW (i := 4) (v := ?_) rfl (by kernel_rfl) (by kernel_rfl) (by kernel_rfl) (fun _ _ _ h => h) (by rfl) (by assumption) ?_ ?_; rotate_left; (intro W hW; (try dsimp only at hW); go_simp; try with_reducible rfl); (try simp only [Act.put, List.setIfInBounds_toArray, List.set_cons_zero, List.set_cons_succ]))
                (refine takeW (i := 6) (v := ?_) rfl (by kernel_rfl) (by kernel_rfl) (by kernel_rfl) (fun _ _ _ h => h) (by rfl) (by assumption) ?_ ?_; rotate_left; (intro W hW; (try dsimp only at hW); go_simp; try with_reducible rfl); (try simp only [Act.put, List.setIfInBounds_toArray, List.set_cons_zero, List.set_cons_succ]))
                (refine takeW (i := 7) (v := ?_) rfl (by kernel_rfl) (by kernel_rfl) (by kernel_rfl) (fun _ _ _ h => h) (by rfl) (by assumption) ?_ ?_; rotate_left; (intro W hW; (try dsimp only at hW); go_simp; try with_reducible rfl); (try simp only [Act.put, List.setIfInBounds_toArray, List.set_cons_zero, List.set_cons_succ]))
                refine takeV2 (i := 5) (j := 8) rfl rfl (by kernel_rfl) (by rfl) (by rfl) (exec_load1 F23 rfl rfl (by exact HCV.out)) (hHeld) (exec_slice1 E23 rfl rfl rfl) (keepCell (below1 _ _) hHeld) ?_ ?_
                · (try simp only [Act.put, List.setIfInBounds_toArray, List.set_cons_zero, List.set_cons_succ])
                  have hHeld : w4.drew.cell? ⟨wb, 0, none⟩ = some (.int .i64 x.i) := hHeld
                  refine takeV (i := 8) rfl (by kernel_rfl) (by rfl) (exec_slice1 E23 rfl rfl rfl) (keepCell (below1 _ _) hHeld) ?_
                  (try simp only [Act.put, List.setIfInBounds_toArray, List.set_cons_zero, List.set_cons_succ])
                  have hHeld : ((w4.drew).alloc (.cells #[.int .i64 x.i] 3)).cell? ⟨wb, 0, none⟩ = some (.int .i64 x.i) := keepCell (below1 _ _) hHeld
                  replace HCV := Lib.hid (keepCell (below1 _ (.cells #[.int .i64 x.i] 3)) HCV.out)
                  refine takeApp (i := 9) (m := 1) E23 rfl (by kernel_rfl) (by rfl) rfl (HID.out.alloc _) (news := [.int .i64 x.i]) rfl (cell_one_new _ _ _) (by simp [Value.oneCell']) rfl rfl (by have := HIL.out; omega) (by simp; omega) (fun u' w5 ho5 hg5 hl5 => ?_)
                  have HBX5 := Lib.hid ((HBX.out.alloc _).kept hg5 (fun e => own_blk_ne HID.out HBX.out (by decide) e.symm))
                  have HG5 := Lib.hid (G2.app HGR.out HK.out ho5 hg5 hl5)
                  have HR5 : Hid (Below w.heap.size w w5) := (HBW.out.trans ((below1 _ (.cells #[.int .i64 x.i] 3)).mono HBW.out.size)).grown hg5 (by have := HBW.out.size; simp; omega) (fun q e => ((HID.out.alloc (.cells #[.int .i64 x.i] 3)).lt q e).1)
                  have HGB5 := Lib.hid (own_keptT (HGR.out.keep (below1 _ (.cells #[.int .i64 x.i] 3))).row (HID.out.alloc _) (by decide) hg5)
                  have hs5 : w5.cell? ⟨wb, 0, none⟩ = some (.int .i64 x.i) := HBX5.out.list0 (j := 0) rfl
                  refine ⟨hs5, ?_⟩
                  try simp only [Act.put, List.setIfInBounds_toArray, List.set_cons_zero, List.set_cons_succ]
                  replace hHeld := hs5
                  clear hs5
                  have hfz : w5.frozen? ⟨gb, gs.length, none⟩ = false := own_frozen HGB5.out _
                  have hcl : w5.cell? ⟨gb, gs.length, none⟩ = some (.slice none 0 0) := own_cell HGB5.out HAT.out
                  have hgH := (HGB5.out.lt gb rfl).1
                  obtain ⟨ua, uc, rfl, -⟩ := owns_shape ho5
                  have HR6 : Hid (Below w.heap.size w (w5.setCell ⟨gb, gs.length, none⟩ (.slice ua (([] : List Int).length + 1) uc))) := HR5.out.setCell hgH _
                  (refine takeW (i := 10) (v := ?_) rfl (by kernel_rfl) (by kernel_rfl) (by kernel_rfl) (fun _ _ _ h => h) (by rfl) (by assumption) ?_ ?_; rotate_left; (intro W hW; (try dsimp only at hW); go_simp; try with_reducible rfl); (try simp only [Act.put, List.setIfInBounds_toArray, List.set_cons_zero, List.set_cons_succ]))
                  refine takeVs (i := 11) rfl (by kernel_rfl) (by rfl) (exec_store1 F23 rfl rfl rfl rfl rfl hcl hfz) ((HBX5.out.far (p := ⟨gb, gs.length, none⟩) (fun e => own_blk_ne HGB5.out HBX5.out (by decide) (by rw [e]; rfl)) _).list0 (j := 0) rfl) ?_
                  have hHeld : (w5.setCell ⟨gb, gs.length, none⟩ (.slice ua (([] : List Int).length + 1) uc)).cell? ⟨wb, 0, none⟩ = some (.int .i64 x.i) := (HBX5.out.far (p := ⟨gb, gs.length, none⟩) (fun e => own_blk_ne HGB5.out HBX5.out (by decide) (by rw [e]; rfl)) _).list0 (j := 0) rfl
                  refine wpAnyH_done (by kernel_rfl) ?_ _
                  clear hHeld hcl hfz hgH
                  go_wp2
                  go_roundw
                  case rel => exact ⟨k + 1, _, by omega, by go_num, HG5, HEQ.out _, HR6⟩
                  case measure => simp [intOf]; omega
                · (try simp only [Act.put, List.setIfInBounds_toArray, List.set_cons_zero, List.set_cons_succ])
                  have hHeld : ((w4.drew).alloc (.cells #[.int .i64 x.i] 3)).cell? ⟨wb, 0, none⟩ = some (.int .i64 x.i) := keepCell (below1 _ _) hHeld
                  replace HCV := Lib.hid (keepCell (below1 _ (.cells #[.int .i64 x.i] 3)) HCV.out)
                  refine takeV (i := 5) rfl (by kernel_rfl) (by rfl) (exec_load1 F23 rfl rfl (by exact HCV.out)) (hHeld) ?_
                  (try simp only [Act.put, List.setIfInBounds_toArray, List.set_cons_zero, List.set_cons_succ])
                  have hHeld : ((w4.drew).alloc (.cells #[.int .i64 x.i] 3)).cell? ⟨wb, 0, none⟩ = some (.int .i64 x.i) := hHeld
                  refine takeApp (i := 9) (m := 1) E23 rfl (by kernel_rfl) (by rfl) rfl (HID.out.alloc _) (news := [.int .i64 x.i]) rfl (cell_one_new _ _ _) (by simp [Value.oneCell']) rfl rfl (by have := HIL.out; omega) (by simp; omega) (fun u' w5 ho5 hg5 hl5 => ?_)
                  have HBX5 := Lib.hid ((HBX.out.alloc _).kept hg5 (fun e => own_blk_ne HID.out HBX.out (by decide) e.symm))
                  have HG5 := Lib.hid (G2.app HGR.out HK.out ho5 hg5 hl5)
                  have HR5 : Hid (Below w.heap.size w w5) := (HBW.out.trans ((below1 _ (.cells #[.int .i64 x.i] 3)).mono HBW.out.size)).grown hg5 (by have := HBW.out.size; simp; omega) (fun q e => ((HID.out.alloc (.cells #[.int .i64 x.i] 3)).lt q e).1)
                  have HGB5 := Lib.hid (own_keptT (HGR.out.keep (below1 _ (.cells #[.int .i64 x.i] 3))).row (HID.out.alloc _) (by decide) hg5)
                  have hs5 : w5.cell? ⟨wb, 0, none⟩ = some (.int .i64 x.i) := HBX5.out.list0 (j := 0) rfl
                  refine ⟨hs5, ?_⟩
                  try simp only [Act.put, List.setIfInBounds_toArray, List.set_cons_zero, List.set_cons_succ]
                  replace hHeld := hs5
                  clear hs5
                  have hfz : w5.frozen? ⟨gb, gs.length, none⟩ = false := own_frozen HGB5.out _
                  have hcl : w5.cell? ⟨gb, gs.length, none⟩ = some (.slice none 0 0) := own_cell HGB5.out HAT.out
                  have hgH := (HGB5.out.lt gb rfl).1
                  obtain ⟨ua, uc, rfl, -⟩ := owns_shape ho5
                  have HR6 : Hid (Below w.heap.size w (w5.setCell ⟨gb, gs.length, none⟩ (.slice ua (([] : List Int).length + 1) uc))) := HR5.out.setCell hgH _
                  (refine takeW (i := 10) (v := ?_) rfl (by kernel_rfl) (by kernel_rfl) (by kernel_rfl) (fun _ _ _ h => h) (by rfl) (by assumption) ?_ ?_; rotate_left; (intro W hW; (try dsimp only at hW); go_simp; try with_reducible rfl); (try simp only [Act.put, List.setIfInBounds_toArray, List.set_cons_zero, List.set_cons_succ]))
                  refine takeVs (i := 11) rfl (by kernel_rfl) (by rfl) (exec_store1 F23 rfl rfl rfl rfl rfl hcl hfz) ((HBX5.out.far (p := ⟨gb, gs.length, none⟩) (fun e => own_blk_ne HGB5.out HBX5.out (by decide) (by rw [e]; rfl)) _).list0 (j := 0) rfl) ?_
                  have hHeld : (w5.setCell ⟨gb, gs.length, none⟩ (.slice ua (([] : List Int).length + 1) uc)).cell? ⟨wb, 0, none⟩ = some (.int .i64 x.i) := (HBX5.out.far (p := ⟨gb, gs.length, none⟩) (fun e => own_blk_ne HGB5.out HBX5.out (by decide) (by rw [e]; rfl)) _).list0 (j := 0) rfl
                  refine wpAnyH_done (by kernel_rfl) ?_ _
                  clear hHeld hcl hfz hgH
                  go_wp2
                  go_roundw
                  case rel => exact ⟨k + 1, _, by omega, by go_num, HG5, HEQ.out _, HR6⟩
                  case measure => simp [intOf]; omega

              · have HP := Lib.hid hp
                rw [Nat.zero_add] at hp
                rw [hp]
                have hjl := (List.getElem?_eq_some_iff.1 hg).1
                obtain ⟨gb, rfl, -⟩ := HOQ.out (by omega)
                have HK := Lib.hid hg
                have HGR := HGR2
                have HIL : Hid (g.ids.length ≤ 300) := by
                  have h1 := clq_sum but (l.take k)
                  rw [← HE.out] at h1
                  have h2 := List.countP_le_length (p := takes but) (l := l.take k)
                  have h3 := ids_le (List.mem_of_getElem? HK.out)
                  have h4 := List.length_take_le k l
                  show g.ids.length ≤ 300
                  omega
                have HEQ : Hid (∀ u, (gs.set j ⟨g.c, u, g.ids ++ [x.i]⟩).map pg = clq but (l.take (k + 1))) := fun u => by rw [HQ.out, HT2.out, if_pos (by rfl), ← HE.out]; exact (add_old x.c x.i u gs 0 j g HP.out HK.out).symm
                have HAT : Hid ((gs.map (fun g => g.v))[j]? = some g.v) := by show _ = _; rw [List.getElem?_map, HK.out]; rfl
                have hneg : decide ((j : Int) < 0) = false := decide_eq_false (by omega)
                have HCV : Hid (w4.cell? ⟨gb, j, none⟩ = some g.v) := own_cell HGR.out.row HAT.out
                clear hp hg hgc HGR2
                go_upto_region 18 with fail
                have hS18 : w4.drew.cell? ⟨wb, 0, none⟩ = some (.int .i64 x.i) := HBX.out.list0 (j := 0) rfl
                replace HBX := Lib.hid (HBX.out.keep (Below.refl _ _).drew); replace HGR := Lib.hid (HGR.out.keep (Below.refl _ _).drew); replace HBW := Lib.hid HBW.out.drew; have HID := Lib.hid (HGR.out.each _ (List.mem_of_getElem? HK.out)); replace HCV : Hid (w4.drew.cell? ⟨gb, j, none⟩ = some (g.v)) := HCV.out
                have hsz9 : w.heap.size ≤ w4.heap.size := HBW.out.size
                refine wp_region_held_drew (S := fun X => X.cell? ⟨wb, 0, none⟩ = some (.int .i64 x.i)) (by kernel_rfl) hS18 (fun hHeld => ?_)
                (refine takeW (i := 0) (v := ?_) rfl (by kernel_rfl) (by kernel_rfl) (by kernel_rfl) (fun _ _ _ h => h) (by rfl) (by assumption) ?_ ?_; rotate_left; (intro W hW; (try dsimp only at hW); go_simp; try with_reducible rfl); (try simp only [Act.put, List.setIfInBounds_toArray, List.set_cons_zero, List.set_cons_succ]))
                (refine takeW (i := 1) (v := ?_) rfl (by kernel_rfl) (by kernel_rfl) (by kernel_rfl) (fun _ _ _ h => h) (by rfl) (by assumption) ?_ ?_; rotate_left; (intro W hW; (try dsimp only at hW); go_simp; try with_reducible rfl); (try simp only [Act.put, List.setIfInBounds_toArray, List.set_cons_zero, List.set_cons_succ]))
                (refine takeW (i := 2) (v := ?_) rfl (by kernel_rfl) (by kernel_rfl) (by kernel_rfl) (fun _ _ _ h => h) (by rfl) (by assumption) ?_ ?_; rotate_left; (intro W hW; (try dsimp only at hW); go_simp; try with_reducible rfl); (try simp only [Act.put, List.setIfInBounds_toArray, List.set_cons_zero, List.set_cons_succ]))
                (refine takeW (i := 3) (v := ?_) rfl (by kernel_rfl) (by kernel_rfl) (by kernel_rfl) (fun _ _ _ h => h) (by rfl) (by assumption) ?_ ?_; rotate_left; (intro W hW; (try dsimp only at hW); go_simp; try with_reducible rfl); (try simp only [Act.put, List.setIfInBounds_toArray, List.set_cons_zero, List.set_cons_succ]))
                (refine takeW (i := 4) (v := ?_) rfl (by kernel_rfl) (by kernel_rfl) (by kernel_rfl) (fun _ _ _ h => h) (by rfl) (by assumption) ?_ ?_; rotate_left; (intro W hW; (try dsimp only at hW); go_simp; try with_reducible rfl); (try simp only [Act.put, List.setIfInBounds_toArray, List.set_cons_zero, List.set_cons_succ]))
                (refine takeW (i := 6) (v := ?_) rfl (by kernel_rfl) (by kernel_rfl) (by kernel_rfl) (fun _ _ _ h => h) (by rfl) (by assumption) ?_ ?_; rotate_left; (intro W hW; (try dsimp only at hW); go_simp; try with_reducible rfl); (try simp only [Act.put, List.setIfInBounds_toArray, List.set_cons_zero, List.set_cons_succ]))
                (refine takeW (i := 7) (v := ?_) rfl (by kernel_rfl) (by kernel_rfl) (by kernel_rfl) (fun _ _ _ h => h) (by rfl) (by assumption) ?_ ?_; rotate_left; (intro W hW; (try dsimp only at hW); go_simp; try with_reducible rfl); (try simp only [Act.put, List.setIfInBounds_toArray, List.set_cons_zero, List.set_cons_succ]))
                refine takeV2 (i := 5) (j := 8) rfl rfl (by kernel_rfl) (by rfl) (by rfl) (exec_load1 F23 rfl rfl (by exact HCV.out)) (hHeld) (exec_slice1 E23 rfl rfl rfl) (keepCell (below1 _ _) hHeld) ?_ ?_
                · (try simp only [Act.put, List.setIfInBounds_toArray, List.set_cons_zero, List.set_cons_succ])
                  have hHeld : w4.drew.cell? ⟨wb, 0, none⟩ = some (.int .i64 x.i) := hHeld
                  refine takeV (i := 8) rfl (by kernel_rfl) (by rfl) (exec_slice1 E23 rfl rfl rfl) (keepCell (below1 _ _) hHeld) ?_
                  (try simp only [Act.put, List.setIfInBounds_toArray, List.set_cons_zero, List.set_cons_succ])
                  have hHeld : ((w4.drew).alloc (.cells #[.int .i64 x.i] 3)).cell? ⟨wb, 0, none⟩ = some (.int .i64 x.i) := keepCell (below1 _ _) hHeld
                  replace HCV := Lib.hid (keepCell (below1 _ (.cells #[.int .i64 x.i] 3)) HCV.out)
                  refine takeApp (i := 9) (m := 1) E23 rfl (by kernel_rfl) (by rfl) rfl (HID.out.alloc _) (news := [.int .i64 x.i]) rfl (cell_one_new _ _ _) (by simp [Value.oneCell']) rfl rfl (by have := HIL.out; omega) (by simp; omega) (fun u' w5 ho5 hg5 hl5 => ?_)
                  have HBX5 := Lib.hid ((HBX.out.alloc _).kept hg5 (fun e => own_blk_ne HID.out HBX.out (by decide) e.symm))
                  have HG5 := Lib.hid (G2.app HGR.out HK.out ho5 hg5 hl5)
                  have HR5 : Hid (Below w.heap.size w w5) := (HBW.out.trans ((below1 _ (.cells #[.int .i64 x.i] 3)).mono HBW.out.size)).grown hg5 (by have := HBW.out.size; simp; omega) (fun q e => ((HID.out.alloc (.cells #[.int .i64 x.i] 3)).lt q e).1)
                  have HGB5 := Lib.hid (own_keptT (HGR.out.keep (below1 _ (.cells #[.int .i64 x.i] 3))).row (HID.out.alloc _) (by decide) hg5)
                  have hs5 : w5.cell? ⟨wb, 0, none⟩ = some (.int .i64 x.i) := HBX5.out.list0 (j := 0) rfl
                  refine ⟨hs5, ?_⟩
                  try simp only [Act.put, List.setIfInBounds_toArray, List.set_cons_zero, List.set_cons_succ]
                  replace hHeld := hs5
                  clear hs5
                  have hfz : w5.frozen? ⟨gb, j, none⟩ = false := own_frozen HGB5.out _
                  have hcl : w5.cell? ⟨gb, j, none⟩ = some (g.v) := own_cell HGB5.out HAT.out
                  have hgH := (HGB5.out.lt gb rfl).1
                  obtain ⟨ua, uc, rfl, -⟩ := owns_shape ho5
                  have HR6 : Hid (Below w.heap.size w (w5.setCell ⟨gb, j, none⟩ (.slice ua (g.ids.length + 1) uc))) := HR5.out.setCell hgH _
                  (refine takeW (i := 10) (v := ?_) rfl (by kernel_rfl) (by kernel_rfl) (by kernel_rfl) (fun _ _ _ h => h) (by rfl) (by assumption) ?_ ?_; rotate_left; (intro W hW; (try dsimp only at hW); go_simp; try with_reducible rfl); (try simp only [Act.put, List.setIfInBounds_toArray, List.set_cons_zero, List.set_cons_succ]))
                  refine takeVs (i := 11) rfl (by kernel_rfl) (by rfl) (exec_store1 F23 rfl rfl rfl rfl rfl hcl hfz) ((HBX5.out.far (p := ⟨gb, j, none⟩) (fun e => own_blk_ne HGB5.out HBX5.out (by decide) (by rw [e]; rfl)) _).list0 (j := 0) rfl) ?_
                  have hHeld : (w5.setCell ⟨gb, j, none⟩ (.slice ua (g.ids.length + 1) uc)).cell? ⟨wb, 0, none⟩ = some (.int .i64 x.i) := (HBX5.out.far (p := ⟨gb, j, none⟩) (fun e => own_blk_ne HGB5.out HBX5.out (by decide) (by rw [e]; rfl)) _).list0 (j := 0) rfl
                  refine wpAnyH_done (by kernel_rfl) ?_ _
                  clear hHeld hcl hfz hgH
                  go_wp2
                  go_roundw
                  case rel => exact ⟨k + 1, _, by omega, by go_num, HG5, HEQ.out _, HR6⟩
                  case measure => simp [intOf]; omega
                · (try simp only [Act.put, List.setIfInBounds_toArray, List.set_cons_zero, List.set_cons_succ])
                  have hHeld : ((w4.drew).alloc (.cells #[.int .i64 x.i] 3)).cell? ⟨wb, 0, none⟩ = some (.int .i64 x.i) := keepCell (below1 _ _) hHeld
                  replace HCV := Lib.hid (keepCell (below1 _ (.cells #[.int .i64 x.i] 3)) HCV.out)
                  refine takeV (i := 5) rfl (by kernel_rfl) (by rfl) (exec_load1 F23 rfl rfl (by exact HCV.out)) (hHeld) ?_
                  (try simp only [Act.put, List.setIfInBounds_toArray, List.set_cons_zero, List.set_cons_succ])
                  have hHeld : ((w4.drew).alloc (.cells #[.int .i64 x.i] 3)).cell? ⟨wb, 0, none⟩ = some (.int .i64 x.i) := hHeld
                  refine takeApp (i := 9) (m := 1) E23 rfl (by kernel_rfl) (by rfl) rfl (HID.out.alloc _) (news := [.int .i64 x.i]) rfl (cell_one_new _ _ _) (by simp [Value.oneCell']) rfl rfl (by have := HIL.out; omega) (by simp; omega) (fun u' w5 ho5 hg5 hl5 => ?_)
                  have HBX5 := Lib.hid ((HBX.out.alloc _).kept hg5 (fun e => own_blk_ne HID.out HBX.out (by decide) e.symm))
                  have HG5 := Lib.hid (G2.app HGR.out HK.out ho5 hg5 hl5)
                  have HR5 : Hid (Below w.heap.size w w5) := (HBW.out.trans ((below1 _ (.cells #[.int .i64 x.i] 3)).mono HBW.out.size)).grown hg5 (by have := HBW.out.size; simp; omega) (fun q e => ((HID.out.alloc (.cells #[.int .i64 x.i] 3)).lt q e).1)
                  have HGB5 := Lib.hid (own_keptT (HGR.out.keep (below1 _ (.cells #[.int .i64 x.i] 3))).row (HID.out.alloc _) (by decide) hg5)
                  have hs5 : w5.cell? ⟨wb, 0, none⟩ = some (.int .i64 x.i) := HBX5.out.list0 (j := 0) rfl
                  refine ⟨hs5, ?_⟩
                  try simp only [Act.put, List.setIfInBounds_toArray, List.set_cons_zero, List.set_cons_succ]
                  replace hHeld := hs5
                  clear hs5
                  have hfz : w5.frozen? ⟨gb, j, none⟩ = false := own_frozen HGB5.out _
                  have hcl : w5.cell? ⟨gb, j, none⟩ = some (g.v) := own_cell HGB5.out HAT.out
                  have hgH := (HGB5.out.lt gb rfl).1
                  obtain ⟨ua, uc, rfl, -⟩ := owns_shape ho5
                  have HR6 : Hid (Below w.heap.size w (w5.setCell ⟨gb, j, none⟩ (.slice ua (g.ids.length + 1) uc))) := HR5.out.setCell hgH _
                  (refine takeW (i := 10) (v := ?_) rfl (by kernel_rfl) (by kernel_rfl) (by kernel_rfl) (fun _ _ _ h => h) (by rfl) (by assumption) ?_ ?_; rotate_left; (intro W hW; (try dsimp only at hW); go_simp; try with_reducible rfl); (try simp only [Act.put, List.setIfInBounds_toArray, List.set_cons_zero, List.set_cons_succ]))
                  refine takeVs (i := 11) rfl (by kernel_rfl) (by rfl) (exec_store1 F23 rfl rfl rfl rfl rfl hcl hfz) ((HBX5.out.far (p := ⟨gb, j, none⟩) (fun e => own_blk_ne HGB5.out HBX5.out (by decide) (by rw [e]; rfl)) _).list0 (j := 0) rfl) ?_
                  have hHeld : (w5.setCell ⟨gb, j, none⟩ (.slice ua (g.ids.length + 1) uc)).cell? ⟨wb, 0, none⟩ = some (.int .i64 x.i) := (HBX5.out.far (p := ⟨gb, j, none⟩) (fun e => own_blk_ne HGB5.out HBX5.out (by decide) (by rw [e]; rfl)) _).list0 (j := 0) rfl
                  refine wpAnyH_done (by kernel_rfl) ?_ _
                  clear hHeld hcl hfz hgH
                  go_wp2
                  go_roundw
                  case rel => exact ⟨k + 1, _, by omega, by go_num, HG5, HEQ.out _, HR6⟩
                  case measure => simp [intOf]; omega

      · have e1 : (x.s != 4) = true := by simpa using h4
        have HT2 : Hid (takes but x = false) := by show _ = _; rw [HTK.out]; simp [h4]
        clear h4 HTK hin
        go_wp2
        go_roundw
        case rel => exact ⟨k + 1, gs, by omega, by go_num, HGR1, (by show _ = _; rw [HQ.out, HT2.out, HE.out]; rfl), HB1⟩
        case measure => simp [intOf]; omega
    · obtain rfl : n = k := by omega
      obtain ⟨oa, oc, rfl, oq1, oq2, oq3⟩ := owns_shape HGR.out.row
      have HFI := Lib.hid (HPO.out _ gs _ HGR.out.row HGR.out.each (by rw [HE.out, HT.out _ (Nat.le_refl _)]) HW.out)
      clear oq3
      go_wp2
      go_ret
      exact HFI.out
end Go.Proofs.Ytjaaldeaknmmbaa
