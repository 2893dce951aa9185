/- The document's Parse. -/
import Derived.Test.YtjaaldeaknmmbaaDoorX14
namespace Go.Proofs.YtjaaldeaknmmbaaDoor
open Go.RowKit Go.Shelf

theorem exec_bld56 {w : World} {o : Oper} {ac : Act} {X : Operand} {s : List UInt8} (ho : o.op = .build 56 #[(0, X)]) (hx : ac.eval X = strV s) : (execOp ac.eval o).run Tryd.prog w = .ok (.value (.agg #[strV s, .int .i64 0, .int .i64 0])) w := by
  generalize ac.eval = ev at *
  unfold execOp
  simp only [ho]
  unfold strV at *
  go_simp
def restLen (b k : Nat) (w : World) : Nat := match w.cell? ⟨b, 1, none⟩ with
  | some (.int _ x) => k - x.toNat
  | _ => 0
theorem restLen_of {b k a : Nat} {w : World} (h : w.cell? ⟨b, 1, none⟩ = some (.int .i64 (a : Int))) : restLen b k w = k - a := by
  unfold restLen
  rw [h]
  simp
set_option maxRecDepth 100000 in
set_option maxHeartbeats 3200000 in
theorem rparse_any (s : List UInt8) (w : World) (hs : s.length ≤ 900000000) : Calls Tryd.prog 8 #[strV s] w (ParsePost s w) := by
  have HPOG : Hid (∀ (w' : World) (v : Value) (l : List Sx) (n : Nat), Sxs w' v l → Below w.heap.size w w' → parseT s = (some (l.map Sx.k), n) → ParsePost s w (.returned (.tuple #[v, .int .i64 0, .int .i64 0])) w') := fun w' v l n h1 h2 h3 => ⟨v, l, 0, 0, rfl, h1, h2, by rw [h3]; exact ⟨rfl, rfl, rfl⟩⟩
  have HPOB : Hid (∀ (w' : World) (n : Nat), Below w.heap.size w w' → parseT s = (none, n) → ParsePost s w (.returned (.tuple #[.slice none 0 0, .int .i64 (n : Int), .int .i64 250])) w') := fun w' n h2 h3 => ⟨_, [], n, 250, rfl, ⟨Rd.nil _, by simp⟩, h2, by rw [h3]; exact ⟨rfl, rfl, rfl⟩⟩
  generalize ParsePost s w = POST at *
  have HLS : Hid (s.length ≤ 1000000000) := by show _ ≤ _; omega
  have HL9 : Hid (s.length ≤ 900000000) := hs
  have hlen : s.length ≤ 900000000 := hs
  have HP0 : Hid (ParseAt s [] (s.drop 0) 0) := by rw [List.drop_zero]; exact ParseAt.start s
  clear hs
  go_enter Tryd.func8, Tryd.ntmps8
  go_upto_region 2 with ((with_reducible show wpList _ _ _ (Oper.mk (some 10) _ _ _ _ _ :: _) _ _); refine wpList_val rfl (exec_bld56 rfl rfl) ?_)
  obtain ⟨W0, hW0⟩ : ∃ W0, W0 = w.alloc (.cells #[strV s, .int .i64 0, .int .i64 0] 56) := ⟨_, rfl⟩
  rw [← hW0]
  obtain ⟨br, hbr⟩ : ∃ b, b = w.heap.size := ⟨_, rfl⟩
  rw [← hbr]
  have HRB0 : Hid (Blk W0 br 56 (rfC s 0 0).toArray) := by rw [hW0, hbr]; exact Blk.new' rfl
  have HB0 : Hid (Below w.heap.size w W0) := by rw [hW0]; exact below1 _ _
  have HBR : Hid (w.heap.size ≤ br) := by show _ ≤ _; omega
  clear hW0 hbr
  go_wp2
  go_loopw [6] (fun v wr => ∃ (l : List Sx) (a n : Nat), Hid (wr.ownsRow w.heap.size 43 23 v l.length (l.flatMap fun y => encS y.s)) ∧ Hid (∀ y ∈ l, OwnX w.heap.size wr y) ∧ Hid (Blk wr br 56 (rfC s a n).toArray) ∧ a ≤ s.length ∧ Hid (n + (s.length - a) ≤ 999999999) ∧ Hid (Below w.heap.size w wr) ∧ Hid (ParseAt s l (s.drop a) n) ∧ l.length ≤ 256) (fun _ wr => restLen br s.length wr)
  case atStart => exact ⟨[], 0, 0, ⟨by simp, .inl ⟨rfl, rfl⟩⟩, Lib.hid (by simp), HRB0, Nat.zero_le _, Lib.hid (by omega), HB0, HP0, by simp⟩
  case round =>
    clear HRB0 HB0 HP0
    rename Value => vl
    obtain ⟨l, a, n, HO, HX, HR, ha, HNB, HB, HP, hl⟩ := hrel
    obtain ⟨wo, rfl⟩ : ∃ wo : World, wo = wr := ⟨_, rfl⟩
    obtain ⟨va, vc, rfl, hvc1, hvc2, -⟩ := owns_shape HO.out
    have HC1 : Hid (wo.cell? ⟨br, 1, none⟩ = some (.int .i64 (a : Int))) := HR.out.list0 rfl
    by_cases hlt : a < s.length
    rotate_left
    · have hae : a = s.length := by omega
      have HD : Hid (parseT s = (some (l.map Sx.k), n)) := by
        have := HP.out
        rw [List.drop_of_length_le (by omega)] at this
        exact this.done
      have hlt2 : ¬ (a : Int) < (s.length : Int) := by omega
      clear hae
      go_wp2_with (first | ((with_reducible show wpList _ _ _ (Oper.mk (some 15) _ _ _ _ _ :: _) _ _); refine wpList_val rfl (exec_load1 (v := .int .i64 (a : Int)) FL3 rfl rfl HC1.out) ?_) | ((with_reducible show wpList _ _ _ (Oper.mk (some 17) _ _ _ _ _ :: _) _ _); refine wpList_val rfl (exec_lenS rfl rfl) ?_))
      go_ret3
      exact HPOG.out _ _ l n (parse_sxs HO.out HX.out HD.out HLS.out) HB.out HD.out
    · have HNR : Hid (s.drop a ≠ []) := fun e => by
        have := congrArg List.length e
        rw [List.length_drop] at this
        simp at this
        omega
      have hlt2 : (a : Int) < (s.length : Int) := by omega
      have c1 : wo.cell? ⟨br, 2, none⟩ = some (.int .i64 (n : Int)) := HR.out.list0 rfl
      have hn9 : n ≤ 1000000000 := by have := HNB.out; omega
      by_cases hq : l.length = 256
      · have HF := Lib.hid (HP.out.full HNR.out hq)
        have HLQ : Hid (l.length = 256) := hq
        rw [hq] at hvc1 ⊢
        clear hq hl
        go_upto_region 5 with (first | ((with_reducible show wpList _ _ _ (Oper.mk (some 15) _ _ _ _ _ :: _) _ _); refine wpList_val rfl (exec_load1 (v := .int .i64 (a : Int)) FL3 rfl rfl HC1.out) ?_) | ((with_reducible show wpList _ _ _ (Oper.mk (some 17) _ _ _ _ _ :: _) _ _); refine wpList_val rfl (exec_lenS rfl rfl) ?_))
        refine wp_region_held_drew (S := (fun X => X.cell? ⟨br, 2, none⟩ = some (.int .i64 (n : Int)))) (by kernel_rfl) c1 (fun hHeld => ?_)
        (refine takeW (i := 0) (v := ?_) rfl (by kernel_rfl) (by kernel_rfl) (by kernel_rfl) (fun _ _ _ h => h) (by rfl) (by assumption) ?_ ?_; rotate_left; (intro W hW; (try dsimp only at hW); go_simp; try with_reducible rfl); (try simp only [Act.put, List.setIfInBounds_toArray, List.set_cons_zero, List.set_cons_succ]))
        (refine takeW (i := 1) (v := ?_) rfl (by kernel_rfl) (by kernel_rfl) (by kernel_rfl) (fun _ _ _ h => h) (by rfl) (by assumption) ?_ ?_; rotate_left; (intro W hW; (try dsimp only at hW); go_simp; try with_reducible rfl); (try simp only [Act.put, List.setIfInBounds_toArray, List.set_cons_zero, List.set_cons_succ]))
        (refine takeW (i := 2) (v := ?_) rfl (by kernel_rfl) (by kernel_rfl) (by kernel_rfl) (fun _ _ _ h => h) (by rfl) (by assumption) ?_ ?_; rotate_left; (intro W hW; (try dsimp only at hW); go_simp; try with_reducible rfl); (try simp only [Act.put, List.setIfInBounds_toArray, List.set_cons_zero, List.set_cons_succ]))
        (refine takeW (i := 3) rfl (by kernel_rfl) (by kernel_rfl) (by kernel_rfl) (fun _ _ _ h => h) (by rfl) (by assumption) (fun W hW => exec_load1 (v := .int .i64 (n : Int)) FL3 rfl rfl hW) ?_; (try simp only [Act.put, List.setIfInBounds_toArray, List.set_cons_zero, List.set_cons_succ]))
        (refine takeW (i := 4) rfl (by kernel_rfl) (by kernel_rfl) (by kernel_rfl) (fun _ _ _ h => h) (by rfl) (by assumption) (fun W hW => exec_inc hn9 rfl rfl) ?_; (try simp only [Act.put, List.setIfInBounds_toArray, List.set_cons_zero, List.set_cons_succ]))
        (refine takeW (i := 5) (v := ?_) rfl (by kernel_rfl) (by kernel_rfl) (by kernel_rfl) (fun _ _ _ h => h) (by rfl) (by assumption) ?_ ?_; rotate_left; (intro W hW; (try dsimp only at hW); go_simp; try with_reducible rfl); (try simp only [Act.put, List.setIfInBounds_toArray, List.set_cons_zero, List.set_cons_succ]))
        (refine takeW (i := 6) (v := ?_) rfl (by kernel_rfl) (by kernel_rfl) (by kernel_rfl) (fun _ _ _ h => h) (by rfl) (by assumption) ?_ ?_; rotate_left; (intro W hW; (try dsimp only at hW); go_simp; try with_reducible rfl); (try simp only [Act.put, List.setIfInBounds_toArray, List.set_cons_zero, List.set_cons_succ]))
        (refine takeW (i := 7) (v := ?_) rfl (by kernel_rfl) (by kernel_rfl) (by kernel_rfl) (fun _ _ _ h => h) (by rfl) (by assumption) ?_ ?_; rotate_left; (intro W hW; (try dsimp only at hW); go_simp; try with_reducible rfl); (try simp only [Act.put, List.setIfInBounds_toArray, List.set_cons_zero, List.set_cons_succ]))
        refine wpAnyH_done (by kernel_rfl) ?_ _
        clear hHeld
        go_wp2
        go_ret3
        exact HPOB.out _ (n + 1) HB.out.drew HF.out
      · have hq2 : ((l.length : Int) == 256) = false := by simp; omega
        have HPN := Lib.hid (fun m => HP.out.bad (m := m) HNR.out hq)
        have HPX := Lib.hid (fun (y : Sx) (r' : List UInt8) (m : Nat) => HP.out.next (r' := r') (m := m) (y := y) HNR.out hq)
        have HLQ : Hid (l.length < 256) := by show _ < _; omega
        obtain ⟨q, hqq⟩ : ∃ q, q = l.length := ⟨_, rfl⟩
        rw [← hqq] at hq2 hvc1 ⊢
        have HQQ := Lib.hid hqq
        have HAA : Hid (a ≤ s.length) := ha
        clear hq hqq hl c1
        go_wp2_with (first | ((with_reducible show wpList _ _ _ (Oper.mk (some 15) _ _ _ _ _ :: _) _ _); refine wpList_val rfl (exec_load1 (v := .int .i64 (a : Int)) FL3 rfl rfl HC1.out) ?_) | ((with_reducible show wpList _ _ _ (Oper.mk (some 17) _ _ _ _ _ :: _) _ _); refine wpList_val rfl (exec_lenS rfl rfl) ?_) | (go_at_call 16; refine (rsnap_any br s a n wo HR.out HL9.out HAA.out HNB.out).mono ?_))
        rintro e W1 ⟨ok, a2, n2, y, rfl, hr, hg, hown, h2l, h2n, hmm⟩
        have HR1 := Lib.hid hr
        have HOY := Lib.hid (hown.le HB.out.size)
        have HMM := Lib.hid hmm
        have HA2 : Hid (a2 ≤ s.length) := h2l
        have HB1 : Hid (Below w.heap.size w W1) := HB.out.grown hg HB.out.size (fun k hk => by cases hk; exact HBR.out)
        have HO1 : Hid (W1.ownsRow w.heap.size 43 23 (.slice va l.length vc) l.length (l.flatMap fun y => encS y.s)) := own_fr HO.out (Fr.grown hg) (fun g hgo e => own_apart HO.out HR.out (by decide) g hgo e)
        have HX1 : Hid (∀ y ∈ l, OwnX w.heap.size W1 y) := fun y hy => (HX.out y hy).fr (Fr.grown hg) (fun j e => blkF HR.out (by decide) (by decide) e)
        clear hr hg hown h2l h2n hmm HR HO HX HB HP HNB hn9
        rw [← HQQ.out] at HO1
        go_upto_region 7 with ((with_reducible show wpList _ _ _ (Oper.mk none _ _ _ _ _ :: _) _ _); refine wpList_boxW W41 rfl rfl rfl (encS y.s) rfl rfl (encS_one _) rfl ?_; go_must (intro W2 HX2 hal hz2; have HX2 := Lib.hid HX2; have HAL := Lib.hid hal; clear hal hz2))
        obtain ⟨b7, hb7⟩ : ∃ b, b = W1.heap.size := ⟨_, rfl⟩
        rw [← hb7] at HX2 ⊢
        clear hb7
        have HR2 := Lib.hid (HR1.out.keep HAL.out)
        have HB2 := Lib.hid (HB1.out.trans (HAL.out.mono HB1.out.size))
        cases ok with
        | false =>
          have c1 : W2.cell? ⟨br, 2, none⟩ = some (.int .i64 (n2 : Int)) := HR2.out.list0 rfl
          have HD : Hid (parseT s = (none, n2)) := by
            have h1 := HMM.out
            generalize hs : snapP (s.drop a) n = o at h1
            obtain ⟨o, m⟩ := o
            cases o with
            | none => obtain ⟨_, rfl⟩ := h1; exact HPN.out _ hs
            | some p => obtain ⟨h2, _⟩ := h1; cases h2
          clear HMM
          go_upto_region 8 with fail
          refine wp_region_held_drew (S := (fun X => X.cell? ⟨br, 2, none⟩ = some (.int .i64 (n2 : Int)))) (by kernel_rfl) c1 (fun hHeld => ?_)
          (refine takeW (i := 0) (v := ?_) rfl (by kernel_rfl) (by kernel_rfl) (by kernel_rfl) (fun _ _ _ h => h) (by rfl) (by assumption) ?_ ?_; rotate_left; (intro W hW; (try dsimp only at hW); go_simp; try with_reducible rfl); (try simp only [Act.put, List.setIfInBounds_toArray, List.set_cons_zero, List.set_cons_succ]))
          (refine takeW (i := 1) (v := ?_) rfl (by kernel_rfl) (by kernel_rfl) (by kernel_rfl) (fun _ _ _ h => h) (by rfl) (by assumption) ?_ ?_; rotate_left; (intro W hW; (try dsimp only at hW); go_simp; try with_reducible rfl); (try simp only [Act.put, List.setIfInBounds_toArray, List.set_cons_zero, List.set_cons_succ]))
          (refine takeW (i := 2) (v := ?_) rfl (by kernel_rfl) (by kernel_rfl) (by kernel_rfl) (fun _ _ _ h => h) (by rfl) (by assumption) ?_ ?_; rotate_left; (intro W hW; (try dsimp only at hW); go_simp; try with_reducible rfl); (try simp only [Act.put, List.setIfInBounds_toArray, List.set_cons_zero, List.set_cons_succ]))
          (refine takeW (i := 3) rfl (by kernel_rfl) (by kernel_rfl) (by kernel_rfl) (fun _ _ _ h => h) (by rfl) (by assumption) (fun W hW => exec_load1 (v := .int .i64 (n2 : Int)) FL3 rfl rfl hW) ?_; (try simp only [Act.put, List.setIfInBounds_toArray, List.set_cons_zero, List.set_cons_succ]))
          (refine takeW (i := 4) (v := ?_) rfl (by kernel_rfl) (by kernel_rfl) (by kernel_rfl) (fun _ _ _ h => h) (by rfl) (by assumption) ?_ ?_; rotate_left; (intro W hW; (try dsimp only at hW); go_simp; try with_reducible rfl); (try simp only [Act.put, List.setIfInBounds_toArray, List.set_cons_zero, List.set_cons_succ]))
          (refine takeW (i := 5) (v := ?_) rfl (by kernel_rfl) (by kernel_rfl) (by kernel_rfl) (fun _ _ _ h => h) (by rfl) (by assumption) ?_ ?_; rotate_left; (intro W hW; (try dsimp only at hW); go_simp; try with_reducible rfl); (try simp only [Act.put, List.setIfInBounds_toArray, List.set_cons_zero, List.set_cons_succ]))
          (refine takeW (i := 6) (v := ?_) rfl (by kernel_rfl) (by kernel_rfl) (by kernel_rfl) (fun _ _ _ h => h) (by rfl) (by assumption) ?_ ?_; rotate_left; (intro W hW; (try dsimp only at hW); go_simp; try with_reducible rfl); (try simp only [Act.put, List.setIfInBounds_toArray, List.set_cons_zero, List.set_cons_succ]))
          refine wpAnyH_done (by kernel_rfl) ?_ _
          clear hHeld
          go_wp2
          go_ret3
          exact HPOB.out _ n2 HB2.out.drew HD.out
        | true =>
          have HD : Hid (ParseAt s (l ++ [y]) (s.drop a2) n2 ∧ (s.drop a2).length < (s.drop a).length ∧ n2 + (s.length - a2) ≤ 999999999) := by
            have h1 := HMM.out
            generalize hs : snapP (s.drop a) n = o at h1
            obtain ⟨o, m⟩ := o
            cases o with
            | none => obtain ⟨h2, _⟩ := h1; cases h2
            | some p =>
              obtain ⟨x, r⟩ := p
              obtain ⟨_, rfl, rfl, h5, rfl⟩ := h1
              obtain ⟨e1, e2⟩ := HPX.out y _ _ hs
              exact ⟨e1, e2, h5⟩
          have HCB : Hid (∀ j u, (encS y.s)[j]? = some u → W2.cell? ⟨b7, 0 + j, none⟩ = some u) := HX2.out.list
          have HOW : Hid (W2.ownsRow w.heap.size 43 23 (.slice va q vc) q (l.flatMap fun y => encS y.s)) := ow_below HO1.out HAL.out
          have HWS : Hid (w.heap.size ≤ W2.heap.size) := HB2.out.size
          have hq7 : q ≤ 256 := by have := HLQ.out; have := HQQ.out; omega
          have HXY : Hid (∀ z ∈ l ++ [y], OwnX w.heap.size W2 z) := fun z hz => by
            rcases List.mem_append.1 hz with h | h
            · exact (HX1.out z h).below HAL.out
            · rw [List.mem_singleton.1 h]; exact HOY.out.below HAL.out
          clear HMM HX2 HO1 HX1 HAL HR1 HB1 HOY
          go_wp2_with (first | ((with_reducible show wpList _ _ _ (Oper.mk (some 39) _ _ _ _ _ :: _) _ _); refine wpList_loadW W41 rfl rfl (x := .tmp 7) rfl (encS y.s) rfl HCB.out ?_) | ((with_reducible show wpList _ _ _ (Oper.mk (some 40) _ _ _ _ _ :: _) _ _); refine wpList_sliceW E22 (by decide) rfl rfl (encS y.s) rfl rfl ?_) | ((with_reducible show wpList _ _ _ (Oper.mk (some 41) _ _ _ _ _ :: _) _ _); refine wpList_app1 E22 rfl _ _ rfl HOW.out (encS y.s) rfl (encS_one _) rfl rfl (by omega) HWS.out ?_; intro v9 W9 ho9 hg9; have HO9 := Lib.hid ho9; have HG9 := Lib.hid hg9; clear ho9 hg9))
          have HS9 : Hid (Fr (fun j => (Value.slice va q vc).ownBlock = some j) W2 W9) := Fr.grownO HG9.out
          have HR9 : Hid (Blk W9 br 56 (rfC s a2 n2).toArray) := HR2.out.fr HS9.out (fun e => own_blk_ne HOW.out HR2.out (by decide) e)
          have HB9 : Hid (Below w.heap.size w W9) := HB2.out.grown HG9.out HWS.out (fun k hk => (HOW.out.lt k hk).1)
          have HX9 : Hid (∀ z ∈ l ++ [y], OwnX w.heap.size W9 z) := fun z hz => by
            have h := HXY.out z hz
            have far : ∀ {e : TypeId} {st n : Nat} {v : Value} {xs : List Value}, e ≠ 43 → W2.ownsRow w.heap.size e st v n xs → W9.ownsRow w.heap.size e st v n xs := fun he h => own_fr h HS9.out (fun g hg e2 => own_own h HOW.out he g hg e2)
            exact ⟨far (by decide) h.out, h.ob, far (by decide) h.inn, fun m hm => ⟨far (by decide) (h.each m hm).1, (h.each m hm).2⟩⟩
          have HQ9 : Hid (W9.ownsRow w.heap.size 43 23 v9 (l ++ [y]).length ((l ++ [y]).flatMap fun y => encS y.s)) := by
            have := HO9.out
            rw [HQQ.out] at this
            exact Lib.hid (by simpa using this)
          have e1 : restLen br s.length W9 = s.length - a2 := restLen_of (HR9.out.list0 rfl)
          have e2 : restLen br s.length wo = s.length - a := restLen_of HC1.out
          have HDD : Hid (s.length - a2 < s.length - a) := by have := HD.out.2.1; rw [List.length_drop, List.length_drop] at this; exact this
          clear HS9 HG9 HO9 HOW HXY HB2 HR2 HCB
          go_wp2
          go_roundw
          case rel => exact ⟨l ++ [y], a2, n2, HQ9, HX9, HR9, HA2.out, Lib.hid HD.out.2.2, HB9, Lib.hid HD.out.1, by have := HLQ.out; simp; omega⟩
          case measure => rw [e1, e2]; exact HDD.out
end Go.Proofs.YtjaaldeaknmmbaaDoor
