/- Whether all faults are of two kinds and of one node, by the document. -/
import Derived.Test.YtmflnbdajaiahaaF12
namespace Go.Proofs.Ytmflnbdajaiahaa
open Go.RowKit Go.Shelf
open Md

def isOne (a b : Int) (h x : Fa) : Bool := (decide (x.k = a) || decide (x.k = b)) && decide (x.n = h.n)
def alikeL (a b : Int) (L : List Fa) : Bool := L.all (isOne a b (L.getD 0 F0))
def oneF (m : Me) (a b : Int) (l : List Fa) : Bool := if okM m then alikeL a b (cleanF m l) else false
set_option maxRecDepth 100000 in
set_option maxHeartbeats 1600000 in
theorem rone_any (m : Me) (a b : Int) (v : Value) (l : List Fa) (w : World) (hm : GoodMe w m) (hv : Rd encF 7 w v l) (hl : l.length ≤ 8192) :
    Calls Try.prog 24 #[mev m, v, .int .i64 a, .int .i64 b] w fun e w' => e = .returned (.bool (oneF m a b l)) ∧ Below w.heap.size w w' := by
  have HP : Hid (∀ w' c, Below w.heap.size w w' → c = oneF m a b l → (fun e w' => e = Ending.returned (.bool (oneF m a b l)) ∧ Below w.heap.size w w') (.returned (.bool c)) w') := fun w' c h hc => by subst hc; exact ⟨rfl, h⟩
  generalize (fun e w' => e = Ending.returned (.bool (oneF m a b l)) ∧ Below w.heap.size w w') = POST at *
  have HV := Lib.hid hv
  have HG := Lib.hid hm
  have HLL := Lib.hid hl
  have HB0 := Lib.hid (below1 w (.cells (encMe m).toArray 25))
  have HM0 : Hid (Blk (w.alloc (.cells (encMe m).toArray 25)) w.heap.size 25 (encMe m).toArray) := Blk.new' rfl
  clear hv hm hl
  change Calls Try.prog 24 #[.agg (encMe m).toArray, v, .int .i64 a, .int .i64 b] w POST
  go_enter Try.func24, Try.ntmps24
  go_upto_region 1 with fail
  change Code.wp _ _ _ _ (w.alloc (.cells (encMe m).toArray 25))
  generalize w.alloc (.cells (encMe m).toArray 25) = W0 at *
  go_wp2_with ((with_reducible show wpList _ _ _ (Oper.mk (some 10) _ _ _ _ _ :: _) _ _); refine wpList_loadW W25 rfl rfl rfl (encMe m) rfl HM0.out.list ?_)
  refine (rcheck7_any m W0 (HG.out.below HB0.out)).mono ?_
  rintro e W1 ⟨rfl, hb1⟩
  have HB1 := Lib.hid (HB0.out.trans (hb1.mono HB0.out.size))
  have HM1 := Lib.hid (HM0.out.keep hb1)
  clear hb1 HM0 HB0
  by_cases hok : okM m = true
  · have HONE : Hid (oneF m a b l = alikeL a b (cleanF m l)) := if_pos hok
    rw [show errM m = 0 from if_pos hok]
    clear hok
    go_wp2_with ((with_reducible show wpList _ _ _ (Oper.mk (some 13) _ _ _ _ _ :: _) _ _); refine wpList_loadW W25 rfl rfl rfl (encMe m) rfl HM1.out.list ?_)
    refine (rclean_any m v l W1 (HG.out.below HB1.out) (HV.out.below HB1.out) HLL.out).mono ?_
    rintro e W2 ⟨⟨v1, rfl, ho⟩, hb2⟩
    have HB2 := Lib.hid (HB1.out.trans (hb2.mono HB1.out.size))
    have HCLN : Hid ((cleanF m l).length ≤ l.length) := by
      show _ ≤ _
      rw [cleanF_pm]
      have h1 := fold_len (l.filter (pm m)) []
      have h2 := List.length_filter_le (pm m) l
      simp only [List.length_nil, Nat.add_zero] at h1
      omega
    obtain ⟨L, hL⟩ : ∃ L, L = cleanF m l := ⟨_, rfl⟩
    rw [← hL] at ho HONE HCLN
    have HR := Lib.hid (Rd.of_owns encF_len ho (by have := HCLN.out; have := HLL.out; omega))
    clear hL ho hb2 HM1 HB1 HV HG
    obtain ⟨la, lc, rfl, hlc, hlcm, -⟩ := HR.out.shape
    obtain ⟨h, hh⟩ : ∃ h, h = L.getD 0 F0 := ⟨_, rfl⟩
    have HALL : Hid (alikeL a b L = L.all (isOne a b h)) := by show _ = _; rw [hh]; rfl
    have HH := Lib.hid hh
    clear hh
    obtain ⟨n, hn⟩ : ∃ n, n = L.length := ⟨_, rfl⟩
    rw [← hn] at hlc HR ⊢
    have HN := Lib.hid hn
    clear hn
    go_wp2_with fail
    go_loopw [9] (fun i wr => ∃ k : Nat, k ≤ n ∧ i = .int .i64 k ∧ Hid ((L.take k).all (isOne a b h) = true) ∧ Hid (Below W2.heap.size W2 wr)) (fun i _ => n - (intOf i).toNat)
    case atStart => exact ⟨0, by omega, rfl, rfl, Below.refl _ _⟩
    case round =>
      obtain ⟨k, hk, rfl, HAL, HW⟩ := hrel
      obtain ⟨wo, rfl⟩ : ∃ wo : World, wo = wr := ⟨_, rfl⟩
      have HBW : Hid (∀ nq, Below w.heap.size w (wo.drewN nq)) := fun nq => below_drewN' (HB2.out.trans (HW.out.mono HB2.out.size)) nq
      have HBN : Hid (∀ nq, Below W2.heap.size W2 (wo.drewN nq)) := fun nq => below_drewN' HW.out nq
      by_cases hlt : k < n
      · obtain ⟨x, hx⟩ : ∃ x, L[k]? = some x := ⟨_, List.getElem?_eq_getElem (by have := HN.out; omega)⟩
        have hx0 : L[0]? = some h := by
          have h0 : 0 < L.length := by have := HN.out; omega
          have := HH.out
          rw [List.getD_eq_getElem?_getD, List.getElem?_eq_getElem h0] at this
          rw [List.getElem?_eq_getElem h0, this]
          rfl
        obtain ⟨bl, off, rfl, hbl, hc⟩ := (HR.out.below HW.out).row (by rintro rfl; simp at hx)
        have ck : wo.cell? ⟨bl, off + k * 7, none⟩ = some (.int .i64 x.k) := hc k x hx 0 _ rfl
        have cn : wo.cell? ⟨bl, off + k * 7 + 1, none⟩ = some (.int .i64 x.n) := hc k x hx 1 _ rfl
        have c0 : wo.cell? ⟨bl, off + 1, none⟩ = some (.int .i64 h.n) := by have := hc 0 h hx0 1 _ rfl; simpa using this
        have HTK : Hid ((L.take (k + 1)).all (isOne a b h) = ((L.take k).all (isOne a b h) && isOne a b h x)) := by show _ = _; rw [take_snoc hx, List.all_append]; simp
        have HNO : Hid (isOne a b h x = false → oneF m a b l = false) := fun e => by
          rw [HONE.out, HALL.out, List.all_eq_false]
          exact ⟨x, List.mem_of_getElem? hx, by simp [e]⟩
        have hkn : (k : Int) < (n : Int) := by omega
        have h0n : (0 : Int) < (n : Int) := by omega
        clear hx hx0 hc
        by_cases ha : x.k = a
        · have ea : (x.k != a) = false := by simp [ha]
          by_cases hn : x.n = h.n
          · have en : (x.n != h.n) = false := by simp [hn]
            have HAL2 : Hid ((L.take (k + 1)).all (isOne a b h) = true) := by show _ = _; rw [HTK.out, HAL.out]; simp [isOne, ha, hn]
            clear HTK HAL HNO ha hn
            go_upto_region 7 with fail
            go_quiet (fail)
            go_wp2
            go_roundw
            case rel => exact ⟨k + 1, by omega, by go_num, HAL2, HBN.out _⟩
            case measure => simp [intOf]; omega
          · have en : (x.n != h.n) = true := by simp [hn]
            have HE : Hid (oneF m a b l = false) := HNO.out (by simp [isOne, ha, hn])
            clear HTK HAL HNO ha hn
            go_upto_region 7 with fail
            go_quiet (fail)
            go_wp2
            exact HP.out _ _ (HBW.out _) HE.out.symm
        · have ea : (x.k != a) = true := by simp [ha]
          by_cases hb : x.k = b
          · have eb : (x.k != b) = false := by simp [hb]
            by_cases hn : x.n = h.n
            · have en : (x.n != h.n) = false := by simp [hn]
              have HAL2 : Hid ((L.take (k + 1)).all (isOne a b h) = true) := by show _ = _; rw [HTK.out, HAL.out]; simp [isOne, hb, hn]
              clear HTK HAL HNO ha hb hn
              go_upto_region 7 with fail
              go_quiet (fail)
              go_wp2
              go_roundw
              case rel => exact ⟨k + 1, by omega, by go_num, HAL2, HBN.out _⟩
              case measure => simp [intOf]; omega
            · have en : (x.n != h.n) = true := by simp [hn]
              have HE : Hid (oneF m a b l = false) := HNO.out (by simp [isOne, hb, hn])
              clear HTK HAL HNO ha hb hn
              go_upto_region 7 with fail
              go_quiet (fail)
              go_wp2
              exact HP.out _ _ (HBW.out _) HE.out.symm
          · have eb : (x.k != b) = true := by simp [hb]
            have HE : Hid (oneF m a b l = false) := HNO.out (by simp [isOne, ha, hb])
            clear HTK HAL HNO ha hb
            go_upto_region 7 with fail
            go_quiet (fail)
            go_wp2
            exact HP.out _ _ (HBW.out _) HE.out.symm
      · obtain rfl : n = k := by omega
        have HE : Hid (true = oneF m a b l) := by
          show _ = _
          rw [HONE.out, HALL.out, ← HAL.out, List.take_of_length_le (by have := HN.out; omega)]
        have HBF := Lib.hid (HB2.out.trans (HW.out.mono HB2.out.size))
        clear HAL hlt hk
        go_wp2
        exact HP.out _ _ HBF.out HE.out
  · have HE : Hid (false = oneF m a b l) := (if_neg hok).symm
    rw [show errM m = 70 from if_neg hok]
    clear hok
    go_wp2
    exact HP.out _ _ HB1.out HE.out
theorem rstar_any (m : Me) (v : Value) (l : List Fa) (w : World) (hm : GoodMe w m) (hv : Rd encF 7 w v l) (hl : l.length ≤ 8192) :
    Calls Try.prog 11 #[mev m, v] w fun e w' => e = .returned (.bool (oneF m 7 8 l)) ∧ Below w.heap.size w w' := by
  have HB0 := Lib.hid (below1 w (.cells (encMe m).toArray 25))
  have HM0 : Hid (Blk (w.alloc (.cells (encMe m).toArray 25)) w.heap.size 25 (encMe m).toArray) := Blk.new' rfl
  have HC := Lib.hid (rone_any m 7 8 v l (w.alloc (.cells (encMe m).toArray 25)) (hm.below HB0.out) (hv.below HB0.out) hl)
  clear hm hv
  change Calls Try.prog 11 #[.agg (encMe m).toArray, v] w _
  go_enter Try.func11, Try.ntmps11
  go_upto_region 1 with fail
  change Code.wp _ _ _ _ (w.alloc (.cells (encMe m).toArray 25))
  generalize w.alloc (.cells (encMe m).toArray 25) = W0 at *
  go_wp2_with ((with_reducible show wpList _ _ _ (Oper.mk (some 5) _ _ _ _ _ :: _) _ _); refine wpList_loadW W25 rfl rfl rfl (encMe m) rfl HM0.out.list ?_)
  refine HC.out.mono ?_
  rintro e W1 ⟨rfl, hb1⟩
  have HB1 := Lib.hid (HB0.out.trans (hb1.mono HB0.out.size))
  clear hb1
  go_wp2
  go_ret
  exact ⟨rfl, HB1.out⟩
theorem rloud_any (m : Me) (v : Value) (l : List Fa) (w : World) (hm : GoodMe w m) (hv : Rd encF 7 w v l) (hl : l.length ≤ 8192) :
    Calls Try.prog 13 #[mev m, v] w fun e w' => e = .returned (.bool (oneF m 9 10 l)) ∧ Below w.heap.size w w' := by
  have HB0 := Lib.hid (below1 w (.cells (encMe m).toArray 25))
  have HM0 : Hid (Blk (w.alloc (.cells (encMe m).toArray 25)) w.heap.size 25 (encMe m).toArray) := Blk.new' rfl
  have HC := Lib.hid (rone_any m 9 10 v l (w.alloc (.cells (encMe m).toArray 25)) (hm.below HB0.out) (hv.below HB0.out) hl)
  clear hm hv
  change Calls Try.prog 13 #[.agg (encMe m).toArray, v] w _
  go_enter Try.func13, Try.ntmps13
  go_upto_region 1 with fail
  change Code.wp _ _ _ _ (w.alloc (.cells (encMe m).toArray 25))
  generalize w.alloc (.cells (encMe m).toArray 25) = W0 at *
  go_wp2_with ((with_reducible show wpList _ _ _ (Oper.mk (some 5) _ _ _ _ _ :: _) _ _); refine wpList_loadW W25 rfl rfl rfl (encMe m) rfl HM0.out.list ?_)
  refine HC.out.mono ?_
  rintro e W1 ⟨rfl, hb1⟩
  have HB1 := Lib.hid (HB0.out.trans (hb1.mono HB0.out.size))
  clear hb1
  go_wp2
  go_ret
  exact ⟨rfl, HB1.out⟩
end Go.Proofs.Ytmflnbdajaiahaa
