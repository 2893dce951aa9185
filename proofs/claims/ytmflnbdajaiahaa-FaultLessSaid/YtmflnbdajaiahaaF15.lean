/- What both networks bear, by the document. -/
import Derived.Test.YtmflnbdajaiahaaF14
import Derived.Test.YtmflnbdajaiahaaF13
namespace Go.Proofs.Ytmflnbdajaiahaa
open Go.RowKit Go.Shelf
open Md

/-- How a cluster is, as faults come, by the document. -/
structure Rt where
  wl : Int
  o : Int
  lo : Int
  si : Int
def nextR (t : Rt) (f : Fa) : Option Rt :=
  if 6 < f.k then none
  else if 0 ≤ t.o then (if f.k = 2 then (if f.n = t.o then (if f.r ≤ t.si then none else some ⟨f.r + 4, -1, t.lo, t.si⟩) else none) else none)
  else if 0 ≤ t.lo then (if f.k = 1 then (if f.n = t.lo then (if f.r < t.si + 2 then none else some ⟨t.wl, t.lo, -1, f.r⟩) else none) else none)
  else if f.k = 2 then none
  else if f.r < t.wl then none
  else if f.k = 1 then some ⟨t.wl, f.n, t.lo, f.r⟩
  else if f.k = 6 then some ⟨t.wl, t.o, f.n, f.r⟩
  else some ⟨f.r + 3, t.o, t.lo, t.si⟩
def runR : Rt → List Fa → Bool
  | _, [] => true
  | t, f :: l => match nextR t f with
    | none => false
    | some t' => runR t' l
def rbusF (m : Me) (l : List Fa) : Bool := if okM m then runR ⟨0, -1, -1, 0⟩ (cleanF m l) else false
theorem limP_n (m : Me) (k : Int) : ∃ q ls, limP m k = (0, q) :: ls := by unfold limP; repeat' first | exact ⟨_, _, rfl⟩ | split
theorem mayF_bd {m : Me} {f : Fa} (h : mayF m f = true) : 0 ≤ f.r ∧ f.r < 16 ∧ 0 ≤ f.n := by
  obtain ⟨q, ls, hl⟩ := limP_n m f.k
  unfold mayF at h
  rw [hl] at h
  simp [inAll] at h
  omega
theorem clean_may {m : Me} {l : List Fa} {x : Fa} (h : x ∈ cleanF m l) : mayF m x = true := by
  unfold cleanF at h
  split at h
  · exact ((cleanB_mem _ _ _).1 h).2
  · simp at h
set_option maxRecDepth 100000 in
set_option maxHeartbeats 3200000 in
theorem rbus_any (m : Me) (v : Value) (l : List Fa) (w : World) (hm : GoodMe w m) (hv : Rd encF 7 w v l) (hl : l.length ≤ 8192) :
    Calls Try.prog 9 #[mev m, v] w fun e w' => e = .returned (.bool (rbusF m l)) ∧ Below w.heap.size w w' := by
  have HP : Hid (∀ w' c, Below w.heap.size w w' → c = rbusF m l → (fun e w' => e = Ending.returned (.bool (rbusF m l)) ∧ Below w.heap.size w w') (.returned (.bool c)) w') := fun w' c h hc => by subst hc; exact ⟨rfl, h⟩
  generalize (fun e w' => e = Ending.returned (.bool (rbusF m l)) ∧ Below w.heap.size w w') = POST at *
  have HV := Lib.hid hv
  have HG := Lib.hid hm
  have HLL := Lib.hid hl
  have HB0 := Lib.hid (below1 w (.cells (encMe m).toArray 25))
  have HM0 : Hid (Blk (w.alloc (.cells (encMe m).toArray 25)) w.heap.size 25 (encMe m).toArray) := Blk.new' rfl
  clear hv hm hl
  change Calls Try.prog 9 #[.agg (encMe m).toArray, v] w POST
  go_enter Try.func9, Try.ntmps9
  go_upto_region 1 with fail
  change Code.wp _ _ _ _ (w.alloc (.cells (encMe m).toArray 25))
  generalize w.alloc (.cells (encMe m).toArray 25) = W0 at *
  go_wp2_with ((with_reducible show wpList _ _ _ (Oper.mk (some 11) _ _ _ _ _ :: _) _ _); refine wpList_loadW W25 rfl rfl rfl (encMe m) rfl HM0.out.list ?_)
  refine (rcheck7_any m W0 (HG.out.below HB0.out)).mono ?_
  rintro e W1 ⟨rfl, hb1⟩
  have HB1 := Lib.hid (HB0.out.trans (hb1.mono HB0.out.size))
  have HM1 := Lib.hid (HM0.out.keep hb1)
  clear hb1 HM0 HB0
  by_cases hok : okM m = true
  · have HBUS : Hid (rbusF m l = runR ⟨0, -1, -1, 0⟩ (cleanF m l)) := if_pos hok
    rw [show errM m = 0 from if_pos hok]
    clear hok
    go_wp2_with ((with_reducible show wpList _ _ _ (Oper.mk (some 14) _ _ _ _ _ :: _) _ _); refine wpList_loadW W25 rfl rfl rfl (encMe m) rfl HM1.out.list ?_)
    refine (rclean_any m v l W1 (HG.out.below HB1.out) (HV.out.below HB1.out) HLL.out).mono ?_
    rintro e W2 ⟨⟨v1, rfl, ho⟩, hb2⟩
    have HB2 := Lib.hid (HB1.out.trans (hb2.mono HB1.out.size))
    have HCLN : Hid ((cleanF m l).length ≤ l.length) := by
      show _ ≤ _
      rw [cleanF_pm]
      have h1 := fold_len (l.filter (pm m)) []
      have h2 := List.length_filter_le (pm m) l
      simp only [List.length_nil, Nat.add_zero] at h1
      omega
    have HMAY : Hid (∀ x ∈ cleanF m l, mayF m x = true) := fun x hx => clean_may hx
    obtain ⟨L, hL⟩ : ∃ L, L = cleanF m l := ⟨_, rfl⟩
    rw [← hL] at ho HBUS HCLN HMAY
    have HR := Lib.hid (Rd.of_owns encF_len ho (by have := HCLN.out; have := HLL.out; omega))
    clear hL ho hb2 HM1 HB1 HV HG
    obtain ⟨la, lc, rfl, hlc, hlcm, -⟩ := HR.out.shape
    obtain ⟨n0, hn⟩ : ∃ n0, n0 = L.length := ⟨_, rfl⟩
    rw [← hn] at hlc HR ⊢
    have HN := Lib.hid hn
    clear hn
    go_wp2_with fail
    go_loopw [5, 6, 7, 8, 9] (fun u5 u6 u7 u8 i wr => ∃ (j : Nat) (t : Rt), j ≤ n0 ∧ u5 = .int .i64 t.wl ∧ u6 = .int .i64 t.o ∧ u7 = .int .i64 t.lo ∧ u8 = .int .i64 t.si ∧ i = .int .i64 j ∧ Hid (0 ≤ t.si ∧ t.si < 16) ∧ Hid (rbusF m l = runR t (L.drop j)) ∧ Hid (Below W2.heap.size W2 wr)) (fun _ _ _ _ i _ => n0 - (intOf i).toNat)
    case atStart => exact ⟨0, ⟨0, -1, -1, 0⟩, by omega, rfl, rfl, rfl, rfl, rfl, ⟨by decide, by decide⟩, HBUS, Below.refl _ _⟩
    case round =>
      obtain ⟨j, ⟨wl, o, lo, si⟩, hj, rfl, rfl, rfl, rfl, rfl, HSI, HRUN, HW⟩ := hrel
      obtain ⟨wo, rfl⟩ : ∃ wo : World, wo = wr := ⟨_, rfl⟩
      simp only at HSI
      by_cases hlt : j < n0
      · obtain ⟨x, hx⟩ : ∃ x, L[j]? = some x := ⟨_, List.getElem?_eq_getElem (by have := HN.out; omega)⟩
        have hbd := mayF_bd (HMAY.out x (List.mem_of_getElem? hx))
        have hdr : L.drop j = x :: L.drop (j + 1) := by
          have h0 := List.getElem?_eq_some_iff.1 hx
          obtain ⟨h0, e0⟩ := h0
          rw [List.drop_eq_getElem_cons h0, e0]
        have HNO : Hid (nextR ⟨wl, o, lo, si⟩ x = none → rbusF m l = false) := fun e => by rw [HRUN.out, hdr]; show (match nextR _ x with | none => false | some t' => runR t' _) = false; rw [e]
        have HST : Hid (∀ t', nextR ⟨wl, o, lo, si⟩ x = some t' → rbusF m l = runR t' (L.drop (j + 1))) := fun t' e => by rw [HRUN.out, hdr]; show (match nextR _ x with | none => false | some t' => runR t' _) = _; rw [e]
        obtain ⟨bl, off, rfl, hbl, hc⟩ := (HR.out.below HW.out).row (by rintro rfl; simp at hx)
        have HC := Lib.hid (hc j x hx)
        clear hx hdr hc HRUN
        go_upto_region 13 with (first | ((with_reducible show wpList _ _ _ (Oper.mk (some 26) _ _ _ _ _ :: _) _ _); refine wpList_loadW W33 rfl rfl rfl (encF x) rfl HC.out ?_) | ((with_reducible show wpList _ _ _ (Oper.mk none (Op.store 33 _ _) _ _ _ _ :: _) _ _); refine wpList_boxW W33 rfl rfl rfl (encF x) rfl rfl (encF_one _) rfl ?_; intro W3 hbx hbel hsz; have HBX := Lib.hid hbx; have HE3 := Lib.hid hbel; clear hbx hbel hsz))
        have HBN : Hid (Below W2.heap.size W2 W3) := HW.out.trans (HE3.out.mono HW.out.size)
        have HBW : Hid (Below w.heap.size w W3) := HB2.out.trans (HBN.out.mono HB2.out.size)
        generalize wo.heap.size = bx at *
        obtain ⟨k, n, c, r, s, a, b⟩ := x
        simp only at hbd
        have ck : W3.cell? ⟨bx, 0, none⟩ = some (.int .i64 k) := HBX.out.list0 rfl
        have cn : W3.cell? ⟨bx, 1, none⟩ = some (.int .i64 n) := HBX.out.list0 rfl
        have cr : W3.cell? ⟨bx, 3, none⟩ = some (.int .i64 r) := HBX.out.list0 rfl
        have HR16 : Hid (0 ≤ r ∧ r < 16) := ⟨hbd.1, hbd.2.1⟩
        have hw4 : IntKind.i64.wrap (r + 4) = r + 4 := IntWalk.i64_in _ (by omega)
        have hw3 : IntKind.i64.wrap (r + 3) = r + 3 := IntWalk.i64_in _ (by omega)
        have hw2 : IntKind.i64.wrap (si + 2) = si + 2 := IntWalk.i64_in _ (by have := HSI.out; omega)
        clear hbd HBX HC HE3 HW
        by_cases h0 : 6 < k
        · have HNR : Hid (nextR ⟨wl, o, lo, si⟩ ⟨k, n, c, r, s, a, b⟩ = none) := by show _ = _; unfold nextR; simp [h0]
          have d0 : decide (6 < k) = true := by simp; omega
          have HE := Lib.hid (HNO.out HNR.out)
          clear HNR HST HNO
          go_wp2
          exact HP.out _ _ HBW.out HE.out.symm
        · by_cases h1 : 0 ≤ o
          · by_cases h2 : k = 2
            · by_cases h3 : n = o
              · by_cases h4 : r ≤ si
                · have HNR : Hid (nextR ⟨wl, o, lo, si⟩ ⟨k, n, c, r, s, a, b⟩ = none) := by show _ = _; unfold nextR; simp [h1, h2, h3, h4]
                  have d0 : decide (6 < k) = false := by simp; omega
                  have d1 : decide (0 ≤ o) = true := by simp; omega
                  have e2 : (k != 2) = false := by simp; omega
                  have e3 : (n != o) = false := by simp; omega
                  have d4 : decide (r ≤ si) = true := by simp; omega
                  have HE := Lib.hid (HNO.out HNR.out)
                  clear HNR HST HNO
                  go_wp2
                  exact HP.out _ _ HBW.out HE.out.symm
                · have HNR : Hid (nextR ⟨wl, o, lo, si⟩ ⟨k, n, c, r, s, a, b⟩ = some ⟨r + 4, -1, lo, si⟩) := by show _ = _; unfold nextR; simp [h1, h2, h3, h4]
                  have d0 : decide (6 < k) = false := by simp; omega
                  have d1 : decide (0 ≤ o) = true := by simp; omega
                  have e2 : (k != 2) = false := by simp; omega
                  have e3 : (n != o) = false := by simp; omega
                  have d4 : decide (r ≤ si) = false := by simp; omega
                  have HE := Lib.hid (HST.out _ HNR.out)
                  clear HNR HST HNO
                  go_wp2
                  go_roundw
                  case rel => exact ⟨j + 1, ⟨r + 4, -1, lo, si⟩, by omega, rfl, rfl, rfl, rfl, by go_num, HSI, HE, HBN⟩
                  case measure => simp [intOf]; omega
              · have HNR : Hid (nextR ⟨wl, o, lo, si⟩ ⟨k, n, c, r, s, a, b⟩ = none) := by show _ = _; unfold nextR; simp [h1, h2, h3]
                have d0 : decide (6 < k) = false := by simp; omega
                have d1 : decide (0 ≤ o) = true := by simp; omega
                have e2 : (k != 2) = false := by simp; omega
                have e3 : (n != o) = true := by simp; omega
                have HE := Lib.hid (HNO.out HNR.out)
                clear HNR HST HNO
                go_wp2
                exact HP.out _ _ HBW.out HE.out.symm
            · have HNR : Hid (nextR ⟨wl, o, lo, si⟩ ⟨k, n, c, r, s, a, b⟩ = none) := by show _ = _; unfold nextR; simp [h0, h1, h2]
              have d0 : decide (6 < k) = false := by simp; omega
              have d1 : decide (0 ≤ o) = true := by simp; omega
              have e2 : (k != 2) = true := by simp; omega
              have HE := Lib.hid (HNO.out HNR.out)
              clear HNR HST HNO
              go_wp2
              exact HP.out _ _ HBW.out HE.out.symm
          · by_cases h2 : 0 ≤ lo
            · by_cases h3 : k = 1
              · by_cases h4 : n = lo
                · by_cases h5 : r < si + 2
                  · have HNR : Hid (nextR ⟨wl, o, lo, si⟩ ⟨k, n, c, r, s, a, b⟩ = none) := by show _ = _; unfold nextR; simp [h1, h2, h3, h4, h5]
                    have d0 : decide (6 < k) = false := by simp; omega
                    have d1 : decide (0 ≤ o) = false := by simp; omega
                    have d2 : decide (0 ≤ lo) = true := by simp; omega
                    have e3 : (k != 1) = false := by simp; omega
                    have e4 : (n != lo) = false := by simp; omega
                    have d5 : decide (r < si + 2) = true := by simp; omega
                    have HE := Lib.hid (HNO.out HNR.out)
                    clear HNR HST HNO
                    go_wp2
                    exact HP.out _ _ HBW.out HE.out.symm
                  · have HNR : Hid (nextR ⟨wl, o, lo, si⟩ ⟨k, n, c, r, s, a, b⟩ = some ⟨wl, lo, -1, r⟩) := by show _ = _; unfold nextR; simp [h1, h2, h3, h4, h5]
                    have d0 : decide (6 < k) = false := by simp; omega
                    have d1 : decide (0 ≤ o) = false := by simp; omega
                    have d2 : decide (0 ≤ lo) = true := by simp; omega
                    have e3 : (k != 1) = false := by simp; omega
                    have e4 : (n != lo) = false := by simp; omega
                    have d5 : decide (r < si + 2) = false := by simp; omega
                    have HE := Lib.hid (HST.out _ HNR.out)
                    clear HNR HST HNO
                    go_wp2
                    go_roundw
                    case rel => exact ⟨j + 1, ⟨wl, lo, -1, r⟩, by omega, rfl, rfl, rfl, rfl, by go_num, HR16, HE, HBN⟩
                    case measure => simp [intOf]; omega
                · have HNR : Hid (nextR ⟨wl, o, lo, si⟩ ⟨k, n, c, r, s, a, b⟩ = none) := by show _ = _; unfold nextR; simp [h1, h2, h3, h4]
                  have d0 : decide (6 < k) = false := by simp; omega
                  have d1 : decide (0 ≤ o) = false := by simp; omega
                  have d2 : decide (0 ≤ lo) = true := by simp; omega
                  have e3 : (k != 1) = false := by simp; omega
                  have e4 : (n != lo) = true := by simp; omega
                  have HE := Lib.hid (HNO.out HNR.out)
                  clear HNR HST HNO
                  go_wp2
                  exact HP.out _ _ HBW.out HE.out.symm
              · have HNR : Hid (nextR ⟨wl, o, lo, si⟩ ⟨k, n, c, r, s, a, b⟩ = none) := by show _ = _; unfold nextR; simp [h0, h1, h2, h3]
                have d0 : decide (6 < k) = false := by simp; omega
                have d1 : decide (0 ≤ o) = false := by simp; omega
                have d2 : decide (0 ≤ lo) = true := by simp; omega
                have e3 : (k != 1) = true := by simp; omega
                have HE := Lib.hid (HNO.out HNR.out)
                clear HNR HST HNO
                go_wp2
                exact HP.out _ _ HBW.out HE.out.symm
            · by_cases h3 : k = 2
              · have HNR : Hid (nextR ⟨wl, o, lo, si⟩ ⟨k, n, c, r, s, a, b⟩ = none) := by show _ = _; unfold nextR; simp [h1, h2, h3]
                have d0 : decide (6 < k) = false := by simp; omega
                have d1 : decide (0 ≤ o) = false := by simp; omega
                have d2 : decide (0 ≤ lo) = false := by simp; omega
                have e3 : (k == 2) = true := by simp; omega
                have HE := Lib.hid (HNO.out HNR.out)
                clear HNR HST HNO
                go_wp2
                exact HP.out _ _ HBW.out HE.out.symm
              · by_cases h4 : r < wl
                · have HNR : Hid (nextR ⟨wl, o, lo, si⟩ ⟨k, n, c, r, s, a, b⟩ = none) := by show _ = _; unfold nextR; simp [h0, h1, h2, h3, h4]
                  have d0 : decide (6 < k) = false := by simp; omega
                  have d1 : decide (0 ≤ o) = false := by simp; omega
                  have d2 : decide (0 ≤ lo) = false := by simp; omega
                  have e3 : (k == 2) = false := by simp; omega
                  have d4 : decide (r < wl) = true := by simp; omega
                  have HE := Lib.hid (HNO.out HNR.out)
                  clear HNR HST HNO
                  go_wp2
                  exact HP.out _ _ HBW.out HE.out.symm
                · by_cases h5 : k = 1
                  · have HNR : Hid (nextR ⟨wl, o, lo, si⟩ ⟨k, n, c, r, s, a, b⟩ = some ⟨wl, n, lo, r⟩) := by show _ = _; unfold nextR; simp [h1, h2, h4, h5]
                    have d0 : decide (6 < k) = false := by simp; omega
                    have d1 : decide (0 ≤ o) = false := by simp; omega
                    have d2 : decide (0 ≤ lo) = false := by simp; omega
                    have e3 : (k == 2) = false := by simp; omega
                    have d4 : decide (r < wl) = false := by simp; omega
                    have e5 : (k == 1) = true := by simp; omega
                    have HE := Lib.hid (HST.out _ HNR.out)
                    clear HNR HST HNO
                    go_wp2
                    go_roundw
                    case rel => exact ⟨j + 1, ⟨wl, n, lo, r⟩, by omega, rfl, rfl, rfl, rfl, by go_num, HR16, HE, HBN⟩
                    case measure => simp [intOf]; omega
                  · by_cases h6 : k = 6
                    · have HNR : Hid (nextR ⟨wl, o, lo, si⟩ ⟨k, n, c, r, s, a, b⟩ = some ⟨wl, o, n, r⟩) := by show _ = _; unfold nextR; simp [h1, h2, h4, h6]
                      have d0 : decide (6 < k) = false := by simp; omega
                      have d1 : decide (0 ≤ o) = false := by simp; omega
                      have d2 : decide (0 ≤ lo) = false := by simp; omega
                      have e3 : (k == 2) = false := by simp; omega
                      have d4 : decide (r < wl) = false := by simp; omega
                      have e5 : (k == 1) = false := by simp; omega
                      have e6 : (k == 6) = true := by simp; omega
                      have HE := Lib.hid (HST.out _ HNR.out)
                      clear HNR HST HNO
                      go_wp2
                      go_roundw
                      case rel => exact ⟨j + 1, ⟨wl, o, n, r⟩, by omega, rfl, rfl, rfl, rfl, by go_num, HR16, HE, HBN⟩
                      case measure => simp [intOf]; omega
                    · have HNR : Hid (nextR ⟨wl, o, lo, si⟩ ⟨k, n, c, r, s, a, b⟩ = some ⟨r + 3, o, lo, si⟩) := by show _ = _; unfold nextR; simp [h0, h1, h2, h3, h4, h5, h6]
                      have d0 : decide (6 < k) = false := by simp; omega
                      have d1 : decide (0 ≤ o) = false := by simp; omega
                      have d2 : decide (0 ≤ lo) = false := by simp; omega
                      have e3 : (k == 2) = false := by simp; omega
                      have d4 : decide (r < wl) = false := by simp; omega
                      have e5 : (k == 1) = false := by simp; omega
                      have e6 : (k == 6) = false := by simp; omega
                      have HE := Lib.hid (HST.out _ HNR.out)
                      clear HNR HST HNO
                      go_wp2
                      go_roundw
                      case rel => exact ⟨j + 1, ⟨r + 3, o, lo, si⟩, by omega, rfl, rfl, rfl, rfl, by go_num, HSI, HE, HBN⟩
                      case measure => simp [intOf]; omega
      · obtain rfl : n0 = j := by omega
        have HE : Hid (true = rbusF m l) := by
          show _ = _
          rw [HRUN.out, List.drop_of_length_le (by have := HN.out; omega)]
          rfl
        have HBF := Lib.hid (HB2.out.trans (HW.out.mono HB2.out.size))
        clear HRUN hlt hj
        go_wp2
        exact HP.out _ _ HBF.out HE.out
  · have HE : Hid (false = rbusF m l) := (if_neg hok).symm
    rw [show errM m = 70 from if_neg hok]
    clear hok
    go_wp2
    exact HP.out _ _ HB1.out HE.out
end Go.Proofs.Ytmflnbdajaiahaa
