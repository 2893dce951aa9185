/- Copies of bytes; whether a fault, an operation is among others. -/
import Derived.Test.YtkinhhkodaacjaaT7
import Derived.Test.YtkinhhkodaacjaaF7
namespace Go.Proofs.Ytkinhhkodaacjaa
open Go.RowKit Go.Shelf
open Md

theorem E41 : Elem Try.prog 41 5 (.int .u8 0) 1 1 := ⟨Try.underlying41, by kernel_rfl, rfl, by decide, by decide⟩
theorem dclone_any (v : Value) (B : List Int) (w : World) (h : Byts w v B) :
    Calls Try.prog 28 #[v] w fun e w' => (∃ v', e = .returned v' ∧ w'.ownsRow w.heap.size 5 1 v' B.length (B.map (.int .u8))) ∧ Below w.heap.size w w' := by
  have hlen := h.1.len
  obtain ⟨a, c, rfl, hc1, hc2, _⟩ := h.1.shape
  cases a with
  | none =>
    obtain ⟨rfl, _, rfl⟩ := h.1.none_
    clear h hlen
    have hq := fun w : World => Lib.run_eql_slice_nil (P := Try.prog) w 41 5 none 0 0 0 0 Try.underlying41
    simp only [List.length_nil] at *
    go_enter Try.func28, Try.ntmps28
    go_wp2
    go_ret
    exact ⟨⟨_, rfl, by simpa using World.ownsRow_nil _ _ _ _⟩, Below.refl _ _⟩
  | some ad =>
    have hnq := fun w : World => Lib.run_eql_slice_nil (P := Try.prog) w 41 5 (some ad) B.length c 0 0 Try.underlying41
    have hal : Below w.heap.size w (w.alloc (.cells #[] 5)) := (Below.refl _ _).alloc (Nat.le_refl _) _
    have hs : Src (w.alloc (.cells #[] 5)) (.slice (some ad) B.length c) B.length (B.map (.int .u8)) 1 := by
      have := Rd.src (encI_len .u8) (encI_one .u8) (by decide) (h.below hal).1
      rwa [encI_flat] at this
    have hown : (w.alloc (.cells #[] 5)).ownsRow w.heap.size 5 1 (.slice (some ⟨w.heap.size, 0, none⟩) 0 0) 0 [] := World.ownsRow_made w #[] 0 (Nat.le_refl _) (by decide) rfl
    clear h
    go_enter Try.func28, Try.ntmps28
    go_wp2_with (at_builtin; refine wpList_app E41 rfl _ _ rfl hown hs rfl rfl (by omega) (by simp) ?_; intro v' w1 hown1 hgrow _)
    go_ret
    exact ⟨⟨_, rfl, by simpa using hown1⟩, below_app hal (Nat.le_refl _) hown hgrow (by simp)⟩

def IxP (p : Bool) (w : World) (e : Ending) (w' : World) : Prop := ∃ r : Int, e = .returned (.int .i64 r) ∧ (0 ≤ r ↔ p = true) ∧ Below w.heap.size w w'
set_option maxRecDepth 100000 in
set_option maxHeartbeats 1600000 in
theorem findF_any (y : Fa) (v : Value) (L : List Fa) (w : World) (hv : Rd encF 7 w v L) :
    Calls Try.prog 38 #[v, .agg (encF y).toArray] w (IxP (decide (y ∈ L)) w) := by
  have HP : Hid (∀ r w', (0 ≤ r ↔ y ∈ L) → Below w.heap.size w w' → IxP (decide (y ∈ L)) w (.returned (.int .i64 r)) w') := fun r w' hr h => ⟨r, rfl, by rw [decide_eq_true_eq]; exact hr, h⟩
  generalize IxP (decide (y ∈ L)) w = POST at *
  have HB0 := Lib.hid (below1 w (.cells (encF y).toArray 39))
  have HY0 : Hid (Blk (w.alloc (.cells (encF y).toArray 39)) w.heap.size 39 (encF y).toArray) := Blk.new' rfl
  have HV := Lib.hid (hv.below HB0.out)
  obtain ⟨va, vc, rfl, hcap, hcm, hlen⟩ := hv.shape
  obtain ⟨n, hn⟩ : ∃ n, n = L.length := ⟨_, rfl⟩
  rw [← hn] at hcap hlen HV
  rw [← hn]
  have HN := Lib.hid hn
  clear hv hn
  go_enter Try.func38, Try.ntmps38
  go_upto_region 1 with fail
  change Code.wp _ _ _ _ (w.alloc (.cells (encF y).toArray 39))
  generalize w.alloc (.cells (encF y).toArray 39) = W0 at *
  go_wp2_with fail
  go_loopw [8] (fun i wr => ∃ k : Nat, k ≤ n ∧ i = .int .i64 k ∧ Hid (y ∉ L.take k) ∧ Hid (Below W0.heap.size W0 wr)) (fun i _ => n - (intOf i).toNat)
  case atStart => exact ⟨0, by omega, rfl, Lib.hid (by simp), Below.refl _ _⟩
  case round =>
    obtain ⟨k, hk, rfl, HT, HW⟩ := hrel
    obtain ⟨W1, rfl⟩ : ∃ W1 : World, W1 = wr := ⟨_, rfl⟩
    by_cases hlt : k < n
    · obtain ⟨x, hx⟩ : ∃ x, L[k]? = some x := ⟨_, List.getElem?_eq_getElem (by have := HN.out; omega)⟩
      obtain ⟨bl, off, rfl, hbl, hc⟩ := (HV.out.below HW.out).row (by rintro rfl; simp at hx)
      have hS : Hid (∀ j u, (encF x)[j]? = some u → W1.drew.cell? ⟨bl, off + k * 7 + j, none⟩ = some u) ∧ Hid (∀ j u, (encF y)[j]? = some u → W1.drew.cell? ⟨w.heap.size, 0 + j, none⟩ = some u) := ⟨hc k x hx, ((HY0.out.keep HW.out).keep (Below.refl _ _).drew).list⟩
      have HTX := Lib.hid (take_snoc hx)
      have HIN : Hid (x = y → y ∈ L) := fun e => e ▸ List.mem_of_getElem? hx
      have hlt2 : (k : Int) < (n : Int) := by omega
      clear hx hc
      go_upto_region 4 with fail
      refine wp_region_held_drew (S := fun X => Hid (∀ j u, (encF x)[j]? = some u → X.cell? ⟨bl, off + k * 7 + j, none⟩ = some u) ∧ Hid (∀ j u, (encF y)[j]? = some u → X.cell? ⟨w.heap.size, 0 + j, none⟩ = some u)) (by kernel_rfl) hS (fun hHeld => ?_)
      (refine takeW (i := 0) rfl (by kernel_rfl) (by kernel_rfl) (by kernel_rfl) (fun _ _ _ h => h) (by rfl) (by assumption) (fun W hW => exec_loadW W39 rfl rfl (cs := encF y) rfl hW.2.out) ?_; (try simp only [Act.put, List.setIfInBounds_toArray, List.set_cons_zero, List.set_cons_succ]))
      (refine takeW (i := 1) (v := ?_) rfl (by kernel_rfl) (by kernel_rfl) (by kernel_rfl) (fun _ _ _ h => h) (by rfl) (by assumption) ?_ ?_; rotate_left; (intro W hW; (try dsimp only at hW); go_simp; try with_reducible rfl); (try simp only [Act.put, List.setIfInBounds_toArray, List.set_cons_zero, List.set_cons_succ]))
      (refine takeW (i := 2) (v := ?_) rfl (by kernel_rfl) (by kernel_rfl) (by kernel_rfl) (fun _ _ _ h => h) (by rfl) (by assumption) ?_ ?_; rotate_left; (intro W hW; (try dsimp only at hW); go_simp; try with_reducible rfl); (try simp only [Act.put, List.setIfInBounds_toArray, List.set_cons_zero, List.set_cons_succ]))
      (refine takeW (i := 3) (v := ?_) rfl (by kernel_rfl) (by kernel_rfl) (by kernel_rfl) (fun _ _ _ h => h) (by rfl) (by assumption) ?_ ?_; rotate_left; (intro W hW; (try dsimp only at hW); go_simp; try with_reducible rfl); (try simp only [Act.put, List.setIfInBounds_toArray, List.set_cons_zero, List.set_cons_succ]))
      (refine takeW (i := 4) rfl (by kernel_rfl) (by kernel_rfl) (by kernel_rfl) (fun _ _ _ h => h) (by rfl) (by assumption) (fun W hW => exec_loadW W39 rfl rfl (cs := encF x) rfl hW.1.out) ?_; (try simp only [Act.put, List.setIfInBounds_toArray, List.set_cons_zero, List.set_cons_succ]))
      (refine takeW (i := 5) rfl (by kernel_rfl) (by kernel_rfl) (by kernel_rfl) (fun _ _ _ h => h) (by rfl) (by assumption) (fun W hW => exec_eqF (u := y) (v := x) rfl rfl rfl) ?_; (try simp only [Act.put, List.setIfInBounds_toArray, List.set_cons_zero, List.set_cons_succ]))
      refine wpAnyH_done (by kernel_rfl) ?_ _
      clear hHeld
      by_cases hxy : y = x
      · rw [show decide (y = x) = true by simp [hxy]]
        have HR := Lib.hid (HIN.out hxy.symm)
        have hk0 : (0 : Int) ≤ (k : Int) := by omega
        clear hxy HIN HTX
        go_wp2
        exact HP.out _ _ ⟨fun _ => HR.out, fun _ => hk0⟩ (HB0.out.trans (HW.out.drew.mono HB0.out.size))
      · rw [show decide (y = x) = false by simp [hxy]]
        have HT2 : Hid (y ∉ L.take (k + 1)) := by
          show ¬ _
          rw [HTX.out, List.mem_append]
          rintro (h | h)
          · exact HT.out h
          · exact hxy (by simpa using h)
        clear hxy HIN HTX
        go_wp2
        go_roundw
        case rel => exact ⟨k + 1, by omega, by go_num, HT2, HW.out.drew⟩
        case measure => simp [intOf]; omega
    · obtain rfl : n = k := by omega
      have HALL : Hid (y ∉ L) := by
        have h := HT.out
        rw [List.take_of_length_le (by have := HN.out; omega)] at h
        exact h
      clear hlt hk HT
      go_wp2
      exact HP.out _ _ ⟨fun h => absurd h (by decide), fun h => absurd h HALL.out⟩ (HB0.out.trans (HW.out.mono HB0.out.size))
theorem hasF_any (y : Fa) (v : Value) (L : List Fa) (w : World) (hv : Rd encF 7 w v L) :
    Calls Try.prog 10 #[v, .agg (encF y).toArray] w fun e w' => e = .returned (.bool (decide (y ∈ L))) ∧ Below w.heap.size w w' := by
  have HB0 := Lib.hid (below1 w (.cells (encF y).toArray 39))
  have HY0 : Hid (Blk (w.alloc (.cells (encF y).toArray 39)) w.heap.size 39 (encF y).toArray) := Blk.new' rfl
  have HI := Lib.hid (findF_any y v L _ (hv.below HB0.out))
  clear hv
  generalize hp : decide (y ∈ L) = p at *
  have HPO : Hid (∀ w', Below w.heap.size w w' → (fun e w' => e = Ending.returned (.bool p) ∧ Below w.heap.size w w') (.returned (.bool p)) w') := fun w' h => ⟨rfl, h⟩
  generalize (fun e w' => e = Ending.returned (.bool p) ∧ Below w.heap.size w w') = POST at *
  clear hp
  go_enter Try.func10, Try.ntmps10
  go_upto_region 1 with fail
  change Code.wp _ _ _ _ (w.alloc (.cells (encF y).toArray 39))
  generalize w.alloc (.cells (encF y).toArray 39) = W0 at *
  go_wp2_with ((with_reducible show wpList _ _ _ (Oper.mk (some 6) _ _ _ _ _ :: _) _ _); refine wpList_loadW W39 rfl rfl rfl (encF y) rfl HY0.out.list ?_)
  refine HI.out.mono ?_
  rintro e w1 ⟨r, rfl, hr, hb⟩
  have HR : Hid (decide (0 ≤ r) = p) := by
    show _ = _
    cases p
    · have : ¬ 0 ≤ r := fun e => by have := hr.1 e; cases this
      simp; omega
    · simp [hr.2 rfl]
  have HB := Lib.hid (HB0.out.trans (hb.mono HB0.out.size))
  clear hr hb HI HY0 HB0
  go_wp2_with fail
  (try go_wp2)
  rw [HR.out]
  exact HPO.out _ HB.out

theorem rd_oneH {w : World} {b : Nat} (hb : w.heap.size = b) (x : Ho) : Rd encH 6 (w.alloc (.cells (encH x).toArray 43)) (.slice (some ⟨b, 0, none⟩) 1 1) [x] := by
  subst hb
  refine ⟨_, _, rfl, by simp, by simp, by simp, by simp, .inr ⟨_, 0, rfl, by simp, ?_⟩⟩
  intro j y hy i u hu
  have hj : j = 0 := by have := (List.getElem?_eq_some_iff.1 hy).1; simpa using this
  subst hj
  simp at hy
  subst hy
  rw [World.cell?_alloc_at _ _ _ _ rfl]
  simpa using hu
theorem decide_one (x y : Ho) : decide ([y].map Ho.key = [x].map Ho.key) = decide (y.key = x.key) := by simp
set_option maxRecDepth 100000 in
set_option maxHeartbeats 1600000 in
theorem isOp_any (x y : Ho) (g : Nat) (w : World) (hy : Blk w g 43 (encH y).toArray) (gx : GoodH w x) (gy : GoodH w y) :
    Calls Try.prog 12 #[.agg (encH x).toArray, .pointer (some ⟨g, 0, none⟩)] w fun e w' => e = .returned (.bool (decide (y.key = x.key))) ∧ Below w.heap.size w w' := by
  have HPO : Hid (∀ w', Below w.heap.size w w' → (fun e w' => e = Ending.returned (.bool (decide (y.key = x.key))) ∧ Below w.heap.size w w') (.returned (.bool (decide (y.key = x.key)))) w') := fun w' h => ⟨rfl, h⟩
  generalize (fun e w' => e = Ending.returned (.bool (decide (y.key = x.key))) ∧ Below w.heap.size w w') = POST at *
  have hb1 := below1 w (.cells (encH x).toArray 43)
  have hb2 := below1 (w.alloc (.cells (encH x).toArray 43)) (.cells (encH y).toArray 43)
  have hb3 := below1 ((w.alloc (.cells (encH x).toArray 43)).alloc (.cells (encH y).toArray 43)) (.cells (encH x).toArray 43)
  have HX0 : Hid (Blk (w.alloc (.cells (encH x).toArray 43)) w.heap.size 43 (encH x).toArray) := Blk.new' rfl
  have HY0 : Hid (Blk (w.alloc (.cells (encH x).toArray 43)) g 43 (encH y).toArray) := hy.keep hb1
  have HX1 : Hid (Blk ((w.alloc (.cells (encH x).toArray 43)).alloc (.cells (encH y).toArray 43)) w.heap.size 43 (encH x).toArray) := HX0.out.keep hb2
  have HRY := (rd_oneH (w := w.alloc (.cells (encH x).toArray 43)) rfl y).below hb3
  have HRX := rd_oneH (w := (w.alloc (.cells (encH x).toArray 43)).alloc (.cells (encH y).toArray 43)) (b := (w.alloc (.cells (encH x).toArray 43)).heap.size + 1) (by simp) x
  have hbb := hb1.trans ((hb2.trans (hb3.mono hb2.size)).mono hb1.size)
  have HC := Lib.hid (sameOps_any _ _ [y] [x] _ HRY HRX (fun z hz => by rw [List.mem_singleton.1 hz]; exact gy.below hbb) (fun z hz => by rw [List.mem_singleton.1 hz]; exact gx.below hbb))
  have HBB := Lib.hid hbb
  rw [decide_one] at HC
  clear hb1 hb2 hb3 HRX HRY hbb gx gy hy
  generalize decide (y.key = x.key) = p at *
  go_enter Try.func12, Try.ntmps12
  go_upto_region 1 with fail
  change Code.wp _ _ _ _ (w.alloc (.cells (encH x).toArray 43))
  have hs0 : (w.alloc (.cells (encH x).toArray 43)).heap.size = (w.alloc (.cells (encH x).toArray 43)).heap.size := rfl
  generalize w.alloc (.cells (encH x).toArray 43) = W0 at *
  go_wp2_with (first | ((with_reducible show wpList _ _ _ (Oper.mk (some 4) _ _ _ _ _ :: _) _ _); refine wpList_loadW W43 rfl rfl rfl (encH y) rfl HY0.out.list ?_) | ((with_reducible show wpList _ _ _ (Oper.mk (some 5) _ _ _ _ _ :: _) _ _); refine wpList_sliceW E27 (by decide) rfl rfl (encH y) rfl rfl ?_) | ((with_reducible show wpList _ _ _ (Oper.mk (some 6) _ _ _ _ _ :: _) _ _); refine wpList_loadW W43 rfl rfl rfl (encH x) rfl HX1.out.list ?_) | ((with_reducible show wpList _ _ _ (Oper.mk (some 7) _ _ _ _ _ :: _) _ _); refine wpList_sliceW E27 (by decide) rfl rfl (encH x) rfl rfl ?_))
  refine HC.out.mono ?_
  rintro e w1 ⟨rfl, hb⟩
  have HB := Lib.hid (HBB.out.trans (hb.mono HBB.out.size))
  clear hb HC HX0 HX1 HY0 HBB
  go_wp2
  exact HPO.out _ HB.out
set_option maxRecDepth 100000 in
set_option maxHeartbeats 1600000 in
theorem findH_any (y : Ho) (g : Nat) (v : Value) (L : List Ho) (w : World) (hy : Blk w g 43 (encH y).toArray) (gy : GoodH w y) (hv : Hos w v L) (gl : ∀ x ∈ L, GoodH w x) :
    Calls Try.prog 39 #[v, .func (.func 12) #[] #[.pointer (some ⟨g, 0, none⟩)]] w (IxP (L.any fun x => decide (y.key = x.key)) w) := by
  have HP : Hid (∀ r w', (0 ≤ r ↔ (L.any fun x => decide (y.key = x.key)) = true) → Below w.heap.size w w' → IxP (L.any fun x => decide (y.key = x.key)) w (.returned (.int .i64 r)) w') := fun r w' hr h => ⟨r, rfl, hr, h⟩
  generalize IxP (L.any fun x => decide (y.key = x.key)) w = POST at *
  have HV := Lib.hid hv
  have HY := Lib.hid hy
  have GL := Lib.hid gl
  have GY := Lib.hid gy
  obtain ⟨va, vc, rfl, hcap, hcm, hlen⟩ := hv.shape
  obtain ⟨n, hn⟩ : ∃ n, n = L.length := ⟨_, rfl⟩
  rw [← hn] at hcap hlen HV
  rw [← hn]
  have HN := Lib.hid hn
  clear hv hy gl gy hn
  go_enter Try.func39, Try.ntmps39
  go_wp2_with fail
  go_loopw [8] (fun i wr => ∃ k : Nat, k ≤ n ∧ i = .int .i64 k ∧ Hid (((L.take k).any fun x => decide (y.key = x.key)) = false) ∧ Hid (Below w.heap.size w wr)) (fun i _ => n - (intOf i).toNat)
  case atStart => exact ⟨0, by omega, rfl, rfl, Below.refl _ _⟩
  case round =>
    obtain ⟨k, hk, rfl, HT, HW⟩ := hrel
    obtain ⟨W1, rfl⟩ : ∃ W1 : World, W1 = wr := ⟨_, rfl⟩
    by_cases hlt : k < n
    · obtain ⟨x, hx⟩ : ∃ x, L[k]? = some x := ⟨_, List.getElem?_eq_getElem (by have := HN.out; omega)⟩
      have HCL := Lib.hid (isOp_any x y g W1 (HY.out.keep HW.out) ((GL.out x (List.mem_of_getElem? hx)).below HW.out) (GY.out.below HW.out))
      obtain ⟨bl, off, rfl, hbl, hc⟩ := (HV.out.below HW.out).row (by rintro rfl; simp at hx)
      have HC := Lib.hid (hc k x hx)
      have HTS : Hid (((L.take (k + 1)).any fun x => decide (y.key = x.key)) = (((L.take k).any fun x => decide (y.key = x.key)) || decide (y.key = x.key))) := by show _ = _; rw [take_snoc hx, List.any_append]; simp
      have HYES : Hid (decide (y.key = x.key) = true → (L.any fun x => decide (y.key = x.key)) = true) := fun e => by
        rw [List.any_eq_true]
        exact ⟨x, List.mem_of_getElem? hx, e⟩
      clear hx hc
      generalize hq : decide (y.key = x.key) = p at *
      clear hq
      go_wp2_with ((with_reducible show wpList _ _ _ (Oper.mk (some 15) _ _ _ _ _ :: _) _ _); refine wpList_loadW W43 rfl rfl rfl (encH x) rfl HC.out ?_)
      refine HCL.out.mono ?_
      rintro e w2 ⟨rfl, hb2⟩
      have HB2 := Lib.hid (HW.out.trans (hb2.mono HW.out.size))
      clear HCL hb2
      cases p with
      | true =>
        have HR := Lib.hid (HYES.out rfl)
        have hk0 : (0 : Int) ≤ (k : Int) := by omega
        clear HYES HTS
        go_wp2
        exact HP.out _ _ ⟨fun _ => HR.out, fun _ => hk0⟩ HB2.out
      | false =>
        have HT2 : Hid (((L.take (k + 1)).any fun x => decide (y.key = x.key)) = false) := by show _ = _; rw [HTS.out, HT.out]; rfl
        clear HYES HTS
        go_wp2
        go_roundw
        case rel => exact ⟨k + 1, by omega, by go_num, HT2, HB2⟩
        case measure => simp [intOf]; omega
    · obtain rfl : n = k := by omega
      have HALL : Hid ((L.any fun x => decide (y.key = x.key)) = false) := by
        have h := HT.out
        rw [List.take_of_length_le (by have := HN.out; omega)] at h
        exact h
      clear hlt hk HT
      go_wp2
      exact HP.out _ _ ⟨fun h => absurd h (by decide), fun h => absurd h (by rw [HALL.out]; decide)⟩ HW.out
theorem hasH_any (y : Ho) (g : Nat) (v : Value) (L : List Ho) (w : World) (hy : Blk w g 43 (encH y).toArray) (gy : GoodH w y) (hv : Hos w v L) (gl : ∀ x ∈ L, GoodH w x) :
    Calls Try.prog 11 #[v, .func (.func 12) #[] #[.pointer (some ⟨g, 0, none⟩)]] w fun e w' => e = .returned (.bool (L.any fun x => decide (y.key = x.key))) ∧ Below w.heap.size w w' := by
  have HI := Lib.hid (findH_any y g v L w hy gy hv gl)
  clear hy gy hv gl
  generalize hp : (L.any fun x => decide (y.key = x.key)) = p at *
  have HPO : Hid (∀ w', Below w.heap.size w w' → (fun e w' => e = Ending.returned (.bool p) ∧ Below w.heap.size w w') (.returned (.bool p)) w') := fun w' h => ⟨rfl, h⟩
  generalize (fun e w' => e = Ending.returned (.bool p) ∧ Below w.heap.size w w') = POST at *
  clear hp
  go_enter Try.func11, Try.ntmps11
  go_wp2_with fail
  refine HI.out.mono ?_
  rintro e w1 ⟨r, rfl, hr, hb⟩
  have HR : Hid (decide (0 ≤ r) = p) := by
    show _ = _
    cases p
    · have : ¬ 0 ≤ r := fun e => by have := hr.1 e; cases this
      simp; omega
    · simp [hr.2 rfl]
  have HB := Lib.hid hb
  clear hr hb HI
  go_wp2_with fail
  (try go_wp2)
  rw [HR.out]
  exact HPO.out _ HB.out
end Go.Proofs.Ytkinhhkodaacjaa
