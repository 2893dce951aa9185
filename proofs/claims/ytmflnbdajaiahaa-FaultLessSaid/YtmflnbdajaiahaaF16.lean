/- Whether all faults are of two kinds and of one node. -/
import Derived.Test.YtmflnbdajaiahaaF15
namespace Go.Proofs.Ytmflnbdajaiahaa
open Go.RowKit Go.Shelf
open Md

/-- What the closure sees. -/
structure AB (b6 b7 b9 : Nat) (a b : Int) (v : Value) (L : List Fa) (W : World) : Prop where
  p : Blk W b6 3 #[.int .i64 a]
  q : Blk W b7 3 #[.int .i64 b]
  r : Blk W b9 26 #[v]
  l : Rd encF 7 W v L
theorem AB.keep {b6 b7 b9 : Nat} {a b : Int} {v : Value} {L : List Fa} {W W' : World} (h : AB b6 b7 b9 a b v L W) (hb : Below W.heap.size W W') : AB b6 b7 b9 a b v L W' := ⟨h.p.keep hb, h.q.keep hb, h.r.keep hb, h.l.below hb⟩
set_option maxRecDepth 100000 in
set_option maxHeartbeats 1600000 in
theorem closure42_any (x h : Fa) (b6 b7 b9 : Nat) (a b : Int) (v : Value) (L : List Fa) (w : World) (hab : AB b6 b7 b9 a b v L w) (hL : L[0]? = some h) :
    Calls Try.prog 42 #[.agg (encF x).toArray, .pointer (some ⟨b6, 0, none⟩), .pointer (some ⟨b7, 0, none⟩), .pointer (some ⟨b9, 0, none⟩)] w fun e w' => e = .returned (.bool (!isOne a b h x)) ∧ Below w.heap.size w w' := by
  have HP : Hid (∀ w' c, Below w.heap.size w w' → c = (!isOne a b h x) → (fun e w' => e = Ending.returned (.bool (!isOne a b h x)) ∧ Below w.heap.size w w') (.returned (.bool c)) w') := fun w' c h1 hc => by subst hc; exact ⟨rfl, h1⟩
  generalize (fun e w' => e = Ending.returned (.bool (!isOne a b h x)) ∧ Below w.heap.size w w') = POST at *
  have hb1 := below1 w (.cells (encF x).toArray 33)
  have HX0 : Hid (Blk (w.alloc (.cells (encF x).toArray 33)) w.heap.size 33 (encF x).toArray) := Blk.new' rfl
  have HA := Lib.hid (hab.keep hb1)
  have HB0 : Hid (∀ nq, Below w.heap.size w ((w.alloc (.cells (encF x).toArray 33)).drewN nq)) := fun nq => below_drewN' hb1 nq
  obtain ⟨ra, rc, rfl, hrc, -⟩ := hab.l.shape
  have hpos : (0 : Int) < (L.length : Int) := by
    have := (List.getElem?_eq_some_iff.1 hL).1
    omega
  clear hab hb1
  go_enter Try.func42, Try.ntmps42
  go_upto_region 1 with fail
  change Code.wp _ _ _ _ (w.alloc (.cells (encF x).toArray 33))
  generalize w.alloc (.cells (encF x).toArray 33) = W0 at *
  obtain ⟨bl, off, rfl, -, hc⟩ := HA.out.l.row (by rintro rfl; simp at hL)
  have ch : W0.cell? ⟨bl, off + 1, none⟩ = some (.int .i64 h.n) := by have := hc 0 h hL 1 _ rfl; simpa using this
  have c6 : W0.cell? ⟨b6, 0, none⟩ = some (.int .i64 a) := HA.out.p.one
  have c7 : W0.cell? ⟨b7, 0, none⟩ = some (.int .i64 b) := HA.out.q.one
  have c9 : W0.cell? ⟨b9, 0, none⟩ = some (.slice (some ⟨bl, off, none⟩) L.length rc) := HA.out.r.one
  have ck : W0.cell? ⟨w.heap.size, 0, none⟩ = some (.int .i64 x.k) := HX0.out.list0 rfl
  have cn : W0.cell? ⟨w.heap.size, 1, none⟩ = some (.int .i64 x.n) := HX0.out.list0 rfl
  clear hc hL HA HX0
  generalize L.length = n at *
  by_cases ha : x.k = a
  · have ea : (x.k != a) = false := by simp [ha]
    by_cases hn : x.n = h.n
    · have en : (x.n != h.n) = false := by simp [hn]
      have HE : Hid (false = !isOne a b h x) := by show _ = _; simp [isOne, ha, hn]
      clear ha hn
      go_upto_region 1 with fail
      go_quiet (fail)
      go_wp2
      exact HP.out _ _ (HB0.out _) HE.out
    · have en : (x.n != h.n) = true := by simp [hn]
      have HE : Hid (true = !isOne a b h x) := by show _ = _; simp [isOne, ha, hn]
      clear ha hn
      go_upto_region 1 with fail
      go_quiet (fail)
      go_wp2
      exact HP.out _ _ (HB0.out _) HE.out
  · have ea : (x.k != a) = true := by simp [ha]
    by_cases hb : x.k = b
    · have eb : (x.k != b) = false := by simp [hb]
      by_cases hn : x.n = h.n
      · have en : (x.n != h.n) = false := by simp [hn]
        have HE : Hid (false = !isOne a b h x) := by show _ = _; simp [isOne, hb, hn]
        clear ha hb hn
        go_upto_region 1 with fail
        go_quiet (fail)
        go_wp2
        exact HP.out _ _ (HB0.out _) HE.out
      · have en : (x.n != h.n) = true := by simp [hn]
        have HE : Hid (true = !isOne a b h x) := by show _ = _; simp [isOne, hb, hn]
        clear ha hb hn
        go_upto_region 1 with fail
        go_quiet (fail)
        go_wp2
        exact HP.out _ _ (HB0.out _) HE.out
    · have eb : (x.k != b) = true := by simp [hb]
      have HE : Hid (true = !isOne a b h x) := by show _ = _; simp [isOne, ha, hb]
      clear ha hb
      go_upto_region 1 with fail
      go_quiet (fail)
      go_wp2
      exact HP.out _ _ (HB0.out _) HE.out
def IdxPost (L : List Fa) (f : Fa → Bool) (w : World) (e : Ending) (w' : World) : Prop := ∃ r : Int, e = .returned (.int .i64 r) ∧ (0 ≤ r ↔ L.all f = false) ∧ Below w.heap.size w w'
set_option maxRecDepth 100000 in
set_option maxHeartbeats 1600000 in
theorem index_any (h : Fa) (b6 b7 b9 : Nat) (a b : Int) (v : Value) (L : List Fa) (w : World) (hab : AB b6 b7 b9 a b v L w) (hL : L ≠ [] → L[0]? = some h) :
    Calls Try.prog 58 #[v, .func (.func 42) #[] #[.pointer (some ⟨b6, 0, none⟩), .pointer (some ⟨b7, 0, none⟩), .pointer (some ⟨b9, 0, none⟩)]] w (IdxPost L (isOne a b h) w) := by
  have HP : Hid (∀ r w', (0 ≤ r ↔ L.all (isOne a b h) = false) → Below w.heap.size w w' → IdxPost L (isOne a b h) w (.returned (.int .i64 r)) w') := fun r w' hr h => ⟨r, rfl, hr, h⟩
  generalize IdxPost L (isOne a b h) w = POST at *
  have HV := Lib.hid hab.l
  have HB := Lib.hid hab
  have HL := Lib.hid hL
  obtain ⟨va, vc, rfl, hcap, hcm, hlen⟩ := hab.l.shape
  obtain ⟨n, hn⟩ : ∃ n, n = L.length := ⟨_, rfl⟩
  rw [← hn] at hcap hlen HV HB
  rw [← hn]
  have HN := Lib.hid hn
  clear hab hL hn
  go_enter Try.func58, Try.ntmps58
  go_wp2_with fail
  go_loopw [8] (fun i wr => ∃ k : Nat, k ≤ n ∧ i = .int .i64 k ∧ Hid ((L.take k).all (isOne a b h) = true) ∧ Hid (Below w.heap.size w wr)) (fun i _ => n - (intOf i).toNat)
  case atStart => exact ⟨0, by omega, rfl, rfl, Below.refl _ _⟩
  case round =>
    obtain ⟨k, hk, rfl, HT, HW⟩ := hrel
    obtain ⟨W1, rfl⟩ : ∃ W1 : World, W1 = wr := ⟨_, rfl⟩
    by_cases hlt : k < n
    · obtain ⟨x, hx⟩ : ∃ x, L[k]? = some x := ⟨_, List.getElem?_eq_getElem (by have := HN.out; omega)⟩
      have HCL := Lib.hid (closure42_any x h b6 b7 b9 a b _ L W1 (HB.out.keep HW.out) (HL.out (by rintro rfl; simp at hx)))
      obtain ⟨bl, off, rfl, hbl, hc⟩ := (HV.out.below HW.out).row (by rintro rfl; simp at hx)
      have HC := Lib.hid (hc k x hx)
      have HTS : Hid ((L.take (k + 1)).all (isOne a b h) = ((L.take k).all (isOne a b h) && isOne a b h x)) := by show _ = _; rw [take_snoc hx, List.all_append]; simp
      have HNO : Hid (isOne a b h x = false → L.all (isOne a b h) = false) := fun e => by
        rw [List.all_eq_false]
        exact ⟨x, List.mem_of_getElem? hx, by simp [e]⟩
      clear hx hc
      go_wp2_with ((with_reducible show wpList _ _ _ (Oper.mk (some 15) _ _ _ _ _ :: _) _ _); refine wpList_loadW W33 rfl rfl rfl (encF x) rfl HC.out ?_)
      refine HCL.out.mono ?_
      rintro e w2 ⟨rfl, hb2⟩
      have HB2 := Lib.hid (HW.out.trans (hb2.mono HW.out.size))
      clear HCL hb2
      cases hq : isOne a b h x with
      | false =>
        have HR := Lib.hid (HNO.out hq)
        have hk0 : (0 : Int) ≤ (k : Int) := by omega
        clear hq HNO HTS
        go_wp2
        exact HP.out _ _ ⟨fun _ => HR.out, fun _ => hk0⟩ HB2.out
      | true =>
        have HT2 : Hid ((L.take (k + 1)).all (isOne a b h) = true) := by show _ = _; rw [HTS.out, HT.out, hq]; rfl
        clear hq HNO HTS
        go_wp2
        go_roundw
        case rel => exact ⟨k + 1, by omega, by go_num, HT2, HB2⟩
        case measure => simp [intOf]; omega
    · obtain rfl : n = k := by omega
      have HALL : Hid (L.all (isOne a b h) = true) := by
        have h := HT.out
        rw [List.take_of_length_le (by have := HN.out; omega)] at h
        exact h
      clear hlt hk HT
      go_wp2
      exact HP.out _ _ ⟨fun h => absurd h (by decide), fun h => absurd h (by rw [HALL.out]; decide)⟩ HW.out
theorem contains_any (h : Fa) (b6 b7 b9 : Nat) (a b : Int) (v : Value) (L : List Fa) (w : World) (hab : AB b6 b7 b9 a b v L w) (hL : L ≠ [] → L[0]? = some h) :
    Calls Try.prog 41 #[v, .func (.func 42) #[] #[.pointer (some ⟨b6, 0, none⟩), .pointer (some ⟨b7, 0, none⟩), .pointer (some ⟨b9, 0, none⟩)]] w fun e w' => e = .returned (.bool (!L.all (isOne a b h))) ∧ Below w.heap.size w w' := by
  have HI := Lib.hid (index_any h b6 b7 b9 a b v L w hab hL)
  clear hab hL
  go_enter Try.func41, Try.ntmps41
  go_wp2_with fail
  refine HI.out.mono ?_
  rintro e w1 ⟨r, rfl, hr, hb⟩
  have HR : Hid (decide (0 ≤ r) = !L.all (isOne a b h)) := by
    show _ = _
    cases hq : L.all (isOne a b h)
    · simp [hr.2 hq]
    · have : ¬ 0 ≤ r := fun e => by rw [hr.1 e] at hq; cases hq
      simp; omega
  have HB := Lib.hid hb
  clear hr hb HI
  go_wp2
  go_ret
  refine ⟨ret_bool ?_, HB.out⟩
  rw [← HR.out]
set_option maxRecDepth 100000 in
set_option maxHeartbeats 1600000 in
theorem alike_any (m : Me) (a b : Int) (v : Value) (l : List Fa) (w : World) (hm : GoodMe w m) (hv : Rd encF 7 w v l) (hl : l.length ≤ 8192) :
    Calls Try.prog 23 #[mev m, v, .int .i64 a, .int .i64 b] w fun e w' => e = .returned (.bool (oneF m a b l)) ∧ Below w.heap.size w w' := by
  have HP : Hid (∀ w' c, Below w.heap.size w w' → c = oneF m a b l → (fun e w' => e = Ending.returned (.bool (oneF m a b l)) ∧ Below w.heap.size w w') (.returned (.bool c)) w') := fun w' c h hc => by subst hc; exact ⟨rfl, h⟩
  generalize (fun e w' => e = Ending.returned (.bool (oneF m a b l)) ∧ Below w.heap.size w w') = POST at *
  have HB0 := Lib.hid (below3 w (.cells (encMe m).toArray 25) (.cells #[.int .i64 a] 3) (.cells #[.int .i64 b] 3))
  have HM0 : Hid (Blk (((w.alloc (.cells (encMe m).toArray 25)).alloc (.cells #[.int .i64 a] 3)).alloc (.cells #[.int .i64 b] 3)) w.heap.size 25 (encMe m).toArray) := ((Blk.new' rfl : Blk _ _ _ _).alloc _).alloc _
  have HPa : Hid (Blk (((w.alloc (.cells (encMe m).toArray 25)).alloc (.cells #[.int .i64 a] 3)).alloc (.cells #[.int .i64 b] 3)) (w.heap.size + 1) 3 #[.int .i64 a]) := (Blk.new' (by simp) : Blk _ _ _ _).alloc _
  have HPb : Hid (Blk (((w.alloc (.cells (encMe m).toArray 25)).alloc (.cells #[.int .i64 a] 3)).alloc (.cells #[.int .i64 b] 3)) (w.heap.size + 1 + 1) 3 #[.int .i64 b]) := Blk.new' (by simp)
  have HV := Lib.hid hv
  have HG := Lib.hid hm
  have HLL := Lib.hid hl
  clear hv hm hl
  change Calls Try.prog 23 #[.agg (encMe m).toArray, v, .int .i64 a, .int .i64 b] w POST
  go_enter Try.func23, Try.ntmps23
  go_upto_region 1 with fail
  change Code.wp _ _ _ _ (((w.alloc (.cells (encMe m).toArray 25)).alloc (.cells #[.int .i64 a] 3)).alloc (.cells #[.int .i64 b] 3))
  generalize (((w.alloc (.cells (encMe m).toArray 25)).alloc (.cells #[.int .i64 a] 3)).alloc (.cells #[.int .i64 b] 3)) = W0 at *
  go_wp2_with ((with_reducible show wpList _ _ _ (Oper.mk (some 10) _ _ _ _ _ :: _) _ _); refine wpList_loadW W25 rfl rfl rfl (encMe m) rfl HM0.out.list ?_)
  refine (mcheck_any m W0 (HG.out.below HB0.out)).mono ?_
  rintro e W1 ⟨rfl, hb1⟩
  have HB1 := Lib.hid (HB0.out.trans (hb1.mono HB0.out.size))
  have HM1 := Lib.hid (HM0.out.keep hb1)
  have HP1 := Lib.hid (HPa.out.keep hb1)
  have HP2 := Lib.hid (HPb.out.keep hb1)
  clear hb1 HM0 HB0 HPa HPb
  by_cases hok : okM m = true
  · have HONE : Hid (oneF m a b l = alikeL a b (cleanF m l)) := if_pos hok
    rw [show errM m = 0 from if_pos hok]
    clear hok
    go_wp2_with ((with_reducible show wpList _ _ _ (Oper.mk (some 13) _ _ _ _ _ :: _) _ _); refine wpList_loadW W25 rfl rfl rfl (encMe m) rfl HM1.out.list ?_)
    refine (clean_any m v l W1 (HG.out.below HB1.out) (HV.out.below HB1.out) HLL.out).mono ?_
    rintro e W2 ⟨⟨v1, rfl, ho⟩, hb2⟩
    have HB2 := Lib.hid (HB1.out.trans (hb2.mono HB1.out.size))
    have HCLN : Hid ((cleanF m l).length ≤ l.length) := by
      show _ ≤ _
      rw [cleanF_pm]
      have h1 := fold_len (l.filter (pm m)) []
      have h2 := List.length_filter_le (pm m) l
      simp only [List.length_nil, Nat.add_zero] at h1
      omega
    obtain ⟨L, hL⟩ : ∃ L, L = cleanF m l := ⟨_, rfl⟩
    rw [← hL] at ho HONE HCLN
    have HR := Lib.hid (Rd.of_owns encF_len ho (by have := HCLN.out; have := HLL.out; omega))
    have HQ1 := Lib.hid (HP1.out.keep hb2)
    have HQ2 := Lib.hid (HP2.out.keep hb2)
    clear hL ho hb2 HM1 HB1 HV HG HP1 HP2
    obtain ⟨va, vc, rfl, -⟩ := HR.out.shape
    have h9 := below1 W2 (.cells #[.slice va L.length vc] 26)
    have HAB : Hid (AB (w.heap.size + 1) (w.heap.size + 1 + 1) W2.heap.size a b (.slice va L.length vc) L (W2.alloc (.cells #[.slice va L.length vc] 26))) := ⟨HQ1.out.keep h9, HQ2.out.keep h9, Blk.new' rfl, HR.out.below h9⟩
    have HB3 : Hid (Below w.heap.size w (W2.alloc (.cells #[.slice va L.length vc] 26))) := HB2.out.trans (h9.mono HB2.out.size)
    clear h9 HQ1 HQ2 HR HB2
    go_upto_region 4 with fail
    change Code.wp _ _ _ _ (W2.alloc (.cells #[.slice va L.length vc] 26))
    generalize W2.alloc (.cells #[.slice va L.length vc] 26) = W3 at *
    generalize W2.heap.size = b9 at *
    have c9 : W3.cell? ⟨b9, 0, none⟩ = some (.slice va L.length vc) := HAB.out.r.one
    have HCO := Lib.hid (contains_any (L.getD 0 F0) (w.heap.size + 1) (w.heap.size + 1 + 1) b9 a b (.slice va L.length vc) L W3 HAB.out (fun hne => by
      cases L with
      | nil => exact absurd rfl hne
      | cons y L => rfl))
    generalize L.length = n at *
    go_wp2_with fail
    refine HCO.out.mono ?_
    rintro e W4 ⟨rfl, hb4⟩
    have HB4 := Lib.hid (HB3.out.trans (hb4.mono HB3.out.size))
    have HE : Hid (L.all (isOne a b (L.getD 0 F0)) = oneF m a b l) := by show _ = _; rw [HONE.out]; rfl
    clear hb4 c9 HCO
    generalize L.all (isOne a b (L.getD 0 F0)) = all at *
    go_wp2
    exact HP.out _ _ HB4.out (by simpa using HE.out)
  · have HE : Hid (false = oneF m a b l) := (if_neg hok).symm
    rw [show errM m = 70 from if_neg hok]
    clear hok
    go_wp2
    exact HP.out _ _ HB1.out HE.out
theorem star_any (m : Me) (v : Value) (l : List Fa) (w : World) (hm : GoodMe w m) (hv : Rd encF 7 w v l) (hl : l.length ≤ 8192) :
    Calls Try.prog 10 #[mev m, v] w fun e w' => e = .returned (.bool (oneF m 7 8 l)) ∧ Below w.heap.size w w' := by
  have HB0 := Lib.hid (below1 w (.cells (encMe m).toArray 25))
  have HM0 : Hid (Blk (w.alloc (.cells (encMe m).toArray 25)) w.heap.size 25 (encMe m).toArray) := Blk.new' rfl
  have HC := Lib.hid (alike_any m 7 8 v l (w.alloc (.cells (encMe m).toArray 25)) (hm.below HB0.out) (hv.below HB0.out) hl)
  clear hm hv
  change Calls Try.prog 10 #[.agg (encMe m).toArray, v] w _
  go_enter Try.func10, Try.ntmps10
  go_upto_region 1 with fail
  change Code.wp _ _ _ _ (w.alloc (.cells (encMe m).toArray 25))
  generalize w.alloc (.cells (encMe m).toArray 25) = W0 at *
  go_wp2_with ((with_reducible show wpList _ _ _ (Oper.mk (some 5) _ _ _ _ _ :: _) _ _); refine wpList_loadW W25 rfl rfl rfl (encMe m) rfl HM0.out.list ?_)
  refine HC.out.mono ?_
  rintro e W1 ⟨rfl, hb1⟩
  have HB1 := Lib.hid (HB0.out.trans (hb1.mono HB0.out.size))
  clear hb1
  go_wp2
  go_ret
  exact ⟨rfl, HB1.out⟩
theorem loud_any (m : Me) (v : Value) (l : List Fa) (w : World) (hm : GoodMe w m) (hv : Rd encF 7 w v l) (hl : l.length ≤ 8192) :
    Calls Try.prog 12 #[mev m, v] w fun e w' => e = .returned (.bool (oneF m 9 10 l)) ∧ Below w.heap.size w w' := by
  have HB0 := Lib.hid (below1 w (.cells (encMe m).toArray 25))
  have HM0 : Hid (Blk (w.alloc (.cells (encMe m).toArray 25)) w.heap.size 25 (encMe m).toArray) := Blk.new' rfl
  have HC := Lib.hid (alike_any m 9 10 v l (w.alloc (.cells (encMe m).toArray 25)) (hm.below HB0.out) (hv.below HB0.out) hl)
  clear hm hv
  change Calls Try.prog 12 #[.agg (encMe m).toArray, v] w _
  go_enter Try.func12, Try.ntmps12
  go_upto_region 1 with fail
  change Code.wp _ _ _ _ (w.alloc (.cells (encMe m).toArray 25))
  generalize w.alloc (.cells (encMe m).toArray 25) = W0 at *
  go_wp2_with ((with_reducible show wpList _ _ _ (Oper.mk (some 5) _ _ _ _ _ :: _) _ _); refine wpList_loadW W25 rfl rfl rfl (encMe m) rfl HM0.out.list ?_)
  refine HC.out.mono ?_
  rintro e W1 ⟨rfl, hb1⟩
  have HB1 := Lib.hid (HB0.out.trans (hb1.mono HB0.out.size))
  clear hb1
  go_wp2
  go_ret
  exact ⟨rfl, HB1.out⟩
end Go.Proofs.Ytmflnbdajaiahaa
