/- The program's same: hosts' interfaces, snaps. -/
import Derived.Test.YtjaaldeaknmmbaaS16
import Derived.Deep.DeepCutAuto
namespace Go.Proofs.Ytjaaldeaknmmbaa
open Go.RowKit Go.Shelf

set_option maxRecDepth 100000 in
theorem bequal_any (l m : List Int) (v v' : Value) (w : World) (h : Byt w v l) (h' : Byt w v' m) : Calls Try.prog 55 #[v, v'] w fun e w' => e = .returned (.bool (decide (l = m))) ∧ w' = w := by
  have HOE := Lib.hid (str_eq h.2 h'.2)
  have k1 := run_string_of Try.underlying34 Try.underlying5 Try.underlying9 (⟨h.1, h.2⟩ : Byts _ _ _)
  have k2 := run_string_of Try.underlying34 Try.underlying5 Try.underlying9 (⟨h'.1, h'.2⟩ : Byts _ _ _)
  obtain ⟨a, c, rfl, q1, q2, q3⟩ := h.1.shape
  obtain ⟨a', c', rfl, r1, r2, r3⟩ := h'.1.shape
  clear h h'
  generalize strOfNums l = sx at *
  generalize strOfNums m = sy at *
  obtain ⟨b, hb⟩ : ∃ b, b = decide (l = m) := ⟨_, rfl⟩
  rw [← hb] at HOE ⊢
  have e1 := HOE.out
  clear hb HOE
  generalize l.length = ln at *
  generalize m.length = mn at *
  go_enter Try.func55, Try.ntmps55
  go_wp2
  go_ret
  exact ⟨rfl, rfl⟩
theorem encMx_one (m : Mx) : ∀ u ∈ encMx m, u.oneCell' = true := encM_one m.ms
set_option maxRecDepth 100000 in
set_option maxHeartbeats 800000 in
theorem clo57_any (m m' : Mx) (w : World) (h : GoodMx w m) (h' : GoodMx w m') : Calls Try.prog 57 #[.agg (encMx m).toArray, .agg (encMx m').toArray] w (SamePost (decide (mxk m = mxk m')) w) := by
  have HP : Hid (∀ b w', b = decide (mxk m = mxk m') → Below w.heap.size w w' → SamePost (decide (mxk m = mxk m')) w (.returned (.bool b)) w') := fun b w' hb h => by rw [← hb]; exact ⟨rfl, h⟩
  have hb2 : Below w.heap.size w ((w.alloc (.cells (encMx m).toArray 60)).alloc (.cells (encMx m').toArray 60)) := below2 w _ _
  have HBX : Hid (Blk ((w.alloc (.cells (encMx m).toArray 60)).alloc (.cells (encMx m').toArray 60)) w.heap.size 60 (encMx m).toArray) := (Blk.new' rfl : Blk _ _ _ _).alloc _
  have HBY : Hid (Blk ((w.alloc (.cells (encMx m).toArray 60)).alloc (.cells (encMx m').toArray 60)) (w.heap.size + 1) 60 (encMx m').toArray) := Blk.new' (by simp)
  have hq := bequal_any m.d.l m'.d.l m.d.v m'.d.v _ ⟨h.1.1.below hb2, h.1.2⟩ ⟨h'.1.1.below hb2, h'.1.2⟩
  have hsz : ((w.alloc (.cells (encMx m).toArray 60)).alloc (.cells (encMx m').toArray 60)).heap.size = w.heap.size + 2 := by simp
  clear h h'
  go_enter Try.func57, Try.ntmps57
  go_upto_region 1 with fail
  generalize (w.alloc (.cells (encMx m).toArray 60)).alloc (.cells (encMx m').toArray 60) = w2 at *
  have HB2 := Lib.hid hb2
  have a0 : w2.cell? ⟨w.heap.size, 0, none⟩ = some m.d.v := HBX.out.list0 rfl
  have a1 : w2.cell? ⟨w.heap.size, 1, none⟩ = some (.int .i64 m.age) := HBX.out.list0 rfl
  have b0 : w2.cell? ⟨w.heap.size + 1, 0, none⟩ = some m'.d.v := HBY.out.list0 rfl
  have b1 : w2.cell? ⟨w.heap.size + 1, 1, none⟩ = some (.int .i64 m'.age) := HBY.out.list0 rfl
  have z1 : w.heap.size < w2.heap.size := by omega
  have z2 : w.heap.size + 1 < w2.heap.size := by omega
  clear hsz hb2
  by_cases h1 : m.age = m'.age
  · have e1 : (m.age == m'.age) = true := by simpa using h1
    have HD : Hid (decide (m.d.l = m'.d.l) = decide (mxk m = mxk m')) := by show _ = _; rw [Bool.eq_iff_iff, decide_eq_true_iff, decide_eq_true_iff, mxk, mxk, Prod.mk.injEq]; exact ⟨fun h => ⟨h1, h⟩, fun h => h.2⟩
    clear h1
    generalize m.d.v = vx at *
    generalize m'.d.v = vy at *
    go_wp2_with (go_at_call 55; refine hq.mono ?_; rintro e w3 ⟨rfl, hw⟩; have hw := hw.symm; subst hw)
    go_ret
    exact HP.out _ _ HD.out HB2.out
  · have e1 : (m.age == m'.age) = false := by simpa using h1
    have HF : Hid (false = decide (mxk m = mxk m')) := by show _ = _; rw [eq_comm, decide_eq_false_iff_not, mxk, mxk, Prod.mk.injEq]; exact fun h => h1 h.1
    clear h1 hq
    go_wp2
    go_ret
    exact HP.out _ _ HF.out HB2.out

set_option maxRecDepth 100000 in
set_option maxHeartbeats 1600000 in
theorem mequal_any (l m : List Mx) (v v' : Value) (w : World) (h : Rd encMx 2 w v l) (h' : Rd encMx 2 w v' m) (hg : ∀ x ∈ l, GoodMx w x) (hg' : ∀ x ∈ m, GoodMx w x) :
    Calls Try.prog 56 #[v, v', .func (.func 57) #[] #[]] w (SamePost (decide (l.map mxk = m.map mxk)) w) := by
  have HP : Hid (∀ b w', b = decide (l.map mxk = m.map mxk) → Below w.heap.size w w' → SamePost (decide (l.map mxk = m.map mxk)) w (.returned (.bool b)) w') := fun b w' hb h => by rw [← hb]; exact ⟨rfl, h⟩
  have HL := Lib.hid h
  have HM := Lib.hid h'
  have HG : Hid (∀ W, Below w.heap.size w W → ∀ k x y, l[k]? = some x → m[k]? = some y → Calls Try.prog 57 #[.agg (encMx x).toArray, .agg (encMx y).toArray] W (SamePost (decide (mxk x = mxk y)) W)) := fun W hW k x y hx hy => by
    have g1 := hg x (List.mem_of_getElem? hx)
    have g2 := hg' y (List.mem_of_getElem? hy)
    exact clo57_any x y W ⟨⟨g1.1.1.below hW, g1.1.2⟩, g1.2⟩ ⟨⟨g2.1.1.below hW, g2.1.2⟩, g2.2⟩
  have HX : Hid (∀ k, k < l.length → ∃ x, l[k]? = some x) := fun k hk => ⟨_, List.getElem?_eq_getElem hk⟩
  have HY : Hid (∀ k, k < m.length → ∃ x, m[k]? = some x) := fun k hk => ⟨_, List.getElem?_eq_getElem hk⟩
  have HST : Hid (∀ k x y, l[k]? = some x → m[k]? = some y → (l.take k).map mxk = (m.take k).map mxk → ((l.take (k + 1)).map mxk = (m.take (k + 1)).map mxk ↔ mxk x = mxk y)) := fun k x y hx hy he => by
    rw [map_snoc mxk hx, map_snoc mxk hy, he]; simp
  have HNT : Hid (∀ k, (l.take k).map mxk ≠ (m.take k).map mxk → l.map mxk ≠ m.map mxk) := fun k hn e => hn (by rw [List.map_take, List.map_take, e])
  have HTK : Hid (∀ k, l.length ≤ k → m.length ≤ k → (l.take k).map mxk = (m.take k).map mxk → l.map mxk = m.map mxk) := fun k h1 h2 h3 => by rwa [List.take_of_length_le h1, List.take_of_length_le h2] at h3
  have HLN : Hid (l.map mxk = m.map mxk → l.length = m.length) := fun e => by have := congrArg List.length e; simpa using this
  obtain ⟨a, c, rfl, q1, q2, q3⟩ := h.shape
  obtain ⟨a', c', rfl, r1, r2, r3⟩ := h'.shape
  clear h h' hg hg'
  generalize l.length = n at *
  generalize m.length = n' at *
  by_cases hn : n = n'
  · subst hn
    have e0 : ((n : Int) != (n : Int)) = false := by simp
    have e0' : (n != n) = false := by simp
    go_enter Try.func56, Try.ntmps56
    go_wp2
    go_loopw [17] (fun i wr => ∃ k : Nat, k ≤ n ∧ i = .int .i64 k ∧ Hid ((l.take k).map mxk = (m.take k).map mxk) ∧ Hid (Below w.heap.size w wr)) (fun i _ => n - (intOf i).toNat)
    case atStart => exact ⟨0, Nat.zero_le _, rfl, rfl, Below.refl _ _⟩
    case round =>
      obtain ⟨k, hk, rfl, HI, HW⟩ := hrel
      by_cases hlt : k < n
      · obtain ⟨x, hx⟩ := HX.out k hlt
        obtain ⟨y, hy⟩ := HY.out k hlt
        obtain ⟨b, off, rfl, hbl, hc⟩ := (HL.out.below HW.out).row (by rintro rfl; simp at hx)
        obtain ⟨b', off', rfl, hbl', hc'⟩ := (HM.out.below HW.out).row (by rintro rfl; simp at hy)
        have HC : Hid (∀ j u, (encMx x)[j]? = some u → wr.cell? ⟨b, off + k * 2 + j, none⟩ = some u) := hc k x hx
        have HC' : Hid (∀ W, Below wr.heap.size wr W → ∀ j u, (encMx y)[j]? = some u → W.cell? ⟨b', off' + k * 2 + j, none⟩ = some u) := fun W hW j u hj => by rw [hW.cell (p := ⟨b', off' + k * 2 + j, none⟩) hbl']; exact hc' k y hy j u hj
        have HCON : Hid (∀ W, Below w.heap.size w W → Calls Try.prog 57 #[.agg (encMx x).toArray, .agg (encMx y).toArray] W (SamePost (decide (mxk x = mxk y)) W)) := fun W hW => HG.out W hW k x y hx hy
        have HS := Lib.hid (HST.out k x y hx hy HI.out)
        have hbs := HW.out.size
        obtain ⟨bq, hbq⟩ : ∃ bq, bq = decide (mxk x = mxk y) := ⟨_, rfl⟩
        rw [← hbq] at HCON
        have HBQ := Lib.hid hbq
        clear hx hy hc hc' hbq
        cases bq with
        | true =>
          have HI2 : Hid ((l.take (k + 1)).map mxk = (m.take (k + 1)).map mxk) := HS.out.2 (of_decide_eq_true HBQ.out.symm)
          go_wp2_with (first
            | ((with_reducible show wpList _ _ _ (Oper.mk (some 21) _ _ _ _ _ :: _) _ _); refine wpList_loadW W60 rfl rfl rfl (encMx x) rfl HC.out ?_)
            | ((with_reducible show wpList _ _ _ (Oper.mk none (Op.store 60 (Operand.tmp 8) _) _ _ _ _ :: _) _ _); refine wpList_boxW W60 rfl rfl rfl (encMx x) rfl rfl (encMx_one x) rfl ?_; go_must (intro W1 hX hal hz1; have HBX := Lib.hid hX; have HA1 := Lib.hid hal; have HCY := Lib.hid (HC'.out _ hal); have zz : wr.heap.size < W1.heap.size := (by omega); clear hX hal hz1))
            | ((with_reducible show wpList _ _ _ (Oper.mk (some 25) _ _ _ _ _ :: _) _ _); refine wpList_loadW W60 rfl rfl rfl (encMx y) rfl HCY.out ?_)
            | ((with_reducible show wpList _ _ _ (Oper.mk none (Op.store 60 (Operand.tmp 9) _) _ _ _ _ :: _) _ _); refine wpList_boxW W60 rfl rfl rfl (encMx y) rfl rfl (encMx_one y) rfl ?_; go_must (intro W2 hX hal hz1; have HBX2 := Lib.hid (HBX.out.keep hal).list; have HBY := Lib.hid hX.list; have HB2 := Lib.hid (HW.out.trans ((HA1.out.trans (hal.mono (Nat.le_of_lt zz))).mono hbs)); have zy : W1.heap.size < W2.heap.size := (by omega); clear hX hal hz1))
            | ((with_reducible show wpList _ _ _ (Oper.mk (some 27) _ _ _ _ _ :: _) _ _); refine wpList_loadW W60 rfl rfl rfl (encMx x) rfl HBX2.out ?_)
            | ((with_reducible show wpList _ _ _ (Oper.mk (some 28) _ _ _ _ _ :: _) _ _); refine wpList_loadW W60 rfl rfl rfl (encMx y) rfl HBY.out ?_)
            | (go_at_call 57; refine (HCON.out W2 HB2.out).mono ?_; go_must (rintro e w3 ⟨rfl, hb⟩; have HB3 := Lib.hid (HB2.out.trans (hb.mono HB2.out.size)); clear hb)))
          go_roundw
          case rel => exact ⟨k + 1, by omega, by go_num, HI2, HB3⟩
          case measure => simp [intOf]; omega
        | false =>
          have HF : Hid (false = decide (l.map mxk = m.map mxk)) := by
            show _ = _
            rw [eq_comm, decide_eq_false_iff_not]
            exact fun h => of_decide_eq_false HBQ.out.symm (HS.out.1 (Classical.byContradiction fun hn => HNT.out _ hn h))
          go_wp2_with (first
            | ((with_reducible show wpList _ _ _ (Oper.mk (some 21) _ _ _ _ _ :: _) _ _); refine wpList_loadW W60 rfl rfl rfl (encMx x) rfl HC.out ?_)
            | ((with_reducible show wpList _ _ _ (Oper.mk none (Op.store 60 (Operand.tmp 8) _) _ _ _ _ :: _) _ _); refine wpList_boxW W60 rfl rfl rfl (encMx x) rfl rfl (encMx_one x) rfl ?_; go_must (intro W1 hX hal hz1; have HBX := Lib.hid hX; have HA1 := Lib.hid hal; have HCY := Lib.hid (HC'.out _ hal); have zz : wr.heap.size < W1.heap.size := (by omega); clear hX hal hz1))
            | ((with_reducible show wpList _ _ _ (Oper.mk (some 25) _ _ _ _ _ :: _) _ _); refine wpList_loadW W60 rfl rfl rfl (encMx y) rfl HCY.out ?_)
            | ((with_reducible show wpList _ _ _ (Oper.mk none (Op.store 60 (Operand.tmp 9) _) _ _ _ _ :: _) _ _); refine wpList_boxW W60 rfl rfl rfl (encMx y) rfl rfl (encMx_one y) rfl ?_; go_must (intro W2 hX hal hz1; have HBX2 := Lib.hid (HBX.out.keep hal).list; have HBY := Lib.hid hX.list; have HB2 := Lib.hid (HW.out.trans ((HA1.out.trans (hal.mono (Nat.le_of_lt zz))).mono hbs)); have zy : W1.heap.size < W2.heap.size := (by omega); clear hX hal hz1))
            | ((with_reducible show wpList _ _ _ (Oper.mk (some 27) _ _ _ _ _ :: _) _ _); refine wpList_loadW W60 rfl rfl rfl (encMx x) rfl HBX2.out ?_)
            | ((with_reducible show wpList _ _ _ (Oper.mk (some 28) _ _ _ _ _ :: _) _ _); refine wpList_loadW W60 rfl rfl rfl (encMx y) rfl HBY.out ?_)
            | (go_at_call 57; refine (HCON.out W2 HB2.out).mono ?_; go_must (rintro e w3 ⟨rfl, hb⟩; have HB3 := Lib.hid (HB2.out.trans (hb.mono HB2.out.size)); clear hb)))
          go_ret
          exact HP.out _ _ HF.out HB3.out
      · obtain rfl : n = k := by omega
        have HF : Hid (true = decide (l.map mxk = m.map mxk)) := by
          show _ = _
          rw [eq_comm, decide_eq_true_iff]
          exact HTK.out n (Nat.le_refl _) (Nat.le_refl _) HI.out
        go_wp2
        go_ret
        exact HP.out _ _ HF.out HW.out
  · have e0 : ((n : Int) != (n' : Int)) = true := by rw [bne_iff_ne]; omega
    have e0' : (n != n') = true := by rw [bne_iff_ne]; omega
    have HF : Hid (false = decide (l.map mxk = m.map mxk)) := by show _ = _; rw [eq_comm, decide_eq_false_iff_not]; exact fun h => hn (HLN.out h)
    clear hn
    go_enter Try.func56, Try.ntmps56
    go_wp2
    go_ret
    exact HP.out _ _ HF.out (Below.refl _ _)

set_option maxRecDepth 100000 in
set_option maxHeartbeats 1600000 in
theorem sameH_any (x y : Sx) (w : World) (hx : GoodX w x) (hy : GoodX w y) :
    Calls Try.prog 50 #[.agg (encH x.s).toArray, .agg (encH y.s).toArray] w (SamePost (decide (SameH x y)) w) := by
  have HP : Hid (∀ b w', b = decide (SameH x y) → Below w.heap.size w w' → SamePost (decide (SameH x y)) w (.returned (.bool b)) w') := fun b w' hb h => by rw [← hb]; exact ⟨rfl, h⟩
  have HSH : Hid (SameH x y = (x.s.hi = y.s.hi ∧ x.out = y.out ∧ x.s.lf = y.s.lf ∧ x.s.wt = y.s.wt ∧ x.ms.map mxk = y.ms.map mxk)) := rfl
  have hb2 : Below w.heap.size w ((w.alloc (.cells (encH x.s).toArray 37)).alloc (.cells (encH y.s).toArray 37)) := below2 w _ _
  have HBX : Hid (Blk ((w.alloc (.cells (encH x.s).toArray 37)).alloc (.cells (encH y.s).toArray 37)) w.heap.size 37 (encH x.s).toArray) := (Blk.new' rfl : Blk _ _ _ _).alloc _
  have HBY : Hid (Blk ((w.alloc (.cells (encH x.s).toArray 37)).alloc (.cells (encH y.s).toArray 37)) (w.heap.size + 1) 37 (encH y.s).toArray) := Blk.new' (by simp)
  have HX := Lib.hid (hx.below hb2)
  have HY := Lib.hid (hy.below hb2)
  have hsz : ((w.alloc (.cells (encH x.s).toArray 37)).alloc (.cells (encH y.s).toArray 37)).heap.size = w.heap.size + 2 := by simp
  clear hx hy
  go_enter Try.func50, Try.ntmps50
  go_upto_region 1 with fail
  generalize ((w.alloc (.cells (encH x.s).toArray 37)).alloc (.cells (encH y.s).toArray 37)) = w2 at *
  have HB2 := Lib.hid hb2
  have z1 : w.heap.size < w2.heap.size := by omega
  have z2 : w.heap.size + 1 < w2.heap.size := by omega
  clear hsz hb2
  have a0 : w2.cell? ⟨w.heap.size, 0, none⟩ = some (.int .i64 x.s.hi) := HBX.out.list0 rfl
  have b0 : w2.cell? ⟨w.heap.size + 1, 0, none⟩ = some (.int .i64 y.s.hi) := HBY.out.list0 rfl
  have a1 : w2.cell? ⟨w.heap.size, 1, none⟩ = some (.slice x.s.oa x.s.on x.s.oc) := HBX.out.list0 rfl
  have b1 : w2.cell? ⟨w.heap.size + 1, 1, none⟩ = some (.slice y.s.oa y.s.on y.s.oc) := HBY.out.list0 rfl
  have a2 : w2.cell? ⟨w.heap.size, 2, none⟩ = some (.slice x.s.ia x.s.nn x.s.ic) := HBX.out.list0 rfl
  have b2 : w2.cell? ⟨w.heap.size + 1, 2, none⟩ = some (.slice y.s.ia y.s.nn y.s.ic) := HBY.out.list0 rfl
  have a3 : w2.cell? ⟨w.heap.size, 3, none⟩ = some (.int .i64 x.s.lf) := HBX.out.list0 rfl
  have b3 : w2.cell? ⟨w.heap.size + 1, 3, none⟩ = some (.int .i64 y.s.lf) := HBY.out.list0 rfl
  have a4 : w2.cell? ⟨w.heap.size, 4, none⟩ = some (.int .i64 x.s.wt) := HBX.out.list0 rfl
  have b4 : w2.cell? ⟨w.heap.size + 1, 4, none⟩ = some (.int .i64 y.s.wt) := HBY.out.list0 rfl
  have hq := bequal_any x.out y.out _ _ w2 HX.out.out HY.out.out
  have hm := mequal_any x.ms y.ms _ _ w2 HX.out.inn HY.out.inn HX.out.each HY.out.each
  by_cases h1 : x.s.hi = y.s.hi
  · have Hh1 := Lib.hid h1
    have e1 : (x.s.hi == y.s.hi) = true := by simpa using h1
    clear h1
    by_cases h2 : x.s.lf = y.s.lf
    · have Hh2 := Lib.hid h2
      have e2 : (x.s.lf == y.s.lf) = true := by simpa using h2
      clear h2
      by_cases h3 : x.s.wt = y.s.wt
      · have Hh3 := Lib.hid h3
        have e3 : (x.s.wt == y.s.wt) = true := by simpa using h3
        clear h3
        by_cases h4 : x.out = y.out
        · have Hh4 := Lib.hid h4
          have e4 : decide (x.out = y.out) = true := decide_eq_true h4
          clear h4
          have HD : Hid (decide (x.ms.map mxk = y.ms.map mxk) = decide (SameH x y)) := by show _ = _; rw [Bool.eq_iff_iff, decide_eq_true_iff, decide_eq_true_iff, HSH.out]; exact ⟨fun h => ⟨Hh1.out, Hh4.out, Hh2.out, Hh3.out, h⟩, fun h => h.2.2.2.2⟩
          rw [HD.out] at hm
          go_wp2_with (first | (go_at_call 55; refine hq.mono ?_; rintro e w3 ⟨rfl, hw⟩; have hw := hw.symm; subst hw; go_must (rw [e4])) | (go_at_call 56; refine hm.mono ?_; go_must (rintro e w3 ⟨rfl, hb⟩; have HB3 := Lib.hid (HB2.out.trans (hb.mono (by omega))); clear hb)))
          go_ret
          exact HP.out _ _ rfl HB3.out
        · have e4 : decide (x.out = y.out) = false := decide_eq_false h4
          have HF : Hid (false = decide (SameH x y)) := by show _ = _; rw [eq_comm, decide_eq_false_iff_not, HSH.out]; exact fun h => h4 h.2.1
          clear h4
          go_wp2_with (first | ((with_reducible show wpList _ _ _ (Oper.mk (some 32) _ _ _ _ _ :: _) _ _); refine (wpList_skipU rfl (wpList_skipU rfl (wpList_skipU rfl (wpList_skipU rfl (wpList_skipU rfl ?_)))))) | (go_at_call 55; refine hq.mono ?_; rintro e w3 ⟨rfl, hw⟩; have hw := hw.symm; subst hw; go_must (rw [e4])))
          go_ret
          exact HP.out false _ HF.out HB2.out
      · have e3 : (x.s.wt == y.s.wt) = false := by simpa using h3
        have HF : Hid (false = decide (SameH x y)) := by show _ = _; rw [eq_comm, decide_eq_false_iff_not, HSH.out]; exact fun h => h3 h.2.2.2.1
        clear h3
        go_wp2_with (first | ((with_reducible show wpList _ _ _ (Oper.mk (some 25) _ _ _ _ _ :: _) _ _); refine (wpList_skipU rfl (wpList_skipU rfl (wpList_skipU rfl (wpList_skipU rfl (wpList_skipU rfl ?_)))))) | ((with_reducible show wpList _ _ _ (Oper.mk (some 32) _ _ _ _ _ :: _) _ _); refine (wpList_skipU rfl (wpList_skipU rfl (wpList_skipU rfl (wpList_skipU rfl (wpList_skipU rfl ?_)))))))
        go_ret
        exact HP.out false _ HF.out HB2.out
    · have e2 : (x.s.lf == y.s.lf) = false := by simpa using h2
      have HF : Hid (false = decide (SameH x y)) := by show _ = _; rw [eq_comm, decide_eq_false_iff_not, HSH.out]; exact fun h => h2 h.2.2.1
      clear h2
      go_wp2_with (first | ((with_reducible show wpList _ _ _ (Oper.mk (some 18) _ _ _ _ _ :: _) _ _); refine (wpList_skipU rfl (wpList_skipU rfl (wpList_skipU rfl (wpList_skipU rfl (wpList_skipU rfl ?_)))))) | ((with_reducible show wpList _ _ _ (Oper.mk (some 25) _ _ _ _ _ :: _) _ _); refine (wpList_skipU rfl (wpList_skipU rfl (wpList_skipU rfl (wpList_skipU rfl (wpList_skipU rfl ?_)))))) | ((with_reducible show wpList _ _ _ (Oper.mk (some 32) _ _ _ _ _ :: _) _ _); refine (wpList_skipU rfl (wpList_skipU rfl (wpList_skipU rfl (wpList_skipU rfl (wpList_skipU rfl ?_)))))))
      go_ret
      exact HP.out false _ HF.out HB2.out
  · have e1 : (x.s.hi == y.s.hi) = false := by simpa using h1
    have HF : Hid (false = decide (SameH x y)) := by show _ = _; rw [eq_comm, decide_eq_false_iff_not, HSH.out]; exact fun h => h1 h.1
    clear h1
    go_wp2_with (first | ((with_reducible show wpList _ _ _ (Oper.mk (some 11) _ _ _ _ _ :: _) _ _); refine (wpList_skipU rfl (wpList_skipU rfl (wpList_skipU rfl (wpList_skipU rfl (wpList_skipU rfl ?_)))))) | ((with_reducible show wpList _ _ _ (Oper.mk (some 18) _ _ _ _ _ :: _) _ _); refine (wpList_skipU rfl (wpList_skipU rfl (wpList_skipU rfl (wpList_skipU rfl (wpList_skipU rfl ?_)))))) | ((with_reducible show wpList _ _ _ (Oper.mk (some 25) _ _ _ _ _ :: _) _ _); refine (wpList_skipU rfl (wpList_skipU rfl (wpList_skipU rfl (wpList_skipU rfl (wpList_skipU rfl ?_)))))) | ((with_reducible show wpList _ _ _ (Oper.mk (some 32) _ _ _ _ _ :: _) _ _); refine (wpList_skipU rfl (wpList_skipU rfl (wpList_skipU rfl (wpList_skipU rfl (wpList_skipU rfl ?_)))))))
    go_ret
    exact HP.out false _ HF.out HB2.out
end Go.Proofs.Ytjaaldeaknmmbaa
