/- SignalLater: the walk. -/
import Derived.Test.YtehgiagefiakkaaB21
namespace Go.Proofs.Ytehgiagefiakkaa
open Go.RowKit Go.Shelf
open Sched (Sp bad)
open Sig

theorem far_any (f t : Int) (w : World) : Calls Try.prog 23 #[.agg #[.int .i64 f, .int .i64 t]] w fun e w' => e = .returned (.bool (farSp (f, t))) ∧ Below w.heap.size w w' := by
  have HF : Hid (farSp (f, t) = (decide (f < 0) || decide (t < 0) || decide (549755813888 < f) || decide (549755813888 < t))) := rfl
  generalize farSp _ = z at *
  go_enter Try.func23, Try.ntmps23
  go_wp2
  all_goals go_ret
  all_goals exact ⟨ret_bool (by rw [HF.out, Bool.eq_iff_iff]; try (first | (simp; done) | (simp; omega))), below1 _ _⟩
theorem later_any (f t d : Int) (g : Nat) (hd : 0 ≤ d ∧ d ≤ 4294967295) (hf : farSp (f, t) = false) (w : World) (hg : w.cell? ⟨g, 0, none⟩ = some (.int .i64 d)) :
    Calls Try.prog 22 #[.agg #[.int .i64 f, .int .i64 t], .pointer (some ⟨g, 0, none⟩)] w fun e w' => e = .returned (.agg #[.int .i64 (f + d), .int .i64 (t + d)]) ∧ Below w.heap.size w w' := by
  unfold farSp at hf
  simp only [Bool.or_eq_false_iff, decide_eq_false_iff_not] at hf
  obtain ⟨⟨⟨h1, h2⟩, h3⟩, h4⟩ := hf
  have hlt := World.block_lt_of_cell? _ _ hg
  have b1 : 0 ≤ f := by omega
  have b2 : 0 ≤ t := by omega
  have b3 : f ≤ 549755813888 := by omega
  have b4 : t ≤ 549755813888 := by omega
  have b5 := hd.1
  have b6 := hd.2
  clear h1 h2 h3 h4 hd
  go_enter Try.func22, Try.ntmps22
  go_wp2
  refine bodyPost_ret (v := .agg #[.int .i64 (f + d), .int .i64 (t + d)]) (by simp [results, Try.results22, go_sem]) rfl ⟨rfl, below2 w _ _⟩

theorem judge_at {l : List Sg} {slot win : Sp} {th : Int} (hl : ∀ s ∈ l, farSp s.sp = false) : 0 ≤ (judge l slot win th).at_ ∧ (judge l slot win th).at_ ≤ 549755813888 := by
  rw [judge_filter]
  have hf : ∀ s ∈ l.filter (hit slot th), farSp s.sp = false := fun s hm => hl s (List.mem_filter.1 hm).1
  generalize l.filter (hit slot th) = fs at *
  match fs, hf with
  | [], _ => exact ⟨by simp [judgeS], by simp [judgeS]⟩
  | [s], hf =>
    have h := hf s (by simp)
    unfold farSp at h
    simp only [Bool.or_eq_false_iff, decide_eq_false_iff_not] at h
    simp only [judgeS]
    split
    · simp only; omega
    · simp
  | _ :: _ :: _, _ => exact ⟨by simp [judgeS], by simp [judgeS]⟩

theorem own_ne {w : World} {base : Nat} {e : TypeId} {size : Nat} {v : Value} {n : Nat} {xs : List Value} (h : w.ownsRow base e size v n xs) : v.ownBlock ≠ some w.heap.size := fun e' => by
  have := (h.lt _ e').2
  omega
/-- The first k, later. -/
def lts (d : Int) (l : List Sg) (k : Nat) : List Sg := (l.take k).map (late d)
theorem lts_succ {d : Int} {l : List Sg} {k : Nat} {s : Sg} (h : l[k]? = some s) : lts d l (k + 1) = lts d l k ++ [late d s] := by
  unfold lts; rw [take_snoc h, List.map_append]; rfl
theorem lts_len (d : Int) (l : List Sg) (k : Nat) : (lts d l k).length ≤ k := by
  unfold lts; rw [List.length_map]; exact List.length_take_le _ _
theorem lateSn_eq (d kx mx nx : Int) (B : List Int) : lateSn d ⟨kx, mx, nx, B⟩ = ⟨kx, if kx = 2 then mx + d else mx, nx, B⟩ := by
  unfold lateSn; split <;> rfl
theorem good_late {W : World} {s : Sg} {d : Int} (hd0 : 0 ≤ d) (hd1 : d ≤ 4294967295) (h : GoodSg W s) (hf : farSp s.sp = false) : GoodSg W (late d s) := by
  obtain ⟨h1, h2, h3, h4, h5⟩ := h
  unfold farSp at hf
  simp only [Bool.or_eq_false_iff, decide_eq_false_iff_not] at hf
  exact ⟨h1, h2, by simp only [late, lateSp]; unfold I64; omega, by simp only [late, lateSp]; unfold I64; omega, h5⟩
/-- The boxes of slot, window and how much later. -/
def MB (w W : World) (sf st wf wt d : Int) : Prop :=
  Blk W w.heap.size 23 #[.int .i64 sf, .int .i64 st] ∧ Blk W (w.heap.size + 1) 23 #[.int .i64 wf, .int .i64 wt] ∧ Blk W (w.heap.size + 1 + 1) 2 #[.int .i64 d] ∧ Below w.heap.size w W
theorem MB.keep {w W W' : World} {sf st wf wt d : Int} (h : MB w W sf st wf wt d) (hb : Below W.heap.size W W') : MB w W' sf st wf wt d :=
  ⟨h.1.keep' hb, h.2.1.keep' hb, h.2.2.1.keep' hb, h.2.2.2.trans (hb.mono h.2.2.2.size)⟩
theorem MB.cells {w W : World} {sf st wf wt d : Int} (h : MB w W sf st wf wt d) : W.cell? ⟨w.heap.size, 0, none⟩ = some (.int .i64 sf) ∧ W.cell? ⟨w.heap.size, 1, none⟩ = some (.int .i64 st) ∧ W.cell? ⟨w.heap.size + 1, 0, none⟩ = some (.int .i64 wf) ∧ W.cell? ⟨w.heap.size + 1, 1, none⟩ = some (.int .i64 wt) ∧ W.cell? ⟨w.heap.size + 1 + 1, 0, none⟩ = some (.int .i64 d) :=
  ⟨h.1.cell 0, h.1.cell 1, h.2.1.cell 0, h.2.1.cell 1, h.2.2.1.cell 0⟩

set_option maxRecDepth 100000 in
set_option maxHeartbeats 6400000 in
theorem later_walk (l : List Sg) (v : Value) (slot win : Sp) (th d : Int) (hd0 : 0 ≤ d) (hd1 : d ≤ 4294967295) (w : World) (h : Sgs w v l) :
    Calls Try.prog 5 #[v, spv slot, spv win, .int .i64 th, .int .u32 d] w fun e w' => e = .returned (.bool true) ∧ Below w.heap.size w w' := by
  have hfew := fun W (hW : Below w.heap.size w W) => few_any l v W (h.below hW)
  have hl60 : (l.take 60).length ≤ 60 := by rw [List.length_take]; omega
  obtain ⟨l', HL'⟩ : ∃ l', Hid (l.take 60 = l') := ⟨_, rfl⟩
  rw [HL'.out] at hfew hl60
  have hf1 := fun W => far_any slot.1 slot.2 W
  have hf2 := fun W => far_any win.1 win.2 W
  have HJD : Hid ((∀ s ∈ l', farSp s.sp = false) → farSp slot = false → farSp win = false → judge (l'.map (late d)) (lateSp d slot) (lateSp d win) th = lateSn d (judge l' slot win th)) := fun a b c => judge_late a b c hd0 hd1
  have HJA : Hid ((∀ s ∈ l', farSp s.sp = false) → 0 ≤ (judge l' slot win th).at_ ∧ (judge l' slot win th).at_ ≤ 549755813888) := fun a => judge_at a
  have hj1 := fun W v' (hs : Sgs W v' l') => judge_any l' v' slot win th W hs
  have HJ2 : Hid (∀ W v', Sgs W v' (l'.map (late d)) → _) := fun W v' hs => judge_any (l'.map (late d)) v' (lateSp d slot) (lateSp d win) th W hs
  obtain ⟨sf, st⟩ := slot
  obtain ⟨wf, wt⟩ := win
  unfold JudgePost spv snv at hj1
  unfold spv
  simp only at hj1 hf1 hf2 ⊢
  have HJ : Hid (MB w (((w.alloc (.cells #[.int .i64 sf, .int .i64 st] 23)).alloc (.cells #[.int .i64 wf, .int .i64 wt] 23)).alloc (.cells #[.int .i64 d] 2)) sf st wf wt d) :=
    ⟨((Blk.new' rfl).alloc _).alloc _, (Blk.new' (by simp)).alloc _, Blk.new' (by simp), below3 w _ _ _⟩
  obtain ⟨a0, c0, rfl, _⟩ := h.1.shape
  generalize hp1 : farSp (sf, st) = p1 at *
  generalize hp2 : farSp (wf, wt) = p2 at *
  have HP1 := Lib.hid hp1
  have HP2 := Lib.hid hp2
  have HSW : Hid (∀ W, Below w.heap.size w W → Below w.heap.size w W) := fun _ h => h
  clear h hp1 hp2 HL' HSW
  go_enter Try.func5, Try.ntmps5
  go_wp2_with fail
  refine (hfew _ (below2 w _ _)).mono ?_
  rintro e w0 ⟨⟨v', rfl, hs⟩, rfl⟩
  obtain ⟨a, c, rfl, q1, q2, q3⟩ := hs.1.shape
  have HS := Lib.hid (hs.below (below1 _ (.cells #[.int .i64 d] 2)))
  clear hs hfew
  go_wp2_with fail
  refine (begun_any _).mono ?_
  rintro e w1 ⟨rfl, hb⟩
  replace HJ := Lib.hid (HJ.out.keep hb)
  replace HS := Lib.hid (HS.out.below hb); clear hb
  obtain ⟨sl0, sl1, wi0, wi1, dd0⟩ := HJ.out.cells; have hz2 := HJ.out.2.2.1.lt; have hz1 := HJ.out.2.1.lt; have hz0 := HJ.out.1.lt
  go_wp2_with fail
  refine (hf1 _).mono ?_
  rintro e w2 ⟨rfl, hb⟩
  clear hz0 hz1 hz2 sl0 sl1 wi0 wi1 dd0
  replace HJ := Lib.hid (HJ.out.keep hb)
  replace HS := Lib.hid (HS.out.below hb); clear hb
  cases p1
  rotate_left
  · go_wp2_with fail
    refine (begun_any _).mono ?_
    rintro e w3 ⟨rfl, hb⟩
    go_wp2
    go_ret
    exact ⟨rfl, (HJ.out.keep hb).2.2.2⟩
  obtain ⟨sl0, sl1, wi0, wi1, dd0⟩ := HJ.out.cells; have hz2 := HJ.out.2.2.1.lt; have hz1 := HJ.out.2.1.lt; have hz0 := HJ.out.1.lt
  go_wp2_with fail
  refine (hf2 _).mono ?_
  rintro e w3 ⟨rfl, hb⟩
  clear hz0 hz1 hz2 sl0 sl1 wi0 wi1 dd0
  replace HJ := Lib.hid (HJ.out.keep hb)
  replace HS := Lib.hid (HS.out.below hb); clear hb
  cases p2
  rotate_left
  · go_wp2_with fail
    refine (begun_any _).mono ?_
    rintro e w3 ⟨rfl, hb⟩
    go_wp2
    go_ret
    exact ⟨rfl, (HJ.out.keep hb).2.2.2⟩
  obtain ⟨sl0, sl1, wi0, wi1, dd0⟩ := HJ.out.cells; have hz2 := HJ.out.2.2.1.lt; have hz1 := HJ.out.2.1.lt; have hz0 := HJ.out.1.lt
  obtain ⟨i0, hi, hy0, hy1, hy2⟩ := info_parts E37.info
  go_wp2_with (at_make; refine wpList_make_own _ rfl _ _ 37 rfl w3.heap.size 28 i0 _ 6 Try.underlying37 hi hy0 hy1 _ _ _ l'.length rfl rfl rfl (by rw [hy2]; omega) (by unfold maxLen; omega) (Nat.le_refl _) ?_; intro w4 ho hg; have HO := Lib.hid ho; have HB := Lib.hid ((Below.refl w3.heap.size w3).grown hg (Nat.le_refl _) (fun k e => by cases e)); clear ho hg)
  clear hz0 hz1 hz2 sl0 sl1 wi0 wi1 dd0
  go_loopw [14, 42] (fun v i wr => ∃ k : Nat, k ≤ l'.length ∧ i = .int .i64 k ∧ Hid (wr.ownsRow w3.heap.size 28 6 v (lts d l' k).length ((lts d l' k).flatMap encSg)) ∧ Hid (Below w3.heap.size w3 wr) ∧ Hid (∀ s ∈ l'.take k, farSp s.sp = false)) (fun _ i _ => l'.length - (intOf i).toNat)
  case atStart => exact ⟨0, Nat.zero_le _, rfl, HO.out, HB.out, fun s hs => by simp at hs⟩
  clear HO HB
  case round =>
    obtain ⟨k, hk, rfl, HO, HB, HK⟩ := hrel
    by_cases hlt : k < l'.length
    · obtain ⟨s, hs0⟩ : ∃ s, l'[k]? = some s := ⟨_, List.getElem?_eq_getElem hlt⟩
      have hSg := HS.out.below HB.out
      obtain ⟨b, off, rfl, hbl, hcc⟩ := hSg.1.row (by rintro rfl; simp at hlt)
      obtain ⟨e0, e1, e2, e3, e4, e5⟩ := sg_cells hcc hs0
      have hfl := lts_len d l' k
      have HY := Lib.hid (@lts_succ d l' k s hs0)
      have HT := Lib.hid (take_snoc hs0)
      have hbs := HB.out.size
      have hne := own_ne HO.out
      obtain ⟨oa, oc, rfl, _, _, _⟩ := owns_shape HO.out
      have HNE := Lib.hid hne
      clear hSg hcc hs0 hne
      obtain ⟨fr, ⟨f, t⟩, lv, n, a, c, Bs⟩ := s
      simp only at e0 e1 e2 e3 e4 e5 HY
      generalize hLb : Bs.length = Lb at *
      generalize hFk : lts d l' k = Fk at *
      have HL := Lib.hid hLb
      clear hLb hFk
      go_upto_region 11 with fail
      have D : Blk (wr.alloc (.cells #[.int .i64 fr, .int .i64 f, .int .i64 t, .int .i64 lv, .int .i64 n, .slice a Lb c] 28)) wr.heap.size 28 #[.int .i64 fr, .int .i64 f, .int .i64 t, .int .i64 lv, .int .i64 n, .slice a Lb c] := Blk.new' rfl
      replace HO := Lib.hid (HO.out.alloc (.cells #[.int .i64 fr, .int .i64 f, .int .i64 t, .int .i64 lv, .int .i64 n, .slice a Lb c] 28))
      replace HB := Lib.hid (HB.out.alloc (by omega) (.cells #[.int .i64 fr, .int .i64 f, .int .i64 t, .int .i64 lv, .int .i64 n, .slice a Lb c] 28))
      clear e0 e1 e2 e3 e4 e5 hbl
      generalize wr.heap.size = D0 at *
      generalize wr.alloc (.cells #[.int .i64 fr, .int .i64 f, .int .i64 t, .int .i64 lv, .int .i64 n, .slice a Lb c] 28) = wr1 at *
      have hw1 := HB.out.size
      obtain ⟨e0, e1, e2, e3, e4, e5⟩ := blk6 D
      have hfs := fun W => far_any f t W
      have hla := fun hf W hg => later_any f t d (w.heap.size + 1 + 1) ⟨hd0, hd1⟩ hf W hg
      generalize hq : farSp (f, t) = q at *
      have HQ := Lib.hid hq
      clear hq
      go_wp2_with fail
      refine (hfs _).mono ?_
      rintro e wA ⟨rfl, hb⟩
      have HBA := Lib.hid (HB.out.trans (hb.mono hw1))
      clear e0 e1 e2 e3 e4 e5 hfs
      cases q
      rotate_left
      · go_wp2
        go_ret
        exact ⟨rfl, (HJ.out.keep HBA.out).2.2.2⟩
      have hla2 := hla rfl
      clear hla
      replace D := Blk.keep' D hb
      replace HO := Lib.hid (ow_below HO.out hb)
      obtain ⟨e0, e1, e2, e3, e4, e5⟩ := blk6 D
      have hwA := HBA.out.size
      clear hb HB hw1
      have hdd := (HJ.out.keep HBA.out).cells.2.2.2.2
      go_wp2_with fail
      refine (hla2 _ hdd).mono ?_
      rintro e wB ⟨rfl, hb⟩
      have HBB := Lib.hid (HBA.out.trans (hb.mono hwA))
      clear e0 e1 e2 e3 e4 e5 hla2 hdd
      replace D := Blk.keep' D hb
      replace HO := Lib.hid (ow_below HO.out hb)
      have hwB := HBB.out.size
      clear hb HBA hwA
      have D' : Blk ((wB.setCell ⟨D0, 1, none⟩ (.int .i64 (f + d))).setCell ⟨D0, 2, none⟩ (.int .i64 (t + d))) D0 28 #[.int .i64 fr, .int .i64 (f + d), .int .i64 (t + d), .int .i64 lv, .int .i64 n, .slice a Lb c] := by simpa using (D.set 1 (.int .i64 (f + d))).set 2 (.int .i64 (t + d))
      replace HO := Lib.hid ((HO.out.kept (grownBy_setCell wB ⟨D0, 1, none⟩ (.int .i64 (f + d))) (.inr HNE.out)).kept (grownBy_setCell _ ⟨D0, 2, none⟩ (.int .i64 (t + d))) (.inr HNE.out))
      replace HBB := Lib.hid ((HBB.out.setCell (p := ⟨D0, 1, none⟩) hbs (.int .i64 (f + d))).setCell (p := ⟨D0, 2, none⟩) hbs (.int .i64 (t + d)))
      obtain ⟨e0, e1, e2, e3, e4, e5⟩ := blk6 D
      have g1 := D.frozen 1
      have g2 := D.frozen 2
      go_upto_region 14 with fail
      clear e0 e1 e2 e3 e4 e5 g1 g2 hwB D
      generalize (wB.setCell ⟨D0, 1, none⟩ (.int .i64 (f + d))).setCell ⟨D0, 2, none⟩ (.int .i64 (t + d)) = wC at *
      have hwC := HBB.out.size
      obtain ⟨e0, e1, e2, e3, e4, e5⟩ := blk6 D'
      go_wp2_with (at_builtin; refine wpList_app1 E37 rfl (.tmp 55) (.tmp 57) rfl HO.out [.int .i64 fr, .int .i64 (f + d), .int .i64 (t + d), .int .i64 lv, .int .i64 n, .slice a Lb c] rfl (by simp [Value.oneCell']) rfl rfl (by omega) (by omega) ?_; intro v' w1 ho hg; obtain ⟨oa', oc', rfl, _⟩ := owns_shape ho; have HO1 := Lib.hid ho; have HB1 := Lib.hid (below_app HBB.out (Nat.le_refl _) HO.out hg hwC); clear ho hg)
      go_roundw
      case rel =>
        refine ⟨k + 1, by omega, by go_num, ?_, HB1.out, ?_⟩
        · rw [HY.out]
          subst_vars
          show World.ownsRow _ _ _ _ _ _ _
          simpa [encSg, late, lateSp] using HO1.out
        · show ∀ s ∈ _, _
          rw [HT.out]
          intro s hs
          rcases List.mem_append.1 hs with hs | hs
          · exact HK.out s hs
          · obtain rfl := List.mem_singleton.1 hs
            exact HQ.out
      case measure => simp [intOf]; omega
    · obtain rfl : k = l'.length := by omega
      have hfar : ∀ s ∈ l', farSp s.sp = false := fun s hs => HK.out s (by rw [List.take_length]; exact hs)
      have hjd := HJD.out hfar trivial trivial
      have hja := HJA.out hfar
      have hj2 := HJ2.out
      rw [hjd] at hj2
      have HM : Hid (Sgs wr u14 (l'.map (late d))) := by
        have := HO.out
        unfold lts at this
        rw [List.take_length] at this
        exact sgs_of_own this (by rw [List.length_map]; omega) (fun s hs => by
          obtain ⟨s', hs', rfl⟩ := List.mem_map.1 hs
          exact good_late hd0 hd1 ((HS.out.below HB.out).2 s' hs') (hfar s' hs'))
      clear hjd hfar HJD HJA HJ2 HK
      generalize hX : judge _ _ _ _ = X at *
      clear hX
      obtain ⟨kx, mx, nx, Bx⟩ := X
      rw [lateSn_eq] at hj2
      unfold JudgePost spv snv lateSp at hj2
      simp only at hj1 hj2 hja
      generalize hmy : (if kx = 2 then mx + d else mx) = my at hj2
      have HMY := Lib.hid hmy
      clear hmy
      have HSS : Hid (∀ W a1 c1 a2 c2, Byts W (.slice a1 Bx.length c1) Bx → Byts W (.slice a2 Bx.length c2) Bx → Calls Try.prog 21 #[.agg #[.int .i64 kx, .int .i64 my, .int .i64 nx, .slice a1 Bx.length c1], .agg #[.int .i64 kx, .int .i64 my, .int .i64 nx, .slice a2 Bx.length c2]] W fun e w' => e = .returned (.bool true) ∧ Below W.heap.size W w') := fun W a1 c1 a2 c2 h1 h2 => by
        have := seensame_any ⟨kx, my, nx, Bx⟩ ⟨kx, my, nx, Bx⟩ a1 c1 a2 c2 W h1 h2
        rw [sameSn_self] at this
        exact this
      obtain ⟨oa, oc, rfl, _⟩ := owns_shape HO.out
      replace HJ := Lib.hid (HJ.out.keep HB.out)
      replace HS := Lib.hid (HS.out.below HB.out)
      clear HO HB
      obtain ⟨sl0, sl1, wi0, wi1, dd0⟩ := HJ.out.cells; have hz2 := HJ.out.2.2.1.lt; have hz1 := HJ.out.2.1.lt; have hz0 := HJ.out.1.lt
      go_wp2_with fail
      refine (hj1 _ _ HS.out).mono ?_
      rintro e w5 ⟨a1, c1, rfl, hx1, hb⟩
      clear hz0 hz1 hz2 sl0 sl1 wi0 wi1 dd0
      have HD7 : Hid (Blk (w5.alloc (.cells #[.int .i64 kx, .int .i64 mx, .int .i64 nx, .slice a1 Bx.length c1] 39)) w5.heap.size 39 #[.int .i64 kx, .int .i64 mx, .int .i64 nx, .slice a1 Bx.length c1]) := (Blk.new' rfl : Blk _ _ _ _)
      have hD7 : w.heap.size + 1 + 1 < w5.heap.size := (HJ.out.keep hb).2.2.1.lt
      replace HJ := Lib.hid ((HJ.out.keep hb).keep (below1 w5 (.cells #[.int .i64 kx, .int .i64 mx, .int .i64 nx, .slice a1 Bx.length c1] 39)))
      replace HM := Lib.hid ((HM.out.below hb).below (below1 w5 (.cells #[.int .i64 kx, .int .i64 mx, .int .i64 nx, .slice a1 Bx.length c1] 39)))
      have HX1 := Lib.hid (hx1.below (below1 w5 (.cells #[.int .i64 kx, .int .i64 mx, .int .i64 nx, .slice a1 Bx.length c1] 39)))
      clear hb hj1 hx1
      go_upto_region 17 with fail
      generalize w5.heap.size = D7 at *
      generalize w5.alloc (.cells #[.int .i64 kx, .int .i64 mx, .int .i64 nx, .slice a1 Bx.length c1] 39) = w8 at *
      obtain ⟨sl0, sl1, wi0, wi1, dd0⟩ := HJ.out.cells; have hz2 := HJ.out.2.2.1.lt; have hz1 := HJ.out.2.1.lt; have hz0 := HJ.out.1.lt
      go_cut [18] (fun s wx => ∃ K a2 c2, s = .pointer (some ⟨K, 0, none⟩) ∧ Hid (Blk wx K 39 #[.int .i64 kx, .int .i64 my, .int .i64 nx, .slice a2 Bx.length c2]) ∧ Hid (Byts wx (.slice a2 Bx.length c2) Bx) ∧ Hid (Below w8.heap.size w8 wx) ∧ w8.heap.size ≤ K)
      case first =>
        have H1 : w8.drew.cell? ⟨w.heap.size, 0, none⟩ = some (.int .i64 sf) ∧ w8.drew.cell? ⟨w.heap.size, 1, none⟩ = some (.int .i64 st) ∧ w8.drew.cell? ⟨w.heap.size + 1, 0, none⟩ = some (.int .i64 wf) ∧ w8.drew.cell? ⟨w.heap.size + 1, 1, none⟩ = some (.int .i64 wt) ∧ w8.drew.cell? ⟨w.heap.size + 1 + 1, 0, none⟩ = some (.int .i64 d) ∧ Below w8.heap.size w8 w8.drew := ⟨sl0, sl1, wi0, wi1, dd0, (Below.refl _ _).drew⟩
        have hlA := fun W hg => later_any sf st d (w.heap.size + 1 + 1) ⟨hd0, hd1⟩ HP1.out W hg
        have hlB := fun W hg => later_any wf wt d (w.heap.size + 1 + 1) ⟨hd0, hd1⟩ HP2.out W hg
        clear hz0 hz1 sl0 sl1 wi0 wi1 dd0
        refine wp_region_held_drew (S := (fun W => W.cell? ⟨w.heap.size, 0, none⟩ = some (.int .i64 sf) ∧ W.cell? ⟨w.heap.size, 1, none⟩ = some (.int .i64 st) ∧ W.cell? ⟨w.heap.size + 1, 0, none⟩ = some (.int .i64 wf) ∧ W.cell? ⟨w.heap.size + 1, 1, none⟩ = some (.int .i64 wt) ∧ W.cell? ⟨w.heap.size + 1 + 1, 0, none⟩ = some (.int .i64 d) ∧ Below w8.heap.size w8 W)) (by kernel_rfl) (by assumption) (fun hHeld => ?_)
        generalize w8.drew = Wd at *
        (refine takeW (i := 0) (v := ?_) rfl (by kernel_rfl) (by kernel_rfl) (by kernel_rfl) (fun _ _ _ h => h) (by rfl) (by assumption) ?_ ?_; rotate_left; (intro W hW; (try dsimp only at hW); go_simp; try with_reducible rfl); (try simp only [Act.put, List.setIfInBounds_toArray, List.set_cons_zero, List.set_cons_succ]))
        (refine takeW (i := 1) (v := ?_) rfl (by kernel_rfl) (by kernel_rfl) (by kernel_rfl) (fun _ _ _ h => h) (by rfl) (by assumption) ?_ ?_; rotate_left; (intro W hW; (try dsimp only at hW); go_simp; try with_reducible rfl); (try simp only [Act.put, List.setIfInBounds_toArray, List.set_cons_zero, List.set_cons_succ]))
        (refine takeW (i := 2) (v := ?_) rfl (by kernel_rfl) (by kernel_rfl) (by kernel_rfl) (fun _ _ _ h => h) (by rfl) (by assumption) ?_ ?_; rotate_left; (intro W hW; (try dsimp only at hW); go_simp; try with_reducible rfl); (try simp only [Act.put, List.setIfInBounds_toArray, List.set_cons_zero, List.set_cons_succ]))
        (refine takeW (i := 4) (v := ?_) rfl (by kernel_rfl) (by kernel_rfl) (by kernel_rfl) (fun _ _ _ h => h) (by rfl) (by assumption) ?_ ?_; rotate_left; (intro W hW; (try dsimp only at hW); go_simp; try with_reducible rfl); (try simp only [Act.put, List.setIfInBounds_toArray, List.set_cons_zero, List.set_cons_succ]))
        (refine takeW (i := 5) (v := ?_) rfl (by kernel_rfl) (by kernel_rfl) (by kernel_rfl) (fun _ _ _ h => h) (by rfl) (by assumption) ?_ ?_; rotate_left; (intro W hW; (try dsimp only at hW); go_simp; try with_reducible rfl); (try simp only [Act.put, List.setIfInBounds_toArray, List.set_cons_zero, List.set_cons_succ]))
        (refine takeW (i := 7) (v := ?_) rfl (by kernel_rfl) (by kernel_rfl) (by kernel_rfl) (fun _ _ _ h => h) (by rfl) (by assumption) ?_ ?_; rotate_left; (intro W hW; (try dsimp only at hW); go_simp; try with_reducible rfl); (try simp only [Act.put, List.setIfInBounds_toArray, List.set_cons_zero, List.set_cons_succ]))
        refine takeC2 (i := 3) (j := 9) rfl rfl (by kernel_rfl) (by rfl) (by rfl) (fun K hK => ?_) (fun K hK => ?_)
        · go_simp; (refine (hlA _ hHeld.2.2.2.2.1).mono ?_; rintro e W3 ⟨rfl, hb⟩; have hs : W3.cell? ⟨w.heap.size, 0, none⟩ = some (.int .i64 sf) ∧ W3.cell? ⟨w.heap.size, 1, none⟩ = some (.int .i64 st) ∧ W3.cell? ⟨w.heap.size + 1, 0, none⟩ = some (.int .i64 wf) ∧ W3.cell? ⟨w.heap.size + 1, 1, none⟩ = some (.int .i64 wt) ∧ W3.cell? ⟨w.heap.size + 1 + 1, 0, none⟩ = some (.int .i64 d) ∧ Below w8.heap.size w8 W3 := ⟨keepCell hb hHeld.1, keepCell hb hHeld.2.1, keepCell hb hHeld.2.2.1, keepCell hb hHeld.2.2.2.1, keepCell hb hHeld.2.2.2.2.1, hHeld.2.2.2.2.2.trans (hb.mono hHeld.2.2.2.2.2.size)⟩; (try replace HD := Lib.hid (Blk.keep' HD.out hb)); clear hb); refine hK.out _ _ hs (fun hHeld => ?_); clear hK K; (try simp only [Act.put, List.setIfInBounds_toArray, List.set_cons_zero, List.set_cons_succ])
          refine takeC2 (i := 6) (j := 9) rfl rfl (by kernel_rfl) (by rfl) (by rfl) (fun K hK => ?_) (fun K hK => ?_)
          · go_simp; (refine (hlB _ hHeld.2.2.2.2.1).mono ?_; rintro e W6 ⟨rfl, hb⟩; have hs : W6.cell? ⟨w.heap.size, 0, none⟩ = some (.int .i64 sf) ∧ W6.cell? ⟨w.heap.size, 1, none⟩ = some (.int .i64 st) ∧ W6.cell? ⟨w.heap.size + 1, 0, none⟩ = some (.int .i64 wf) ∧ W6.cell? ⟨w.heap.size + 1, 1, none⟩ = some (.int .i64 wt) ∧ W6.cell? ⟨w.heap.size + 1 + 1, 0, none⟩ = some (.int .i64 d) ∧ Below w8.heap.size w8 W6 := ⟨keepCell hb hHeld.1, keepCell hb hHeld.2.1, keepCell hb hHeld.2.2.1, keepCell hb hHeld.2.2.2.1, keepCell hb hHeld.2.2.2.2.1, hHeld.2.2.2.2.2.trans (hb.mono hHeld.2.2.2.2.2.size)⟩; (try replace HD := Lib.hid (Blk.keep' HD.out hb)); clear hb); refine hK.out _ _ hs (fun hHeld => ?_); clear hK K; (try simp only [Act.put, List.setIfInBounds_toArray, List.set_cons_zero, List.set_cons_succ])
            refine takeC2 (i := 8) (j := 9) rfl rfl (by kernel_rfl) (by rfl) (by rfl) (fun K hK => ?_) (fun K hK => ?_)
            · go_simp; (refine (hj2 _ _ (HM.out.below hHeld.2.2.2.2.2)).mono ?_; rintro e W8 ⟨a5, c5, rfl, hx2, hb⟩; have hs : W8.cell? ⟨w.heap.size, 0, none⟩ = some (.int .i64 sf) ∧ W8.cell? ⟨w.heap.size, 1, none⟩ = some (.int .i64 st) ∧ W8.cell? ⟨w.heap.size + 1, 0, none⟩ = some (.int .i64 wf) ∧ W8.cell? ⟨w.heap.size + 1, 1, none⟩ = some (.int .i64 wt) ∧ W8.cell? ⟨w.heap.size + 1 + 1, 0, none⟩ = some (.int .i64 d) ∧ Below w8.heap.size w8 W8 := ⟨keepCell hb hHeld.1, keepCell hb hHeld.2.1, keepCell hb hHeld.2.2.1, keepCell hb hHeld.2.2.2.1, keepCell hb hHeld.2.2.2.2.1, hHeld.2.2.2.2.2.trans (hb.mono hHeld.2.2.2.2.2.size)⟩; have HX2 := Lib.hid hx2; (try replace HD := Lib.hid (Blk.keep' HD.out hb)); clear hb hx2); refine hK.out _ _ hs (fun hHeld => ?_); clear hK K; (try simp only [Act.put, List.setIfInBounds_toArray, List.set_cons_zero, List.set_cons_succ])
              (refine takeC (i := 9) rfl (by kernel_rfl) (by rfl) (fun K hK => ?_); go_simp; (have hb := below1 W8 (.cells #[.int .i64 0, .int .i64 0, .int .i64 0, .slice none 0 0] 39); have HD : Hid (Blk (W8.alloc (.cells #[.int .i64 0, .int .i64 0, .int .i64 0, .slice none 0 0] 39)) W8.heap.size 39 #[.int .i64 0, .int .i64 0, .int .i64 0, .slice none 0 0]) := (Blk.new' rfl : Blk _ _ _ _); have hs : (W8.alloc (.cells #[.int .i64 0, .int .i64 0, .int .i64 0, .slice none 0 0] 39)).cell? ⟨w.heap.size, 0, none⟩ = some (.int .i64 sf) ∧ (W8.alloc (.cells #[.int .i64 0, .int .i64 0, .int .i64 0, .slice none 0 0] 39)).cell? ⟨w.heap.size, 1, none⟩ = some (.int .i64 st) ∧ (W8.alloc (.cells #[.int .i64 0, .int .i64 0, .int .i64 0, .slice none 0 0] 39)).cell? ⟨w.heap.size + 1, 0, none⟩ = some (.int .i64 wf) ∧ (W8.alloc (.cells #[.int .i64 0, .int .i64 0, .int .i64 0, .slice none 0 0] 39)).cell? ⟨w.heap.size + 1, 1, none⟩ = some (.int .i64 wt) ∧ (W8.alloc (.cells #[.int .i64 0, .int .i64 0, .int .i64 0, .slice none 0 0] 39)).cell? ⟨w.heap.size + 1 + 1, 0, none⟩ = some (.int .i64 d) ∧ Below w8.heap.size w8 (W8.alloc (.cells #[.int .i64 0, .int .i64 0, .int .i64 0, .slice none 0 0] 39)) := ⟨keepCell hb hHeld.1, keepCell hb hHeld.2.1, keepCell hb hHeld.2.2.1, keepCell hb hHeld.2.2.2.1, keepCell hb hHeld.2.2.2.2.1, hHeld.2.2.2.2.2.trans (hb.mono hHeld.2.2.2.2.2.size)⟩; (try replace HX2 := Lib.hid (HX2.out.below hb)); have hDK : w8.heap.size ≤ W8.heap.size := hHeld.2.2.2.2.2.size; clear hb; generalize W8.heap.size = D9 at *; generalize (W8.alloc (.cells #[.int .i64 0, .int .i64 0, .int .i64 0, .slice none 0 0] 39)) = W9 at *); refine hK.out _ _ hs (fun hHeld => ?_); clear hK K; (try simp only [Act.put, List.setIfInBounds_toArray, List.set_cons_zero, List.set_cons_succ]))
              (refine takeC (i := 10) rfl (by kernel_rfl) (by rfl) (fun K hK => ?_); obtain ⟨r0, r1, r2, r3⟩ := blk4 HD.out; have g0 := HD.out.frozen 0; have g1 := HD.out.frozen 1; have g2 := HD.out.frozen 2; have g3 := HD.out.frozen 3; have Y1 := HX2.out.setB HD.out (by intro x; simp) 0 (.int .i64 kx); have Y2 := Y1.setB (HD.out.set 0 (.int .i64 kx)) (by intro x; simp) 1 (.int .i64 my); have Y3 := Y2.setB ((HD.out.set 0 (.int .i64 kx)).set 1 (.int .i64 my)) (by intro x; simp) 2 (.int .i64 nx); have Y4 := Lib.hid (Y3.setB (((HD.out.set 0 (.int .i64 kx)).set 1 (.int .i64 my)).set 2 (.int .i64 nx)) (by intro x; simp) 3 (.slice a5 Bx.length c5)); clear Y1 Y2 Y3; go_simp; (have hs : ((((W9.setCell ⟨D9, 0, none⟩ (.int .i64 kx)).setCell ⟨D9, 1, none⟩ (.int .i64 my)).setCell ⟨D9, 2, none⟩ (.int .i64 nx)).setCell ⟨D9, 3, none⟩ (.slice a5 Bx.length c5)).cell? ⟨w.heap.size, 0, none⟩ = some (.int .i64 sf) ∧ ((((W9.setCell ⟨D9, 0, none⟩ (.int .i64 kx)).setCell ⟨D9, 1, none⟩ (.int .i64 my)).setCell ⟨D9, 2, none⟩ (.int .i64 nx)).setCell ⟨D9, 3, none⟩ (.slice a5 Bx.length c5)).cell? ⟨w.heap.size, 1, none⟩ = some (.int .i64 st) ∧ ((((W9.setCell ⟨D9, 0, none⟩ (.int .i64 kx)).setCell ⟨D9, 1, none⟩ (.int .i64 my)).setCell ⟨D9, 2, none⟩ (.int .i64 nx)).setCell ⟨D9, 3, none⟩ (.slice a5 Bx.length c5)).cell? ⟨w.heap.size + 1, 0, none⟩ = some (.int .i64 wf) ∧ ((((W9.setCell ⟨D9, 0, none⟩ (.int .i64 kx)).setCell ⟨D9, 1, none⟩ (.int .i64 my)).setCell ⟨D9, 2, none⟩ (.int .i64 nx)).setCell ⟨D9, 3, none⟩ (.slice a5 Bx.length c5)).cell? ⟨w.heap.size + 1, 1, none⟩ = some (.int .i64 wt) ∧ ((((W9.setCell ⟨D9, 0, none⟩ (.int .i64 kx)).setCell ⟨D9, 1, none⟩ (.int .i64 my)).setCell ⟨D9, 2, none⟩ (.int .i64 nx)).setCell ⟨D9, 3, none⟩ (.slice a5 Bx.length c5)).cell? ⟨w.heap.size + 1 + 1, 0, none⟩ = some (.int .i64 d) ∧ Below w8.heap.size w8 ((((W9.setCell ⟨D9, 0, none⟩ (.int .i64 kx)).setCell ⟨D9, 1, none⟩ (.int .i64 my)).setCell ⟨D9, 2, none⟩ (.int .i64 nx)).setCell ⟨D9, 3, none⟩ (.slice a5 Bx.length c5)) := ⟨(setFour (by omega)).trans hHeld.1, (setFour (by omega)).trans hHeld.2.1, (setFour (by omega)).trans hHeld.2.2.1, (setFour (by omega)).trans hHeld.2.2.2.1, (setFour (by omega)).trans hHeld.2.2.2.2.1, set4_below _ hDK hHeld.2.2.2.2.2 _ _ _ _⟩); refine hK.out _ _ hs (fun hHeld => ?_); clear hK K; (try simp only [Act.put, List.setIfInBounds_toArray, List.set_cons_zero, List.set_cons_succ]))
              refine wpAnyH_done (by kernel_rfl) ?_ _
              go_wp2_with fail; go_meet; exact ⟨D9, a5, c5, rfl, HD.out.set4 _ _ _ _, Y4.out, hHeld.2.2.2.2.2, hDK⟩
            · go_simp; (have hb := below1 W6 (.cells #[.int .i64 0, .int .i64 0, .int .i64 0, .slice none 0 0] 39); have HD : Hid (Blk (W6.alloc (.cells #[.int .i64 0, .int .i64 0, .int .i64 0, .slice none 0 0] 39)) W6.heap.size 39 #[.int .i64 0, .int .i64 0, .int .i64 0, .slice none 0 0]) := (Blk.new' rfl : Blk _ _ _ _); have hs : (W6.alloc (.cells #[.int .i64 0, .int .i64 0, .int .i64 0, .slice none 0 0] 39)).cell? ⟨w.heap.size, 0, none⟩ = some (.int .i64 sf) ∧ (W6.alloc (.cells #[.int .i64 0, .int .i64 0, .int .i64 0, .slice none 0 0] 39)).cell? ⟨w.heap.size, 1, none⟩ = some (.int .i64 st) ∧ (W6.alloc (.cells #[.int .i64 0, .int .i64 0, .int .i64 0, .slice none 0 0] 39)).cell? ⟨w.heap.size + 1, 0, none⟩ = some (.int .i64 wf) ∧ (W6.alloc (.cells #[.int .i64 0, .int .i64 0, .int .i64 0, .slice none 0 0] 39)).cell? ⟨w.heap.size + 1, 1, none⟩ = some (.int .i64 wt) ∧ (W6.alloc (.cells #[.int .i64 0, .int .i64 0, .int .i64 0, .slice none 0 0] 39)).cell? ⟨w.heap.size + 1 + 1, 0, none⟩ = some (.int .i64 d) ∧ Below w8.heap.size w8 (W6.alloc (.cells #[.int .i64 0, .int .i64 0, .int .i64 0, .slice none 0 0] 39)) := ⟨keepCell hb hHeld.1, keepCell hb hHeld.2.1, keepCell hb hHeld.2.2.1, keepCell hb hHeld.2.2.2.1, keepCell hb hHeld.2.2.2.2.1, hHeld.2.2.2.2.2.trans (hb.mono hHeld.2.2.2.2.2.size)⟩; (try replace HX2 := Lib.hid (HX2.out.below hb)); have hDK : w8.heap.size ≤ W6.heap.size := hHeld.2.2.2.2.2.size; clear hb; generalize W6.heap.size = D9 at *; generalize (W6.alloc (.cells #[.int .i64 0, .int .i64 0, .int .i64 0, .slice none 0 0] 39)) = W9 at *); refine hK.out _ _ hs (fun hHeld => ?_); clear hK K; (try simp only [Act.put, List.setIfInBounds_toArray, List.set_cons_zero, List.set_cons_succ])
              (refine takeC (i := 8) rfl (by kernel_rfl) (by rfl) (fun K hK => ?_); go_simp; (refine (hj2 _ _ (HM.out.below hHeld.2.2.2.2.2)).mono ?_; rintro e W8 ⟨a5, c5, rfl, hx2, hb⟩; have hs : W8.cell? ⟨w.heap.size, 0, none⟩ = some (.int .i64 sf) ∧ W8.cell? ⟨w.heap.size, 1, none⟩ = some (.int .i64 st) ∧ W8.cell? ⟨w.heap.size + 1, 0, none⟩ = some (.int .i64 wf) ∧ W8.cell? ⟨w.heap.size + 1, 1, none⟩ = some (.int .i64 wt) ∧ W8.cell? ⟨w.heap.size + 1 + 1, 0, none⟩ = some (.int .i64 d) ∧ Below w8.heap.size w8 W8 := ⟨keepCell hb hHeld.1, keepCell hb hHeld.2.1, keepCell hb hHeld.2.2.1, keepCell hb hHeld.2.2.2.1, keepCell hb hHeld.2.2.2.2.1, hHeld.2.2.2.2.2.trans (hb.mono hHeld.2.2.2.2.2.size)⟩; have HX2 := Lib.hid hx2; (try replace HD := Lib.hid (Blk.keep' HD.out hb)); clear hb hx2); refine hK.out _ _ hs (fun hHeld => ?_); clear hK K; (try simp only [Act.put, List.setIfInBounds_toArray, List.set_cons_zero, List.set_cons_succ]))
              (refine takeC (i := 10) rfl (by kernel_rfl) (by rfl) (fun K hK => ?_); obtain ⟨r0, r1, r2, r3⟩ := blk4 HD.out; have g0 := HD.out.frozen 0; have g1 := HD.out.frozen 1; have g2 := HD.out.frozen 2; have g3 := HD.out.frozen 3; have Y1 := HX2.out.setB HD.out (by intro x; simp) 0 (.int .i64 kx); have Y2 := Y1.setB (HD.out.set 0 (.int .i64 kx)) (by intro x; simp) 1 (.int .i64 my); have Y3 := Y2.setB ((HD.out.set 0 (.int .i64 kx)).set 1 (.int .i64 my)) (by intro x; simp) 2 (.int .i64 nx); have Y4 := Lib.hid (Y3.setB (((HD.out.set 0 (.int .i64 kx)).set 1 (.int .i64 my)).set 2 (.int .i64 nx)) (by intro x; simp) 3 (.slice a5 Bx.length c5)); clear Y1 Y2 Y3; go_simp; (have hs : ((((W8.setCell ⟨D9, 0, none⟩ (.int .i64 kx)).setCell ⟨D9, 1, none⟩ (.int .i64 my)).setCell ⟨D9, 2, none⟩ (.int .i64 nx)).setCell ⟨D9, 3, none⟩ (.slice a5 Bx.length c5)).cell? ⟨w.heap.size, 0, none⟩ = some (.int .i64 sf) ∧ ((((W8.setCell ⟨D9, 0, none⟩ (.int .i64 kx)).setCell ⟨D9, 1, none⟩ (.int .i64 my)).setCell ⟨D9, 2, none⟩ (.int .i64 nx)).setCell ⟨D9, 3, none⟩ (.slice a5 Bx.length c5)).cell? ⟨w.heap.size, 1, none⟩ = some (.int .i64 st) ∧ ((((W8.setCell ⟨D9, 0, none⟩ (.int .i64 kx)).setCell ⟨D9, 1, none⟩ (.int .i64 my)).setCell ⟨D9, 2, none⟩ (.int .i64 nx)).setCell ⟨D9, 3, none⟩ (.slice a5 Bx.length c5)).cell? ⟨w.heap.size + 1, 0, none⟩ = some (.int .i64 wf) ∧ ((((W8.setCell ⟨D9, 0, none⟩ (.int .i64 kx)).setCell ⟨D9, 1, none⟩ (.int .i64 my)).setCell ⟨D9, 2, none⟩ (.int .i64 nx)).setCell ⟨D9, 3, none⟩ (.slice a5 Bx.length c5)).cell? ⟨w.heap.size + 1, 1, none⟩ = some (.int .i64 wt) ∧ ((((W8.setCell ⟨D9, 0, none⟩ (.int .i64 kx)).setCell ⟨D9, 1, none⟩ (.int .i64 my)).setCell ⟨D9, 2, none⟩ (.int .i64 nx)).setCell ⟨D9, 3, none⟩ (.slice a5 Bx.length c5)).cell? ⟨w.heap.size + 1 + 1, 0, none⟩ = some (.int .i64 d) ∧ Below w8.heap.size w8 ((((W8.setCell ⟨D9, 0, none⟩ (.int .i64 kx)).setCell ⟨D9, 1, none⟩ (.int .i64 my)).setCell ⟨D9, 2, none⟩ (.int .i64 nx)).setCell ⟨D9, 3, none⟩ (.slice a5 Bx.length c5)) := ⟨(setFour (by omega)).trans hHeld.1, (setFour (by omega)).trans hHeld.2.1, (setFour (by omega)).trans hHeld.2.2.1, (setFour (by omega)).trans hHeld.2.2.2.1, (setFour (by omega)).trans hHeld.2.2.2.2.1, set4_below _ hDK hHeld.2.2.2.2.2 _ _ _ _⟩); refine hK.out _ _ hs (fun hHeld => ?_); clear hK K; (try simp only [Act.put, List.setIfInBounds_toArray, List.set_cons_zero, List.set_cons_succ]))
              refine wpAnyH_done (by kernel_rfl) ?_ _
              go_wp2_with fail; go_meet; exact ⟨D9, a5, c5, rfl, HD.out.set4 _ _ _ _, Y4.out, hHeld.2.2.2.2.2, hDK⟩
          · go_simp; (have hb := below1 W3 (.cells #[.int .i64 0, .int .i64 0, .int .i64 0, .slice none 0 0] 39); have HD : Hid (Blk (W3.alloc (.cells #[.int .i64 0, .int .i64 0, .int .i64 0, .slice none 0 0] 39)) W3.heap.size 39 #[.int .i64 0, .int .i64 0, .int .i64 0, .slice none 0 0]) := (Blk.new' rfl : Blk _ _ _ _); have hs : (W3.alloc (.cells #[.int .i64 0, .int .i64 0, .int .i64 0, .slice none 0 0] 39)).cell? ⟨w.heap.size, 0, none⟩ = some (.int .i64 sf) ∧ (W3.alloc (.cells #[.int .i64 0, .int .i64 0, .int .i64 0, .slice none 0 0] 39)).cell? ⟨w.heap.size, 1, none⟩ = some (.int .i64 st) ∧ (W3.alloc (.cells #[.int .i64 0, .int .i64 0, .int .i64 0, .slice none 0 0] 39)).cell? ⟨w.heap.size + 1, 0, none⟩ = some (.int .i64 wf) ∧ (W3.alloc (.cells #[.int .i64 0, .int .i64 0, .int .i64 0, .slice none 0 0] 39)).cell? ⟨w.heap.size + 1, 1, none⟩ = some (.int .i64 wt) ∧ (W3.alloc (.cells #[.int .i64 0, .int .i64 0, .int .i64 0, .slice none 0 0] 39)).cell? ⟨w.heap.size + 1 + 1, 0, none⟩ = some (.int .i64 d) ∧ Below w8.heap.size w8 (W3.alloc (.cells #[.int .i64 0, .int .i64 0, .int .i64 0, .slice none 0 0] 39)) := ⟨keepCell hb hHeld.1, keepCell hb hHeld.2.1, keepCell hb hHeld.2.2.1, keepCell hb hHeld.2.2.2.1, keepCell hb hHeld.2.2.2.2.1, hHeld.2.2.2.2.2.trans (hb.mono hHeld.2.2.2.2.2.size)⟩; (try replace HX2 := Lib.hid (HX2.out.below hb)); have hDK : w8.heap.size ≤ W3.heap.size := hHeld.2.2.2.2.2.size; clear hb; generalize W3.heap.size = D9 at *; generalize (W3.alloc (.cells #[.int .i64 0, .int .i64 0, .int .i64 0, .slice none 0 0] 39)) = W9 at *); refine hK.out _ _ hs (fun hHeld => ?_); clear hK K; (try simp only [Act.put, List.setIfInBounds_toArray, List.set_cons_zero, List.set_cons_succ])
            (refine takeC (i := 6) rfl (by kernel_rfl) (by rfl) (fun K hK => ?_); go_simp; (refine (hlB _ hHeld.2.2.2.2.1).mono ?_; rintro e W6 ⟨rfl, hb⟩; have hs : W6.cell? ⟨w.heap.size, 0, none⟩ = some (.int .i64 sf) ∧ W6.cell? ⟨w.heap.size, 1, none⟩ = some (.int .i64 st) ∧ W6.cell? ⟨w.heap.size + 1, 0, none⟩ = some (.int .i64 wf) ∧ W6.cell? ⟨w.heap.size + 1, 1, none⟩ = some (.int .i64 wt) ∧ W6.cell? ⟨w.heap.size + 1 + 1, 0, none⟩ = some (.int .i64 d) ∧ Below w8.heap.size w8 W6 := ⟨keepCell hb hHeld.1, keepCell hb hHeld.2.1, keepCell hb hHeld.2.2.1, keepCell hb hHeld.2.2.2.1, keepCell hb hHeld.2.2.2.2.1, hHeld.2.2.2.2.2.trans (hb.mono hHeld.2.2.2.2.2.size)⟩; (try replace HD := Lib.hid (Blk.keep' HD.out hb)); clear hb); refine hK.out _ _ hs (fun hHeld => ?_); clear hK K; (try simp only [Act.put, List.setIfInBounds_toArray, List.set_cons_zero, List.set_cons_succ]))
            (refine takeC (i := 8) rfl (by kernel_rfl) (by rfl) (fun K hK => ?_); go_simp; (refine (hj2 _ _ (HM.out.below hHeld.2.2.2.2.2)).mono ?_; rintro e W8 ⟨a5, c5, rfl, hx2, hb⟩; have hs : W8.cell? ⟨w.heap.size, 0, none⟩ = some (.int .i64 sf) ∧ W8.cell? ⟨w.heap.size, 1, none⟩ = some (.int .i64 st) ∧ W8.cell? ⟨w.heap.size + 1, 0, none⟩ = some (.int .i64 wf) ∧ W8.cell? ⟨w.heap.size + 1, 1, none⟩ = some (.int .i64 wt) ∧ W8.cell? ⟨w.heap.size + 1 + 1, 0, none⟩ = some (.int .i64 d) ∧ Below w8.heap.size w8 W8 := ⟨keepCell hb hHeld.1, keepCell hb hHeld.2.1, keepCell hb hHeld.2.2.1, keepCell hb hHeld.2.2.2.1, keepCell hb hHeld.2.2.2.2.1, hHeld.2.2.2.2.2.trans (hb.mono hHeld.2.2.2.2.2.size)⟩; have HX2 := Lib.hid hx2; (try replace HD := Lib.hid (Blk.keep' HD.out hb)); clear hb hx2); refine hK.out _ _ hs (fun hHeld => ?_); clear hK K; (try simp only [Act.put, List.setIfInBounds_toArray, List.set_cons_zero, List.set_cons_succ]))
            (refine takeC (i := 10) rfl (by kernel_rfl) (by rfl) (fun K hK => ?_); obtain ⟨r0, r1, r2, r3⟩ := blk4 HD.out; have g0 := HD.out.frozen 0; have g1 := HD.out.frozen 1; have g2 := HD.out.frozen 2; have g3 := HD.out.frozen 3; have Y1 := HX2.out.setB HD.out (by intro x; simp) 0 (.int .i64 kx); have Y2 := Y1.setB (HD.out.set 0 (.int .i64 kx)) (by intro x; simp) 1 (.int .i64 my); have Y3 := Y2.setB ((HD.out.set 0 (.int .i64 kx)).set 1 (.int .i64 my)) (by intro x; simp) 2 (.int .i64 nx); have Y4 := Lib.hid (Y3.setB (((HD.out.set 0 (.int .i64 kx)).set 1 (.int .i64 my)).set 2 (.int .i64 nx)) (by intro x; simp) 3 (.slice a5 Bx.length c5)); clear Y1 Y2 Y3; go_simp; (have hs : ((((W8.setCell ⟨D9, 0, none⟩ (.int .i64 kx)).setCell ⟨D9, 1, none⟩ (.int .i64 my)).setCell ⟨D9, 2, none⟩ (.int .i64 nx)).setCell ⟨D9, 3, none⟩ (.slice a5 Bx.length c5)).cell? ⟨w.heap.size, 0, none⟩ = some (.int .i64 sf) ∧ ((((W8.setCell ⟨D9, 0, none⟩ (.int .i64 kx)).setCell ⟨D9, 1, none⟩ (.int .i64 my)).setCell ⟨D9, 2, none⟩ (.int .i64 nx)).setCell ⟨D9, 3, none⟩ (.slice a5 Bx.length c5)).cell? ⟨w.heap.size, 1, none⟩ = some (.int .i64 st) ∧ ((((W8.setCell ⟨D9, 0, none⟩ (.int .i64 kx)).setCell ⟨D9, 1, none⟩ (.int .i64 my)).setCell ⟨D9, 2, none⟩ (.int .i64 nx)).setCell ⟨D9, 3, none⟩ (.slice a5 Bx.length c5)).cell? ⟨w.heap.size + 1, 0, none⟩ = some (.int .i64 wf) ∧ ((((W8.setCell ⟨D9, 0, none⟩ (.int .i64 kx)).setCell ⟨D9, 1, none⟩ (.int .i64 my)).setCell ⟨D9, 2, none⟩ (.int .i64 nx)).setCell ⟨D9, 3, none⟩ (.slice a5 Bx.length c5)).cell? ⟨w.heap.size + 1, 1, none⟩ = some (.int .i64 wt) ∧ ((((W8.setCell ⟨D9, 0, none⟩ (.int .i64 kx)).setCell ⟨D9, 1, none⟩ (.int .i64 my)).setCell ⟨D9, 2, none⟩ (.int .i64 nx)).setCell ⟨D9, 3, none⟩ (.slice a5 Bx.length c5)).cell? ⟨w.heap.size + 1 + 1, 0, none⟩ = some (.int .i64 d) ∧ Below w8.heap.size w8 ((((W8.setCell ⟨D9, 0, none⟩ (.int .i64 kx)).setCell ⟨D9, 1, none⟩ (.int .i64 my)).setCell ⟨D9, 2, none⟩ (.int .i64 nx)).setCell ⟨D9, 3, none⟩ (.slice a5 Bx.length c5)) := ⟨(setFour (by omega)).trans hHeld.1, (setFour (by omega)).trans hHeld.2.1, (setFour (by omega)).trans hHeld.2.2.1, (setFour (by omega)).trans hHeld.2.2.2.1, (setFour (by omega)).trans hHeld.2.2.2.2.1, set4_below _ hDK hHeld.2.2.2.2.2 _ _ _ _⟩); refine hK.out _ _ hs (fun hHeld => ?_); clear hK K; (try simp only [Act.put, List.setIfInBounds_toArray, List.set_cons_zero, List.set_cons_succ]))
            refine wpAnyH_done (by kernel_rfl) ?_ _
            go_wp2_with fail; go_meet; exact ⟨D9, a5, c5, rfl, HD.out.set4 _ _ _ _, Y4.out, hHeld.2.2.2.2.2, hDK⟩
        · go_simp; (have hb := below1 Wd (.cells #[.int .i64 0, .int .i64 0, .int .i64 0, .slice none 0 0] 39); have HD : Hid (Blk (Wd.alloc (.cells #[.int .i64 0, .int .i64 0, .int .i64 0, .slice none 0 0] 39)) Wd.heap.size 39 #[.int .i64 0, .int .i64 0, .int .i64 0, .slice none 0 0]) := (Blk.new' rfl : Blk _ _ _ _); have hs : (Wd.alloc (.cells #[.int .i64 0, .int .i64 0, .int .i64 0, .slice none 0 0] 39)).cell? ⟨w.heap.size, 0, none⟩ = some (.int .i64 sf) ∧ (Wd.alloc (.cells #[.int .i64 0, .int .i64 0, .int .i64 0, .slice none 0 0] 39)).cell? ⟨w.heap.size, 1, none⟩ = some (.int .i64 st) ∧ (Wd.alloc (.cells #[.int .i64 0, .int .i64 0, .int .i64 0, .slice none 0 0] 39)).cell? ⟨w.heap.size + 1, 0, none⟩ = some (.int .i64 wf) ∧ (Wd.alloc (.cells #[.int .i64 0, .int .i64 0, .int .i64 0, .slice none 0 0] 39)).cell? ⟨w.heap.size + 1, 1, none⟩ = some (.int .i64 wt) ∧ (Wd.alloc (.cells #[.int .i64 0, .int .i64 0, .int .i64 0, .slice none 0 0] 39)).cell? ⟨w.heap.size + 1 + 1, 0, none⟩ = some (.int .i64 d) ∧ Below w8.heap.size w8 (Wd.alloc (.cells #[.int .i64 0, .int .i64 0, .int .i64 0, .slice none 0 0] 39)) := ⟨keepCell hb hHeld.1, keepCell hb hHeld.2.1, keepCell hb hHeld.2.2.1, keepCell hb hHeld.2.2.2.1, keepCell hb hHeld.2.2.2.2.1, hHeld.2.2.2.2.2.trans (hb.mono hHeld.2.2.2.2.2.size)⟩; (try replace HX2 := Lib.hid (HX2.out.below hb)); have hDK : w8.heap.size ≤ Wd.heap.size := hHeld.2.2.2.2.2.size; clear hb; generalize Wd.heap.size = D9 at *; generalize (Wd.alloc (.cells #[.int .i64 0, .int .i64 0, .int .i64 0, .slice none 0 0] 39)) = W9 at *); refine hK.out _ _ hs (fun hHeld => ?_); clear hK K; (try simp only [Act.put, List.setIfInBounds_toArray, List.set_cons_zero, List.set_cons_succ])
          (refine takeC (i := 3) rfl (by kernel_rfl) (by rfl) (fun K hK => ?_); go_simp; (refine (hlA _ hHeld.2.2.2.2.1).mono ?_; rintro e W3 ⟨rfl, hb⟩; have hs : W3.cell? ⟨w.heap.size, 0, none⟩ = some (.int .i64 sf) ∧ W3.cell? ⟨w.heap.size, 1, none⟩ = some (.int .i64 st) ∧ W3.cell? ⟨w.heap.size + 1, 0, none⟩ = some (.int .i64 wf) ∧ W3.cell? ⟨w.heap.size + 1, 1, none⟩ = some (.int .i64 wt) ∧ W3.cell? ⟨w.heap.size + 1 + 1, 0, none⟩ = some (.int .i64 d) ∧ Below w8.heap.size w8 W3 := ⟨keepCell hb hHeld.1, keepCell hb hHeld.2.1, keepCell hb hHeld.2.2.1, keepCell hb hHeld.2.2.2.1, keepCell hb hHeld.2.2.2.2.1, hHeld.2.2.2.2.2.trans (hb.mono hHeld.2.2.2.2.2.size)⟩; (try replace HD := Lib.hid (Blk.keep' HD.out hb)); clear hb); refine hK.out _ _ hs (fun hHeld => ?_); clear hK K; (try simp only [Act.put, List.setIfInBounds_toArray, List.set_cons_zero, List.set_cons_succ]))
          (refine takeC (i := 6) rfl (by kernel_rfl) (by rfl) (fun K hK => ?_); go_simp; (refine (hlB _ hHeld.2.2.2.2.1).mono ?_; rintro e W6 ⟨rfl, hb⟩; have hs : W6.cell? ⟨w.heap.size, 0, none⟩ = some (.int .i64 sf) ∧ W6.cell? ⟨w.heap.size, 1, none⟩ = some (.int .i64 st) ∧ W6.cell? ⟨w.heap.size + 1, 0, none⟩ = some (.int .i64 wf) ∧ W6.cell? ⟨w.heap.size + 1, 1, none⟩ = some (.int .i64 wt) ∧ W6.cell? ⟨w.heap.size + 1 + 1, 0, none⟩ = some (.int .i64 d) ∧ Below w8.heap.size w8 W6 := ⟨keepCell hb hHeld.1, keepCell hb hHeld.2.1, keepCell hb hHeld.2.2.1, keepCell hb hHeld.2.2.2.1, keepCell hb hHeld.2.2.2.2.1, hHeld.2.2.2.2.2.trans (hb.mono hHeld.2.2.2.2.2.size)⟩; (try replace HD := Lib.hid (Blk.keep' HD.out hb)); clear hb); refine hK.out _ _ hs (fun hHeld => ?_); clear hK K; (try simp only [Act.put, List.setIfInBounds_toArray, List.set_cons_zero, List.set_cons_succ]))
          (refine takeC (i := 8) rfl (by kernel_rfl) (by rfl) (fun K hK => ?_); go_simp; (refine (hj2 _ _ (HM.out.below hHeld.2.2.2.2.2)).mono ?_; rintro e W8 ⟨a5, c5, rfl, hx2, hb⟩; have hs : W8.cell? ⟨w.heap.size, 0, none⟩ = some (.int .i64 sf) ∧ W8.cell? ⟨w.heap.size, 1, none⟩ = some (.int .i64 st) ∧ W8.cell? ⟨w.heap.size + 1, 0, none⟩ = some (.int .i64 wf) ∧ W8.cell? ⟨w.heap.size + 1, 1, none⟩ = some (.int .i64 wt) ∧ W8.cell? ⟨w.heap.size + 1 + 1, 0, none⟩ = some (.int .i64 d) ∧ Below w8.heap.size w8 W8 := ⟨keepCell hb hHeld.1, keepCell hb hHeld.2.1, keepCell hb hHeld.2.2.1, keepCell hb hHeld.2.2.2.1, keepCell hb hHeld.2.2.2.2.1, hHeld.2.2.2.2.2.trans (hb.mono hHeld.2.2.2.2.2.size)⟩; have HX2 := Lib.hid hx2; (try replace HD := Lib.hid (Blk.keep' HD.out hb)); clear hb hx2); refine hK.out _ _ hs (fun hHeld => ?_); clear hK K; (try simp only [Act.put, List.setIfInBounds_toArray, List.set_cons_zero, List.set_cons_succ]))
          (refine takeC (i := 10) rfl (by kernel_rfl) (by rfl) (fun K hK => ?_); obtain ⟨r0, r1, r2, r3⟩ := blk4 HD.out; have g0 := HD.out.frozen 0; have g1 := HD.out.frozen 1; have g2 := HD.out.frozen 2; have g3 := HD.out.frozen 3; have Y1 := HX2.out.setB HD.out (by intro x; simp) 0 (.int .i64 kx); have Y2 := Y1.setB (HD.out.set 0 (.int .i64 kx)) (by intro x; simp) 1 (.int .i64 my); have Y3 := Y2.setB ((HD.out.set 0 (.int .i64 kx)).set 1 (.int .i64 my)) (by intro x; simp) 2 (.int .i64 nx); have Y4 := Lib.hid (Y3.setB (((HD.out.set 0 (.int .i64 kx)).set 1 (.int .i64 my)).set 2 (.int .i64 nx)) (by intro x; simp) 3 (.slice a5 Bx.length c5)); clear Y1 Y2 Y3; go_simp; (have hs : ((((W8.setCell ⟨D9, 0, none⟩ (.int .i64 kx)).setCell ⟨D9, 1, none⟩ (.int .i64 my)).setCell ⟨D9, 2, none⟩ (.int .i64 nx)).setCell ⟨D9, 3, none⟩ (.slice a5 Bx.length c5)).cell? ⟨w.heap.size, 0, none⟩ = some (.int .i64 sf) ∧ ((((W8.setCell ⟨D9, 0, none⟩ (.int .i64 kx)).setCell ⟨D9, 1, none⟩ (.int .i64 my)).setCell ⟨D9, 2, none⟩ (.int .i64 nx)).setCell ⟨D9, 3, none⟩ (.slice a5 Bx.length c5)).cell? ⟨w.heap.size, 1, none⟩ = some (.int .i64 st) ∧ ((((W8.setCell ⟨D9, 0, none⟩ (.int .i64 kx)).setCell ⟨D9, 1, none⟩ (.int .i64 my)).setCell ⟨D9, 2, none⟩ (.int .i64 nx)).setCell ⟨D9, 3, none⟩ (.slice a5 Bx.length c5)).cell? ⟨w.heap.size + 1, 0, none⟩ = some (.int .i64 wf) ∧ ((((W8.setCell ⟨D9, 0, none⟩ (.int .i64 kx)).setCell ⟨D9, 1, none⟩ (.int .i64 my)).setCell ⟨D9, 2, none⟩ (.int .i64 nx)).setCell ⟨D9, 3, none⟩ (.slice a5 Bx.length c5)).cell? ⟨w.heap.size + 1, 1, none⟩ = some (.int .i64 wt) ∧ ((((W8.setCell ⟨D9, 0, none⟩ (.int .i64 kx)).setCell ⟨D9, 1, none⟩ (.int .i64 my)).setCell ⟨D9, 2, none⟩ (.int .i64 nx)).setCell ⟨D9, 3, none⟩ (.slice a5 Bx.length c5)).cell? ⟨w.heap.size + 1 + 1, 0, none⟩ = some (.int .i64 d) ∧ Below w8.heap.size w8 ((((W8.setCell ⟨D9, 0, none⟩ (.int .i64 kx)).setCell ⟨D9, 1, none⟩ (.int .i64 my)).setCell ⟨D9, 2, none⟩ (.int .i64 nx)).setCell ⟨D9, 3, none⟩ (.slice a5 Bx.length c5)) := ⟨(setFour (by omega)).trans hHeld.1, (setFour (by omega)).trans hHeld.2.1, (setFour (by omega)).trans hHeld.2.2.1, (setFour (by omega)).trans hHeld.2.2.2.1, (setFour (by omega)).trans hHeld.2.2.2.2.1, set4_below _ hDK hHeld.2.2.2.2.2 _ _ _ _⟩); refine hK.out _ _ hs (fun hHeld => ?_); clear hK K; (try simp only [Act.put, List.setIfInBounds_toArray, List.set_cons_zero, List.set_cons_succ]))
          refine wpAnyH_done (by kernel_rfl) ?_ _
          go_wp2_with fail; go_meet; exact ⟨D9, a5, c5, rfl, HD.out.set4 _ _ _ _, Y4.out, hHeld.2.2.2.2.2, hDK⟩
      case rest =>
        obtain ⟨K, a2, c2, rfl, DK, BK, HB, hK⟩ := hcut
        have X7 := Blk.keep' HD7.out HB.out
        have Y7 := HX1.out.below HB.out
        replace HJ := Lib.hid (HJ.out.keep HB.out)
        have hDK : D7 < K := Nat.lt_of_lt_of_le HD7.out.lt hK
        have hD7w : w.heap.size ≤ D7 := by omega
        clear hz0 hz1 hz2 sl0 sl1 wi0 wi1 dd0 HD7 HX1 HM HS hj2
        obtain ⟨sl0, sl1, wi0, wi1, dd0⟩ := HJ.out.cells; have hz2 := HJ.out.2.2.1.lt; have hz1 := HJ.out.2.1.lt; have hz0 := HJ.out.1.lt
        obtain ⟨x0, x1, x2, x3⟩ := blk4 X7
        obtain ⟨y0, y1, y2, y3⟩ := blk4 DK.out
        have f1 := X7.frozen 1
        have HY7 := Lib.hid Y7
        have HBW := Lib.hid HJ.out.2.2.2
        clear Y7
        by_cases hk : kx = 2
        · have hmy : my = mx + d := by rw [← HMY.out, if_pos hk]
          subst hk hmy
          obtain ⟨hm0, hm1⟩ := hja
          clear HMY
          have X8 : Blk (wc.setCell ⟨D7, 1, none⟩ (.int .i64 (mx + d))) D7 39 #[.int .i64 2, .int .i64 (mx + d), .int .i64 nx, .slice a1 Bx.length c1] := by simpa using X7.set 1 (.int .i64 (mx + d))
          have K8 := DK.out.far (p := ⟨D7, 1, none⟩) (by simp; omega) (.int .i64 (mx + d))
          have Z8 := Lib.hid (HY7.out.setB X7 (by intro x; simp) 1 (.int .i64 (mx + d)))
          have Z9 := Lib.hid (BK.out.setB X7 (by intro x; simp) 1 (.int .i64 (mx + d)))
          have HBZ := Lib.hid (HBW.out.setCell (p := ⟨D7, 1, none⟩) hD7w (.int .i64 (mx + d)))
          go_upto_region 20 with fail
          clear hz0 hz1 hz2 sl0 sl1 wi0 wi1 dd0
          clear x0 x1 x2 x3 y0 y1 y2 y3 f1
          generalize wc.setCell ⟨D7, 1, none⟩ (.int .i64 (mx + d)) = wd at *
          obtain ⟨x0, x1, x2, x3⟩ := blk4 X8
          obtain ⟨y0, y1, y2, y3⟩ := blk4 K8
          go_wp2_with fail
          refine (HSS.out _ _ _ _ _ Z8.out Z9.out).mono ?_
          rintro e w9 ⟨rfl, hb⟩
          go_wp2
          go_ret
          exact ⟨rfl, bt HBZ.out hb⟩
        · have hmy : my = mx := by rw [← HMY.out, if_neg hk]
          have hne : (kx == 2) = false := by simpa using hk
          subst hmy
          clear HMY hk
          go_wp2_with fail
          refine (HSS.out _ _ _ _ _ HY7.out BK.out).mono ?_
          rintro e w9 ⟨rfl, hb⟩
          go_wp2
          go_ret
          exact ⟨rfl, bt HBW.out hb⟩
end Go.Proofs.Ytehgiagefiakkaa
