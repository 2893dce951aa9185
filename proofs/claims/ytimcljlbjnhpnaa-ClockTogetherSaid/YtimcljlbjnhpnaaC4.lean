/- Contracts: the clock in the next slot (Next), of the program and of the document. -/
import Derived.Test.YtimcljlbjnhpnaaC1
import Derived.Test.YtimcljlbjnhpnaaC3
namespace Go.Proofs.Ytimcljlbjnhpnaa
open Go.RowKit Go.Shelf
open Md

theorem cor_bd {m : Me} {c : Ck} (h : (corV m c).2 = 0) : okM m = true ∧ 0 ≤ c.st ∧ c.st ≤ 1099494850560 ∧ 0 ≤ c.sl ∧ c.sl ≤ 1048576 ∧ c.dl.length ≤ 8 ∧ -1048576 ≤ (corV m c).1 ∧ (corV m c).1 ≤ 1048576 := by
  obtain ⟨he, hv⟩ := cor_ok h
  obtain ⟨hM, s0, s1, l0, l1, d8, hdv⟩ := errC_ok he
  obtain ⟨_, _, _, ⟨wi0, wi1⟩, _⟩ := okM_bd hM
  rw [hv] at h ⊢
  refine ⟨hM, s0, s1, l0, l1, d8, ?_⟩
  have hb : ∀ x ∈ (0 :: c.dl : List Int), -1048576 ≤ x ∧ x ≤ 1048576 := fun x hx => by
    rcases List.mem_cons.1 hx with rfl | hx
    · omega
    · have := hdv x hx; omega
  have hok := Fta.mid_ok.1 h
  have hf : (0 :: c.dl : List Int).any (Fta.far Fta.bigB) = false := by
    rw [List.any_eq_false]
    intro x hx
    have := hok.2 x hx
    simp [Fta.far]; omega
  obtain ⟨k1, k2⟩ := kept_mem hok.1 hf
  obtain ⟨w1, w2⟩ := Fta.mid_within (0 :: c.dl)
  have := hb _ k1
  have := hb _ k2
  omega
theorem keptFar1 {w : World} {base : Nat} {e : TypeId} {size : Nat} {v : Value} {n : Nat} {xs : List Value} (h : w.ownsRow base e size v n xs) {g : Nat} (hg : v.ownBlock ≠ some g) (i : Nat) (x : Value) : (w.setCell ⟨g, i, none⟩ x).ownsRow base e size v n xs :=
  h.kept (grownBy_setCell w ⟨g, i, none⟩ x) (.inr hg)
theorem keptFar {w : World} {base : Nat} {e : TypeId} {size : Nat} {v : Value} {n : Nat} {xs : List Value} (h : w.ownsRow base e size v n xs) {g : Nat} (hg : v.ownBlock ≠ some g) (x y z : Value) : (((w.setCell ⟨g, 0, none⟩ x).setCell ⟨g, 1, none⟩ y).setCell ⟨g, 2, none⟩ z).ownsRow base e size v n xs :=
  keptFar1 (keptFar1 (keptFar1 h hg 0 x) hg 1 y) hg 2 z
def nxV (m : Me) (c : Ck) (p : Int) : Int × Int × List Int := if (c.sl + 1).tmod m.nodes = 0 then (c.st + (m.slot + p) + (corV m c).1, c.sl + 1, []) else (c.st + (m.slot + p), c.sl + 1, c.dl)
def okR (win : Int) (r : Int × Int × List Int) : Bool := okMay win ⟨r.1, r.2.1, none, 0, r.2.2⟩
def nextV (m : Me) (c : Ck) (p : Int) : (Int × Int × List Int) × Int :=
  if (corV m c).2 = 0 then (if p < -m.drift ∨ m.drift < p then ((0, 0, []), 2) else if okR m.win (nxV m c p) = true then (nxV m c p, 0) else ((0, 0, []), 130)) else ((0, 0, []), (corV m c).2)

set_option maxRecDepth 100000 in
set_option maxHeartbeats 6400000 in
theorem next_any (m : Me) (c : Ck) (p : Int) (w : World) (h : GoodMe w m) (hc : GoodCk w c) (_hp : I64 p) :
    Calls Try.prog 16 #[mev m, clv c, .int .i64 p] w fun e w' => CkOut w (nextV m c p) e w' := by
  have HV : Hid (nextV m c p = if (corV m c).2 = 0 then (if p < -m.drift ∨ m.drift < p then ((0, 0, []), 2) else if okR m.win (nxV m c p) = true then (nxV m c p, 0) else ((0, 0, []), 130)) else ((0, 0, []), (corV m c).2)) := rfl
  have HNX : Hid (nxV m c p = if (c.sl + 1).tmod m.nodes = 0 then (c.st + (m.slot + p) + (corV m c).1, c.sl + 1, []) else (c.st + (m.slot + p), c.sl + 1, c.dl)) := rfl
  have hco : ∀ W, Below w.heap.size w W → _ := fun W hW => correct_any m c W (h.below hW) (hc.below hW)
  have HMY := Lib.hid (fun (c' : Ck) hw W hc' => may_any m c' hw W hc')
  have HCI := Lib.hid hc.1
  have HOK := Lib.hid (@cor_bd m c)
  generalize nextV _ _ _ = v at *
  generalize nxV _ _ _ = nv at *
  generalize corV _ _ = kv at *
  obtain ⟨nodes, slot, gap, win, drift, delay, ⟨ca, cc, cl⟩, ma, mc, ml⟩ := m
  obtain ⟨st, sl, da, dc, dl⟩ := c
  obtain ⟨k, ke⟩ := kv
  unfold mev clv at *
  simp only at *
  clear h hc
  have HJ : Hid (Blk (((w.alloc (.cells #[.int .i64 nodes, .int .i64 slot, .int .i64 gap, .int .i64 win, .int .i64 drift, .int .i64 delay, .slice ca cl.length cc, .slice ma ml.length mc] 25)).alloc (.cells #[.int .i64 st, .int .i64 sl, .slice da dl.length dc] 28)).alloc (.cells #[.int .i64 0, .int .i64 0, .slice none 0 0] 28)) w.heap.size 25 #[.int .i64 nodes, .int .i64 slot, .int .i64 gap, .int .i64 win, .int .i64 drift, .int .i64 delay, .slice ca cl.length cc, .slice ma ml.length mc] ∧ Blk (((w.alloc (.cells #[.int .i64 nodes, .int .i64 slot, .int .i64 gap, .int .i64 win, .int .i64 drift, .int .i64 delay, .slice ca cl.length cc, .slice ma ml.length mc] 25)).alloc (.cells #[.int .i64 st, .int .i64 sl, .slice da dl.length dc] 28)).alloc (.cells #[.int .i64 0, .int .i64 0, .slice none 0 0] 28)) (w.heap.size + 1) 28 #[.int .i64 st, .int .i64 sl, .slice da dl.length dc] ∧ Blk (((w.alloc (.cells #[.int .i64 nodes, .int .i64 slot, .int .i64 gap, .int .i64 win, .int .i64 drift, .int .i64 delay, .slice ca cl.length cc, .slice ma ml.length mc] 25)).alloc (.cells #[.int .i64 st, .int .i64 sl, .slice da dl.length dc] 28)).alloc (.cells #[.int .i64 0, .int .i64 0, .slice none 0 0] 28)) (w.heap.size + 1 + 1) 28 #[.int .i64 0, .int .i64 0, .slice none 0 0] ∧ Below w.heap.size w (((w.alloc (.cells #[.int .i64 nodes, .int .i64 slot, .int .i64 gap, .int .i64 win, .int .i64 drift, .int .i64 delay, .slice ca cl.length cc, .slice ma ml.length mc] 25)).alloc (.cells #[.int .i64 st, .int .i64 sl, .slice da dl.length dc] 28)).alloc (.cells #[.int .i64 0, .int .i64 0, .slice none 0 0] 28))) :=
    ⟨((Blk.new' rfl).alloc _).alloc _, (Blk.new' (by simp)).alloc _, Blk.new' (by simp), below3 w _ _ _⟩
  go_enter Try.func16, Try.ntmps16
  go_wp2_with fail
  refine (hco _ HJ.out.2.2.2).mono ?_
  rintro e w1 ⟨rfl, hb⟩
  replace HJ := Lib.hid (three_boxes HJ.out hb)
  clear hb hco
  obtain ⟨m0, m1, m2, m3, m4, m5, m6, m7⟩ := HJ.out.1.eight; obtain ⟨c0, c1, c2⟩ := HJ.out.2.1.three; obtain ⟨d0, d1, d2⟩ := HJ.out.2.2.1.three; have hz0 := HJ.out.1.lt; have hz1 := HJ.out.2.1.lt; have hz2 := HJ.out.2.2.1.lt; have f0 := HJ.out.2.2.1.frozen 0; have f1 := HJ.out.2.2.1.frozen 1; have f2 := HJ.out.2.2.1.frozen 2
  by_cases he : ke = 0
  rotate_left
  · have hne : (ke != 0) = true := by simpa using he
    have hv : v = ((0, 0, []), ke) := by rw [HV.out, if_neg he]
    clear he
    go_wp2
    (try rw [hv]); have DR := HJ.out.2.2.1; exact bodyPost_ret (v := .tuple #[.agg #[.int .i64 0, .int .i64 0, .slice none 0 0], .int .i64 ke]) (by simp [results, Try.results16, go_sem, (((DR.set 0 (.int .i64 0)).set 1 (.int .i64 0)).set 2 (.slice none 0 0)).cell 0, (((DR.set 0 (.int .i64 0)).set 1 (.int .i64 0)).set 2 (.slice none 0 0)).cell 1, (((DR.set 0 (.int .i64 0)).set 1 (.int .i64 0)).set 2 (.slice none 0 0)).cell 2]) rfl (CkOut.zero _ (((HJ.out.2.2.2.setCell (p := ⟨w.heap.size + 1 + 1, 0, none⟩) (by simp <;> omega) _).setCell (p := ⟨w.heap.size + 1 + 1, 1, none⟩) (by simp <;> omega) _).setCell (p := ⟨w.heap.size + 1 + 1, 2, none⟩) (by simp <;> omega) _))
  subst he
  have hk := HOK.out rfl
  obtain ⟨hM, s0, s1, l0, l1, d8, hk0, hk1⟩ := hk
  have HM := Lib.hid hM
  obtain ⟨⟨n0, n1⟩, ⟨dr0, dr1⟩, ⟨de0, de1⟩, ⟨wi0, wi1⟩, ⟨ga0, ga1⟩, ⟨so0, so1⟩, _⟩ := okM_bd hM
  simp only at n0 n1 dr0 dr1 de0 de1 wi0 wi1 ga0 ga1 so0 so1
  clear hM HOK
  by_cases hbad : p < -drift ∨ drift < p
  · have hv : v = ((0, 0, []), 2) := by rw [HV.out, if_pos rfl, if_pos hbad]
    by_cases g1 : p < -drift
    · clear hbad
      go_wp2
      (try rw [hv]); have DR := HJ.out.2.2.1; exact bodyPost_ret (v := .tuple #[.agg #[.int .i64 0, .int .i64 0, .slice none 0 0], .int .i64 2]) (by simp [results, Try.results16, go_sem, (((DR.set 0 (.int .i64 0)).set 1 (.int .i64 0)).set 2 (.slice none 0 0)).cell 0, (((DR.set 0 (.int .i64 0)).set 1 (.int .i64 0)).set 2 (.slice none 0 0)).cell 1, (((DR.set 0 (.int .i64 0)).set 1 (.int .i64 0)).set 2 (.slice none 0 0)).cell 2]) rfl (CkOut.zero _ (((HJ.out.2.2.2.setCell (p := ⟨w.heap.size + 1 + 1, 0, none⟩) (by simp <;> omega) _).setCell (p := ⟨w.heap.size + 1 + 1, 1, none⟩) (by simp <;> omega) _).setCell (p := ⟨w.heap.size + 1 + 1, 2, none⟩) (by simp <;> omega) _))
    · have g2 : drift < p := by omega
      clear hbad
      go_wp2
      (try rw [hv]); have DR := HJ.out.2.2.1; exact bodyPost_ret (v := .tuple #[.agg #[.int .i64 0, .int .i64 0, .slice none 0 0], .int .i64 2]) (by simp [results, Try.results16, go_sem, (((DR.set 0 (.int .i64 0)).set 1 (.int .i64 0)).set 2 (.slice none 0 0)).cell 0, (((DR.set 0 (.int .i64 0)).set 1 (.int .i64 0)).set 2 (.slice none 0 0)).cell 1, (((DR.set 0 (.int .i64 0)).set 1 (.int .i64 0)).set 2 (.slice none 0 0)).cell 2]) rfl (CkOut.zero _ (((HJ.out.2.2.2.setCell (p := ⟨w.heap.size + 1 + 1, 0, none⟩) (by simp <;> omega) _).setCell (p := ⟨w.heap.size + 1 + 1, 1, none⟩) (by simp <;> omega) _).setCell (p := ⟨w.heap.size + 1 + 1, 2, none⟩) (by simp <;> omega) _))
  have g1 : ¬ p < -drift := fun h => hbad (.inl h)
  have g2 : ¬ drift < p := fun h => hbad (.inr h)
  have hv2 : v = if okR win nv = true then (nv, 0) else ((0, 0, []), 130) := by rw [HV.out, if_pos rfl, if_neg hbad]
  have HV2 := Lib.hid hv2
  clear hbad hv2 HV
  have how : ∀ W, Below w.heap.size w W → Calls Try.prog 33 #[.slice da dl.length dc, .int .i64 0] W fun e w' => (∃ a c, e = .returned (.slice a dl.length c) ∧ w'.ownsRow W.heap.size 2 1 (.slice a dl.length c) dl.length (dl.map (.int .i64))) ∧ Below W.heap.size W w' := fun W hW => own_any dl _ 0 W (by omega) (by omega) (HCI.out.below hW)
  go_upto_region 7 with fail
  clear m0 m1 m2 m3 m4 m5 m6 m7 c0 c1 c2 d0 d1 d2 hz0 hz1 hz2 f0 f1 f2
  have hb10 : w.heap.size + 1 + 1 < w1.heap.size := HJ.out.2.2.1.lt
  have HN : Hid (Blk (w1.alloc (.cells #[.int .i64 (st + (slot + p)), .int .i64 (sl + 1), .slice none 0 0] 28)) w1.heap.size 28 #[.int .i64 (st + (slot + p)), .int .i64 (sl + 1), .slice none 0 0]) := (Blk.new' rfl : Blk _ _ _ _)
  replace HJ := Lib.hid (three_boxes HJ.out (below1 w1 (.cells #[.int .i64 (st + (slot + p)), .int .i64 (sl + 1), .slice none 0 0] 28)))
  generalize w1.heap.size = b10 at *
  generalize w1.alloc (.cells #[.int .i64 (st + (slot + p)), .int .i64 (sl + 1), .slice none 0 0] 28) = w2 at *
  obtain ⟨m0, m1, m2, m3, m4, m5, m6, m7⟩ := HJ.out.1.eight; obtain ⟨c0, c1, c2⟩ := HJ.out.2.1.three; obtain ⟨d0, d1, d2⟩ := HJ.out.2.2.1.three; have hz0 := HJ.out.1.lt; have hz1 := HJ.out.2.1.lt; have hz2 := HJ.out.2.2.1.lt; have f0 := HJ.out.2.2.1.frozen 0; have f1 := HJ.out.2.2.1.frozen 1; have f2 := HJ.out.2.2.1.frozen 2
  obtain ⟨n0', n1', n2'⟩ := HN.out.three; have hz10 := HN.out.lt; have fn0 := HN.out.frozen 0; have fn2 := HN.out.frozen 2
  by_cases hr : (sl + 1).tmod nodes = 0
  · have hnv : nv = (st + (slot + p) + k, sl + 1, []) := by rw [HNX.out, if_pos hr]
    clear how HNX
    go_upto_region 10 with fail
    clear m0 m1 m2 m3 m4 m5 m6 m7 c0 c1 c2 d0 d1 d2 hz0 hz1 hz2 f0 f1 f2
    clear n0' n1' n2' hz10 fn0 fn2
    have HJ2 : Hid (Blk (w2.setCell ⟨b10, 0, none⟩ (.int .i64 (st + (slot + p) + k))) w.heap.size 25 #[.int .i64 nodes, .int .i64 slot, .int .i64 gap, .int .i64 win, .int .i64 drift, .int .i64 delay, .slice ca cl.length cc, .slice ma ml.length mc] ∧ Blk (w2.setCell ⟨b10, 0, none⟩ (.int .i64 (st + (slot + p) + k))) (w.heap.size + 1) 28 #[.int .i64 st, .int .i64 sl, .slice da dl.length dc] ∧ Blk (w2.setCell ⟨b10, 0, none⟩ (.int .i64 (st + (slot + p) + k))) (w.heap.size + 1 + 1) 28 #[.int .i64 0, .int .i64 0, .slice none 0 0] ∧ Below w.heap.size w (w2.setCell ⟨b10, 0, none⟩ (.int .i64 (st + (slot + p) + k)))) := ⟨HJ.out.1.far (by simp; omega) _, HJ.out.2.1.far (by simp; omega) _, HJ.out.2.2.1.far (by simp; omega) _, HJ.out.2.2.2.setCell (by simp; omega) _⟩
    have HN2 : Hid (Blk (w2.setCell ⟨b10, 0, none⟩ (.int .i64 (st + (slot + p) + k))) b10 28 #[.int .i64 (st + (slot + p) + k), .int .i64 (sl + 1), .slice none 0 0]) := by show Blk _ _ _ _; simpa using HN.out.set 0 (.int .i64 (st + (slot + p) + k))
    clear HJ HN
    have HJ := HJ2
    have HN := HN2
    clear HJ2 HN2
    generalize (w2.setCell ⟨b10, 0, none⟩ (.int .i64 (st + (slot + p) + k))) = w4 at *
    have hgc : GoodCk w4 ⟨st + (slot + p) + k, sl + 1, none, 0, []⟩ := ⟨ints_nil _, (show I64 (st + (slot + p) + k) by unfold I64; omega), (show I64 (sl + 1) by unfold I64; omega)⟩
    have hmy := HMY.out ⟨st + (slot + p) + k, sl + 1, none, 0, []⟩ ⟨by omega, by omega⟩ _ hgc
    simp only at hmy
    have hokm : okMay win ⟨st + (slot + p) + k, sl + 1, none, 0, []⟩ = okR win nv := by rw [hnv]; rfl
    rw [hokm] at hmy
    clear hgc hokm
    obtain ⟨m0, m1, m2, m3, m4, m5, m6, m7⟩ := HJ.out.1.eight; obtain ⟨c0, c1, c2⟩ := HJ.out.2.1.three; obtain ⟨d0, d1, d2⟩ := HJ.out.2.2.1.three; have hz0 := HJ.out.1.lt; have hz1 := HJ.out.2.1.lt; have hz2 := HJ.out.2.2.1.lt; have f0 := HJ.out.2.2.1.frozen 0; have f1 := HJ.out.2.2.1.frozen 1; have f2 := HJ.out.2.2.1.frozen 2
    obtain ⟨n0', n1', n2'⟩ := HN.out.three; have hz10 := HN.out.lt; have fn0 := HN.out.frozen 0; have fn2 := HN.out.frozen 2
    go_wp2_with fail
    refine hmy.mono ?_
    rintro e w9 ⟨rfl, hb⟩
    clear m0 m1 m2 m3 m4 m5 m6 m7 c0 c1 c2 d0 d1 d2 hz0 hz1 hz2 f0 f1 f2
    clear n0' n1' n2' hz10 fn0 fn2
    replace HJ := Lib.hid (three_boxes HJ.out hb)
    replace HN := Lib.hid (HN.out.keep hb)
    clear hb hmy
    obtain ⟨m0, m1, m2, m3, m4, m5, m6, m7⟩ := HJ.out.1.eight; obtain ⟨c0, c1, c2⟩ := HJ.out.2.1.three; obtain ⟨d0, d1, d2⟩ := HJ.out.2.2.1.three; have hz0 := HJ.out.1.lt; have hz1 := HJ.out.2.1.lt; have hz2 := HJ.out.2.2.1.lt; have f0 := HJ.out.2.2.1.frozen 0; have f1 := HJ.out.2.2.1.frozen 1; have f2 := HJ.out.2.2.1.frozen 2
    obtain ⟨n0', n1', n2'⟩ := HN.out.three; have hz10 := HN.out.lt; have fn0 := HN.out.frozen 0; have fn2 := HN.out.frozen 2
    have HNV := Lib.hid hnv
    clear hnv
    generalize okR win nv = ok at *
    cases ok
    · have hv : v = ((0, 0, []), 130) := by simpa using HV2.out
      go_wp2
      (try rw [hv]); have DR := HJ.out.2.2.1; exact bodyPost_ret (v := .tuple #[.agg #[.int .i64 0, .int .i64 0, .slice none 0 0], .int .i64 130]) (by simp [results, Try.results16, go_sem, (((DR.set 0 (.int .i64 0)).set 1 (.int .i64 0)).set 2 (.slice none 0 0)).cell 0, (((DR.set 0 (.int .i64 0)).set 1 (.int .i64 0)).set 2 (.slice none 0 0)).cell 1, (((DR.set 0 (.int .i64 0)).set 1 (.int .i64 0)).set 2 (.slice none 0 0)).cell 2]) rfl (CkOut.zero _ (((HJ.out.2.2.2.setCell (p := ⟨w.heap.size + 1 + 1, 0, none⟩) (by simp <;> omega) _).setCell (p := ⟨w.heap.size + 1 + 1, 1, none⟩) (by simp <;> omega) _).setCell (p := ⟨w.heap.size + 1 + 1, 2, none⟩) (by simp <;> omega) _))
    · have hv : v = (nv, 0) := by simpa using HV2.out
      go_wp2
      (try rw [hv]); rw [HNV.out]
      have DR := HJ.out.2.2.1; exact bodyPost_ret (v := .tuple #[.agg #[.int .i64 (st + (slot + p) + k), .int .i64 (sl + 1), .slice none 0 0], .int .i64 0]) (by simp [results, Try.results16, go_sem, (((DR.set 0 (.int .i64 (st + (slot + p) + k))).set 1 (.int .i64 (sl + 1))).set 2 (.slice none 0 0)).cell 0, (((DR.set 0 (.int .i64 (st + (slot + p) + k))).set 1 (.int .i64 (sl + 1))).set 2 (.slice none 0 0)).cell 1, (((DR.set 0 (.int .i64 (st + (slot + p) + k))).set 1 (.int .i64 (sl + 1))).set 2 (.slice none 0 0)).cell 2]) rfl (CkOut.own (b6 := w.heap.size + 1 + 1) (n := 0) rfl HJ.out.2.2.2 own_nil rfl (by omega) (by simp) (show I64 (st + (slot + p) + k) by unfold I64; omega) (show I64 (sl + 1) by unfold I64; omega))
  · have hnv : nv = (st + (slot + p), sl + 1, dl) := by rw [HNX.out, if_neg hr]
    clear HNX
    have hrd : decide ((sl + 1).tmod nodes = 0) = false := by simpa using hr
    have hrv : ¬ nodes ∣ sl + 1 := fun h => hr (Int.tmod_eq_zero_of_dvd h)
    go_wp2_with fail
    refine (how _ HJ.out.2.2.2).mono ?_
    rintro e w3 ⟨⟨oa, oc, rfl, ho⟩, hb⟩
    clear m0 m1 m2 m3 m4 m5 m6 m7 c0 c1 c2 d0 d1 d2 hz0 hz1 hz2 f0 f1 f2
    clear n0' n1' n2' hz10 fn0 fn2
    have HO := Lib.hid (ownsRow_mono ho (base' := b10 + 1) (by have := HN.out.lt; omega))
    replace HJ := Lib.hid (three_boxes HJ.out hb)
    replace HN := Lib.hid (HN.out.keep hb)
    clear hb ho how
    obtain ⟨m0, m1, m2, m3, m4, m5, m6, m7⟩ := HJ.out.1.eight; obtain ⟨c0, c1, c2⟩ := HJ.out.2.1.three; obtain ⟨d0, d1, d2⟩ := HJ.out.2.2.1.three; have hz0 := HJ.out.1.lt; have hz1 := HJ.out.2.1.lt; have hz2 := HJ.out.2.2.1.lt; have f0 := HJ.out.2.2.1.frozen 0; have f1 := HJ.out.2.2.1.frozen 1; have f2 := HJ.out.2.2.1.frozen 2
    obtain ⟨n0', n1', n2'⟩ := HN.out.three; have hz10 := HN.out.lt; have fn0 := HN.out.frozen 0; have fn2 := HN.out.frozen 2
    go_upto_region 10 with fail
    clear m0 m1 m2 m3 m4 m5 m6 m7 c0 c1 c2 d0 d1 d2 hz0 hz1 hz2 f0 f1 f2
    clear n0' n1' n2' hz10 fn0 fn2
    have HJ2 : Hid (Blk (w3.setCell ⟨b10, 2, none⟩ (.slice oa dl.length oc)) w.heap.size 25 #[.int .i64 nodes, .int .i64 slot, .int .i64 gap, .int .i64 win, .int .i64 drift, .int .i64 delay, .slice ca cl.length cc, .slice ma ml.length mc] ∧ Blk (w3.setCell ⟨b10, 2, none⟩ (.slice oa dl.length oc)) (w.heap.size + 1) 28 #[.int .i64 st, .int .i64 sl, .slice da dl.length dc] ∧ Blk (w3.setCell ⟨b10, 2, none⟩ (.slice oa dl.length oc)) (w.heap.size + 1 + 1) 28 #[.int .i64 0, .int .i64 0, .slice none 0 0] ∧ Below w.heap.size w (w3.setCell ⟨b10, 2, none⟩ (.slice oa dl.length oc))) := ⟨HJ.out.1.far (by simp; omega) _, HJ.out.2.1.far (by simp; omega) _, HJ.out.2.2.1.far (by simp; omega) _, HJ.out.2.2.2.setCell (by simp; omega) _⟩
    have HN2 : Hid (Blk (w3.setCell ⟨b10, 2, none⟩ (.slice oa dl.length oc)) b10 28 #[.int .i64 (st + (slot + p)), .int .i64 (sl + 1), .slice oa dl.length oc]) := by show Blk _ _ _ _; simpa using HN.out.set 2 (.slice oa dl.length oc)
    replace HO := Lib.hid (ownsRow_mono (keptSet HO.out (b := b10) (i := 2) (by omega) (.slice oa dl.length oc)) (base' := w.heap.size + 1 + 1 + 1) (by omega))
    clear HJ HN
    have HJ := HJ2
    have HN := HN2
    clear HJ2 HN2
    generalize (w3.setCell ⟨b10, 2, none⟩ (.slice oa dl.length oc)) = w4 at *
    have hgc : GoodCk w4 ⟨st + (slot + p), sl + 1, oa, oc, dl⟩ := ⟨Ints.of_owns HO.out (by show dl.length ≤ _; omega) HCI.out.bd, (show I64 (st + (slot + p)) by unfold I64; omega), (show I64 (sl + 1) by unfold I64; omega)⟩
    have hmy := HMY.out ⟨st + (slot + p), sl + 1, oa, oc, dl⟩ ⟨by omega, by omega⟩ _ hgc
    simp only at hmy
    have hokm : okMay win ⟨st + (slot + p), sl + 1, oa, oc, dl⟩ = okR win nv := by rw [hnv]; rfl
    rw [hokm] at hmy
    clear hgc hokm
    obtain ⟨m0, m1, m2, m3, m4, m5, m6, m7⟩ := HJ.out.1.eight; obtain ⟨c0, c1, c2⟩ := HJ.out.2.1.three; obtain ⟨d0, d1, d2⟩ := HJ.out.2.2.1.three; have hz0 := HJ.out.1.lt; have hz1 := HJ.out.2.1.lt; have hz2 := HJ.out.2.2.1.lt; have f0 := HJ.out.2.2.1.frozen 0; have f1 := HJ.out.2.2.1.frozen 1; have f2 := HJ.out.2.2.1.frozen 2
    obtain ⟨n0', n1', n2'⟩ := HN.out.three; have hz10 := HN.out.lt; have fn0 := HN.out.frozen 0; have fn2 := HN.out.frozen 2
    go_wp2_with fail
    refine hmy.mono ?_
    rintro e w9 ⟨rfl, hb⟩
    clear m0 m1 m2 m3 m4 m5 m6 m7 c0 c1 c2 d0 d1 d2 hz0 hz1 hz2 f0 f1 f2
    clear n0' n1' n2' hz10 fn0 fn2
    replace HJ := Lib.hid (three_boxes HJ.out hb)
    replace HN := Lib.hid (HN.out.keep hb)
    replace HO := Lib.hid (ow_below HO.out hb)
    clear hb hmy
    obtain ⟨m0, m1, m2, m3, m4, m5, m6, m7⟩ := HJ.out.1.eight; obtain ⟨c0, c1, c2⟩ := HJ.out.2.1.three; obtain ⟨d0, d1, d2⟩ := HJ.out.2.2.1.three; have hz0 := HJ.out.1.lt; have hz1 := HJ.out.2.1.lt; have hz2 := HJ.out.2.2.1.lt; have f0 := HJ.out.2.2.1.frozen 0; have f1 := HJ.out.2.2.1.frozen 1; have f2 := HJ.out.2.2.1.frozen 2
    obtain ⟨n0', n1', n2'⟩ := HN.out.three; have hz10 := HN.out.lt; have fn0 := HN.out.frozen 0; have fn2 := HN.out.frozen 2
    have HNV := Lib.hid hnv
    clear hnv
    generalize okR win nv = ok at *
    cases ok
    · have hv : v = ((0, 0, []), 130) := by simpa using HV2.out
      go_wp2
      (try rw [hv]); have DR := HJ.out.2.2.1; exact bodyPost_ret (v := .tuple #[.agg #[.int .i64 0, .int .i64 0, .slice none 0 0], .int .i64 130]) (by simp [results, Try.results16, go_sem, (((DR.set 0 (.int .i64 0)).set 1 (.int .i64 0)).set 2 (.slice none 0 0)).cell 0, (((DR.set 0 (.int .i64 0)).set 1 (.int .i64 0)).set 2 (.slice none 0 0)).cell 1, (((DR.set 0 (.int .i64 0)).set 1 (.int .i64 0)).set 2 (.slice none 0 0)).cell 2]) rfl (CkOut.zero _ (((HJ.out.2.2.2.setCell (p := ⟨w.heap.size + 1 + 1, 0, none⟩) (by simp <;> omega) _).setCell (p := ⟨w.heap.size + 1 + 1, 1, none⟩) (by simp <;> omega) _).setCell (p := ⟨w.heap.size + 1 + 1, 2, none⟩) (by simp <;> omega) _))
    · have hv : v = (nv, 0) := by simpa using HV2.out
      go_wp2
      (try rw [hv]); rw [HNV.out]
      have DR := HJ.out.2.2.1; exact bodyPost_ret (v := .tuple #[.agg #[.int .i64 (st + (slot + p)), .int .i64 (sl + 1), .slice (oa) dl.length (oc)], .int .i64 0]) (by simp [results, Try.results16, go_sem, (((DR.set 0 (.int .i64 (st + (slot + p)))).set 1 (.int .i64 (sl + 1))).set 2 (.slice (oa) dl.length (oc))).cell 0, (((DR.set 0 (.int .i64 (st + (slot + p)))).set 1 (.int .i64 (sl + 1))).set 2 (.slice (oa) dl.length (oc))).cell 1, (((DR.set 0 (.int .i64 (st + (slot + p)))).set 1 (.int .i64 (sl + 1))).set 2 (.slice (oa) dl.length (oc))).cell 2]) rfl (CkOut.own (b6 := w.heap.size + 1 + 1) (n := dl.length) rfl HJ.out.2.2.2 HO.out rfl (by omega) HCI.out.bd (show I64 (st + (slot + p)) by unfold I64; omega) (show I64 (sl + 1) by unfold I64; omega))

set_option maxRecDepth 100000 in
set_option maxHeartbeats 6400000 in
theorem rnext_any (m : Me) (c : Ck) (p : Int) (w : World) (h : GoodMe w m) (hc : GoodCk w c) (_hp : I64 p) :
    Calls Try.prog 28 #[mev m, clv c, .int .i64 p] w fun e w' => CkOut w (nextV m c p) e w' := by
  have HV : Hid (nextV m c p = if (corV m c).2 = 0 then (if p < -m.drift ∨ m.drift < p then ((0, 0, []), 2) else if okR m.win (nxV m c p) = true then (nxV m c p, 0) else ((0, 0, []), 130)) else ((0, 0, []), (corV m c).2)) := rfl
  have HNX : Hid (nxV m c p = if (c.sl + 1).tmod m.nodes = 0 then (c.st + (m.slot + p) + (corV m c).1, c.sl + 1, []) else (c.st + (m.slot + p), c.sl + 1, c.dl)) := rfl
  have hco : ∀ W, Below w.heap.size w W → _ := fun W hW => rcorrect_any m c W (h.below hW) (hc.below hW)
  have HMY := Lib.hid (fun (c' : Ck) W (hW : Below w.heap.size w W) hc' => rccheck_any m c' W (h.below hW) hc')
  have HCI := Lib.hid hc.1
  have HOK := Lib.hid (@cor_bd m c)
  generalize nextV _ _ _ = v at *
  generalize nxV _ _ _ = nv at *
  generalize corV _ _ = kv at *
  obtain ⟨nodes, slot, gap, win, drift, delay, ⟨ca, cc, cl⟩, ma, mc, ml⟩ := m
  obtain ⟨st, sl, da, dc, dl⟩ := c
  obtain ⟨k, ke⟩ := kv
  unfold mev clv at *
  simp only at *
  clear h hc
  have HJ : Hid (Blk (((w.alloc (.cells #[.int .i64 nodes, .int .i64 slot, .int .i64 gap, .int .i64 win, .int .i64 drift, .int .i64 delay, .slice ca cl.length cc, .slice ma ml.length mc] 25)).alloc (.cells #[.int .i64 st, .int .i64 sl, .slice da dl.length dc] 28)).alloc (.cells #[.int .i64 0, .int .i64 0, .slice none 0 0] 28)) w.heap.size 25 #[.int .i64 nodes, .int .i64 slot, .int .i64 gap, .int .i64 win, .int .i64 drift, .int .i64 delay, .slice ca cl.length cc, .slice ma ml.length mc] ∧ Blk (((w.alloc (.cells #[.int .i64 nodes, .int .i64 slot, .int .i64 gap, .int .i64 win, .int .i64 drift, .int .i64 delay, .slice ca cl.length cc, .slice ma ml.length mc] 25)).alloc (.cells #[.int .i64 st, .int .i64 sl, .slice da dl.length dc] 28)).alloc (.cells #[.int .i64 0, .int .i64 0, .slice none 0 0] 28)) (w.heap.size + 1) 28 #[.int .i64 st, .int .i64 sl, .slice da dl.length dc] ∧ Blk (((w.alloc (.cells #[.int .i64 nodes, .int .i64 slot, .int .i64 gap, .int .i64 win, .int .i64 drift, .int .i64 delay, .slice ca cl.length cc, .slice ma ml.length mc] 25)).alloc (.cells #[.int .i64 st, .int .i64 sl, .slice da dl.length dc] 28)).alloc (.cells #[.int .i64 0, .int .i64 0, .slice none 0 0] 28)) (w.heap.size + 1 + 1) 28 #[.int .i64 0, .int .i64 0, .slice none 0 0] ∧ Below w.heap.size w (((w.alloc (.cells #[.int .i64 nodes, .int .i64 slot, .int .i64 gap, .int .i64 win, .int .i64 drift, .int .i64 delay, .slice ca cl.length cc, .slice ma ml.length mc] 25)).alloc (.cells #[.int .i64 st, .int .i64 sl, .slice da dl.length dc] 28)).alloc (.cells #[.int .i64 0, .int .i64 0, .slice none 0 0] 28))) :=
    ⟨((Blk.new' rfl).alloc _).alloc _, (Blk.new' (by simp)).alloc _, Blk.new' (by simp), below3 w _ _ _⟩
  go_enter Try.func28, Try.ntmps28
  go_wp2_with fail
  refine (hco _ HJ.out.2.2.2).mono ?_
  rintro e w1 ⟨rfl, hb⟩
  replace HJ := Lib.hid (three_boxes HJ.out hb)
  clear hb hco
  obtain ⟨m0, m1, m2, m3, m4, m5, m6, m7⟩ := HJ.out.1.eight; obtain ⟨c0, c1, c2⟩ := HJ.out.2.1.three; obtain ⟨d0, d1, d2⟩ := HJ.out.2.2.1.three; have hz0 := HJ.out.1.lt; have hz1 := HJ.out.2.1.lt; have hz2 := HJ.out.2.2.1.lt; have f0 := HJ.out.2.2.1.frozen 0; have f1 := HJ.out.2.2.1.frozen 1; have f2 := HJ.out.2.2.1.frozen 2
  by_cases he : ke = 0
  rotate_left
  · have hne : (ke != 0) = true := by simpa using he
    have hv : v = ((0, 0, []), ke) := by rw [HV.out, if_neg he]
    clear he
    go_wp2
    (try rw [hv]); have DR := HJ.out.2.2.1; exact bodyPost_ret (v := .tuple #[.agg #[.int .i64 0, .int .i64 0, .slice none 0 0], .int .i64 ke]) (by simp [results, Try.results28, go_sem, (((DR.set 0 (.int .i64 0)).set 1 (.int .i64 0)).set 2 (.slice none 0 0)).cell 0, (((DR.set 0 (.int .i64 0)).set 1 (.int .i64 0)).set 2 (.slice none 0 0)).cell 1, (((DR.set 0 (.int .i64 0)).set 1 (.int .i64 0)).set 2 (.slice none 0 0)).cell 2]) rfl (CkOut.zero _ (((HJ.out.2.2.2.setCell (p := ⟨w.heap.size + 1 + 1, 0, none⟩) (by simp <;> omega) _).setCell (p := ⟨w.heap.size + 1 + 1, 1, none⟩) (by simp <;> omega) _).setCell (p := ⟨w.heap.size + 1 + 1, 2, none⟩) (by simp <;> omega) _))
  subst he
  have hk := HOK.out rfl
  obtain ⟨hM, s0, s1, l0, l1, d8, hk0, hk1⟩ := hk
  have HM := Lib.hid hM
  obtain ⟨⟨n0, n1⟩, ⟨dr0, dr1⟩, ⟨de0, de1⟩, ⟨wi0, wi1⟩, ⟨ga0, ga1⟩, ⟨so0, so1⟩, _⟩ := okM_bd hM
  simp only at n0 n1 dr0 dr1 de0 de1 wi0 wi1 ga0 ga1 so0 so1
  clear hM HOK
  by_cases hbad : p < -drift ∨ drift < p
  · have hv : v = ((0, 0, []), 2) := by rw [HV.out, if_pos rfl, if_pos hbad]
    by_cases g1 : p < -drift
    · clear hbad
      go_wp2
      (try rw [hv]); have DR := HJ.out.2.2.1; exact bodyPost_ret (v := .tuple #[.agg #[.int .i64 0, .int .i64 0, .slice none 0 0], .int .i64 2]) (by simp [results, Try.results28, go_sem, (((DR.set 0 (.int .i64 0)).set 1 (.int .i64 0)).set 2 (.slice none 0 0)).cell 0, (((DR.set 0 (.int .i64 0)).set 1 (.int .i64 0)).set 2 (.slice none 0 0)).cell 1, (((DR.set 0 (.int .i64 0)).set 1 (.int .i64 0)).set 2 (.slice none 0 0)).cell 2]) rfl (CkOut.zero _ (((HJ.out.2.2.2.setCell (p := ⟨w.heap.size + 1 + 1, 0, none⟩) (by simp <;> omega) _).setCell (p := ⟨w.heap.size + 1 + 1, 1, none⟩) (by simp <;> omega) _).setCell (p := ⟨w.heap.size + 1 + 1, 2, none⟩) (by simp <;> omega) _))
    · have g2 : drift < p := by omega
      clear hbad
      go_wp2
      (try rw [hv]); have DR := HJ.out.2.2.1; exact bodyPost_ret (v := .tuple #[.agg #[.int .i64 0, .int .i64 0, .slice none 0 0], .int .i64 2]) (by simp [results, Try.results28, go_sem, (((DR.set 0 (.int .i64 0)).set 1 (.int .i64 0)).set 2 (.slice none 0 0)).cell 0, (((DR.set 0 (.int .i64 0)).set 1 (.int .i64 0)).set 2 (.slice none 0 0)).cell 1, (((DR.set 0 (.int .i64 0)).set 1 (.int .i64 0)).set 2 (.slice none 0 0)).cell 2]) rfl (CkOut.zero _ (((HJ.out.2.2.2.setCell (p := ⟨w.heap.size + 1 + 1, 0, none⟩) (by simp <;> omega) _).setCell (p := ⟨w.heap.size + 1 + 1, 1, none⟩) (by simp <;> omega) _).setCell (p := ⟨w.heap.size + 1 + 1, 2, none⟩) (by simp <;> omega) _))
  have g1 : ¬ p < -drift := fun h => hbad (.inl h)
  have g2 : ¬ drift < p := fun h => hbad (.inr h)
  have hv2 : v = if okR win nv = true then (nv, 0) else ((0, 0, []), 130) := by rw [HV.out, if_pos rfl, if_neg hbad]
  have HV2 := Lib.hid hv2
  clear hbad hv2 HV
  go_upto_region 6 with fail
  clear m0 m1 m2 m3 m4 m5 m6 m7 c0 c1 c2 d0 d1 d2 hz0 hz1 hz2 f0 f1 f2
  have hw1 : IntKind.i64.wrap (st + slot) = st + slot := IntWalk.i64_in _ (by omega)
  have hw2 : IntKind.i64.wrap (st + slot + p) = st + slot + p := IntWalk.i64_in _ (by omega)
  have hw3 : IntKind.i64.wrap (sl + 1) = sl + 1 := IntWalk.i64_in _ (by omega)
  replace HJ := Lib.hid (three_boxes HJ.out (Below.refl _ w1).drew)
  have H1 : w1.drew.cell? ⟨w.heap.size, 0, none⟩ = some (.int .i64 nodes) ∧ w1.drew.cell? ⟨w.heap.size, 1, none⟩ = some (.int .i64 slot) ∧ w1.drew.cell? ⟨w.heap.size, 2, none⟩ = some (.int .i64 gap) ∧ w1.drew.cell? ⟨w.heap.size, 3, none⟩ = some (.int .i64 win) ∧ w1.drew.cell? ⟨w.heap.size, 4, none⟩ = some (.int .i64 drift) ∧ w1.drew.cell? ⟨w.heap.size, 5, none⟩ = some (.int .i64 delay) ∧ w1.drew.cell? ⟨w.heap.size, 6, none⟩ = some (.slice ca cl.length cc) ∧ w1.drew.cell? ⟨w.heap.size, 7, none⟩ = some (.slice ma ml.length mc) ∧ w1.drew.cell? ⟨w.heap.size + 1, 0, none⟩ = some (.int .i64 st) ∧ w1.drew.cell? ⟨w.heap.size + 1, 1, none⟩ = some (.int .i64 sl) ∧ w1.drew.cell? ⟨w.heap.size + 1, 2, none⟩ = some (.slice da dl.length dc) ∧ Below w.heap.size w w1.drew := ⟨HJ.out.1.cell 0, HJ.out.1.cell 1, HJ.out.1.cell 2, HJ.out.1.cell 3, HJ.out.1.cell 4, HJ.out.1.cell 5, HJ.out.1.cell 6, HJ.out.1.cell 7, HJ.out.2.1.cell 0, HJ.out.2.1.cell 1, HJ.out.2.1.cell 2, HJ.out.2.2.2⟩
  refine wp_region_held_drew (S := (fun W => W.cell? ⟨w.heap.size, 0, none⟩ = some (.int .i64 nodes) ∧ W.cell? ⟨w.heap.size, 1, none⟩ = some (.int .i64 slot) ∧ W.cell? ⟨w.heap.size, 2, none⟩ = some (.int .i64 gap) ∧ W.cell? ⟨w.heap.size, 3, none⟩ = some (.int .i64 win) ∧ W.cell? ⟨w.heap.size, 4, none⟩ = some (.int .i64 drift) ∧ W.cell? ⟨w.heap.size, 5, none⟩ = some (.int .i64 delay) ∧ W.cell? ⟨w.heap.size, 6, none⟩ = some (.slice ca cl.length cc) ∧ W.cell? ⟨w.heap.size, 7, none⟩ = some (.slice ma ml.length mc) ∧ W.cell? ⟨w.heap.size + 1, 0, none⟩ = some (.int .i64 st) ∧ W.cell? ⟨w.heap.size + 1, 1, none⟩ = some (.int .i64 sl) ∧ W.cell? ⟨w.heap.size + 1, 2, none⟩ = some (.slice da dl.length dc) ∧ Below w.heap.size w W)) (by kernel_rfl) (by assumption) (fun hHeld => ?_)
  generalize w1.drew = Wd at *
  (refine takeW (i := 0) (v := ?_) rfl (by kernel_rfl) (by kernel_rfl) (by kernel_rfl) (fun _ _ _ h => h) (by rfl) (by assumption) ?_ ?_; rotate_left; (intro W hW; (try dsimp only at hW); go_simp; try with_reducible rfl); (try simp only [Act.put, List.setIfInBounds_toArray, List.set_cons_zero, List.set_cons_succ]))
  (refine takeW (i := 1) (v := ?_) rfl (by kernel_rfl) (by kernel_rfl) (by kernel_rfl) (fun _ _ _ h => h) (by rfl) (by assumption) ?_ ?_; rotate_left; (intro W hW; (try dsimp only at hW); go_simp; try with_reducible rfl); (try simp only [Act.put, List.setIfInBounds_toArray, List.set_cons_zero, List.set_cons_succ]))
  (refine takeW (i := 2) (v := ?_) rfl (by kernel_rfl) (by kernel_rfl) (by kernel_rfl) (fun _ _ _ h => h) (by rfl) (by assumption) ?_ ?_; rotate_left; (intro W hW; (try dsimp only at hW); go_simp; try with_reducible rfl); (try simp only [Act.put, List.setIfInBounds_toArray, List.set_cons_zero, List.set_cons_succ]))
  (refine takeW (i := 3) (v := ?_) rfl (by kernel_rfl) (by kernel_rfl) (by kernel_rfl) (fun _ _ _ h => h) (by rfl) (by assumption) ?_ ?_; rotate_left; (intro W hW; (try dsimp only at hW); go_simp; try with_reducible rfl); (try simp only [Act.put, List.setIfInBounds_toArray, List.set_cons_zero, List.set_cons_succ]))
  (refine takeW (i := 4) (v := ?_) rfl (by kernel_rfl) (by kernel_rfl) (by kernel_rfl) (fun _ _ _ h => h) (by rfl) (by assumption) ?_ ?_; rotate_left; (intro W hW; (try dsimp only at hW); go_simp; try with_reducible rfl); (try simp only [Act.put, List.setIfInBounds_toArray, List.set_cons_zero, List.set_cons_succ]))
  (refine takeW (i := 5) (v := ?_) rfl (by kernel_rfl) (by kernel_rfl) (by kernel_rfl) (fun _ _ _ h => h) (by rfl) (by assumption) ?_ ?_; rotate_left; (intro W hW; (try dsimp only at hW); go_simp; try with_reducible rfl); (try simp only [Act.put, List.setIfInBounds_toArray, List.set_cons_zero, List.set_cons_succ]))
  (refine takeW (i := 6) (v := ?_) rfl (by kernel_rfl) (by kernel_rfl) (by kernel_rfl) (fun _ _ _ h => h) (by rfl) (by assumption) ?_ ?_; rotate_left; (intro W hW; (try dsimp only at hW); go_simp; try with_reducible rfl); (try simp only [Act.put, List.setIfInBounds_toArray, List.set_cons_zero, List.set_cons_succ]))
  (refine takeW (i := 7) (v := ?_) rfl (by kernel_rfl) (by kernel_rfl) (by kernel_rfl) (fun _ _ _ h => h) (by rfl) (by assumption) ?_ ?_; rotate_left; (intro W hW; (try dsimp only at hW); go_simp; try with_reducible rfl); (try simp only [Act.put, List.setIfInBounds_toArray, List.set_cons_zero, List.set_cons_succ]))
  (refine takeW (i := 8) (v := ?_) rfl (by kernel_rfl) (by kernel_rfl) (by kernel_rfl) (fun _ _ _ h => h) (by rfl) (by assumption) ?_ ?_; rotate_left; (intro W hW; (try dsimp only at hW); go_simp; try with_reducible rfl); (try simp only [Act.put, List.setIfInBounds_toArray, List.set_cons_zero, List.set_cons_succ]))
  (refine takeW (i := 9) (v := ?_) rfl (by kernel_rfl) (by kernel_rfl) (by kernel_rfl) (fun _ _ _ h => h) (by rfl) (by assumption) ?_ ?_; rotate_left; (intro W hW; (try dsimp only at hW); go_simp; try with_reducible rfl); (try simp only [Act.put, List.setIfInBounds_toArray, List.set_cons_zero, List.set_cons_succ]))
  (refine takeW (i := 10) (v := ?_) rfl (by kernel_rfl) (by kernel_rfl) (by kernel_rfl) (fun _ _ _ h => h) (by rfl) (by assumption) ?_ ?_; rotate_left; (intro W hW; (try dsimp only at hW); go_simp; try with_reducible rfl); (try simp only [Act.put, List.setIfInBounds_toArray, List.set_cons_zero, List.set_cons_succ]))
  (refine takeW (i := 11) (v := ?_) rfl (by kernel_rfl) (by kernel_rfl) (by kernel_rfl) (fun _ _ _ h => h) (by rfl) (by assumption) ?_ ?_; rotate_left; (intro W hW; (try dsimp only at hW); go_simp; try with_reducible rfl); (try simp only [Act.put, List.setIfInBounds_toArray, List.set_cons_zero, List.set_cons_succ]))
  refine takeC2 (i := 12) (j := 14) rfl rfl (by kernel_rfl) (by rfl) (by rfl) (fun K hK => ?_) (fun K hK => ?_)
  · (first | (refine oper_app E22 (.const (.slice none 0 0)) (.tmp 44) rfl (own_nil (base := b10 + 1) (e := 2) (size := 1)) (HCI.out.below (HJ.out.2.2.2)).src rfl rfl (by omega) (by have := HN.out.lt; omega) ?_; intro v' W12 ho hg hn; have hrb := ownsRow_ne ho (j := b10) (by omega); replace ho := ownsRow_mono ho (base' := w.heap.size + 1 + 1 + 1) (by omega)) | (refine oper_app E22 (.const (.slice none 0 0)) (.tmp 44) rfl (own_nil (base := w.heap.size + 1 + 1 + 1) (e := 2) (size := 1)) (HCI.out.below (HJ.out.2.2.2)).src rfl rfl (by omega) (by have := HJ.out.2.2.1.lt; omega) ?_; intro v' W12 ho hg hn)); obtain ⟨oa, oc, rfl, _⟩ := owns_shape ho; go_simp; (have hj := HJ.out; replace HJ := Lib.hid (three_kept HJ.out hg (own_nil (base := w.heap.size + 1 + 1 + 1) (e := 2) (size := 1))); (try replace HN := Lib.hid (keptSrc HN.out hg)); clear hg hn hj; simp only [Nat.zero_add, List.nil_append] at ho; have HO := Lib.hid ho; (try (simp only [Nat.zero_add] at hrb; have HRB := Lib.hid hrb; clear hrb)); clear ho; have hs : W12.cell? ⟨w.heap.size, 0, none⟩ = some (.int .i64 nodes) ∧ W12.cell? ⟨w.heap.size, 1, none⟩ = some (.int .i64 slot) ∧ W12.cell? ⟨w.heap.size, 2, none⟩ = some (.int .i64 gap) ∧ W12.cell? ⟨w.heap.size, 3, none⟩ = some (.int .i64 win) ∧ W12.cell? ⟨w.heap.size, 4, none⟩ = some (.int .i64 drift) ∧ W12.cell? ⟨w.heap.size, 5, none⟩ = some (.int .i64 delay) ∧ W12.cell? ⟨w.heap.size, 6, none⟩ = some (.slice ca cl.length cc) ∧ W12.cell? ⟨w.heap.size, 7, none⟩ = some (.slice ma ml.length mc) ∧ W12.cell? ⟨w.heap.size + 1, 0, none⟩ = some (.int .i64 st) ∧ W12.cell? ⟨w.heap.size + 1, 1, none⟩ = some (.int .i64 sl) ∧ W12.cell? ⟨w.heap.size + 1, 2, none⟩ = some (.slice da dl.length dc) ∧ Below w.heap.size w W12 := ⟨HJ.out.1.cell 0, HJ.out.1.cell 1, HJ.out.1.cell 2, HJ.out.1.cell 3, HJ.out.1.cell 4, HJ.out.1.cell 5, HJ.out.1.cell 6, HJ.out.1.cell 7, HJ.out.2.1.cell 0, HJ.out.2.1.cell 1, HJ.out.2.1.cell 2, HJ.out.2.2.2⟩); refine hK.out _ _ hs (fun hHeld => ?_); clear hK K; (try simp only [Act.put, List.setIfInBounds_toArray, List.set_cons_zero, List.set_cons_succ])
    (refine takeW (i := 13) (v := ?_) rfl (by kernel_rfl) (by kernel_rfl) (by kernel_rfl) (fun _ _ _ h => h) (by rfl) (by assumption) ?_ ?_; rotate_left; (intro W hW; (try dsimp only at hW); go_simp; try with_reducible rfl); (try simp only [Act.put, List.setIfInBounds_toArray, List.set_cons_zero, List.set_cons_succ]))
    (refine takeC (i := 14) rfl (by kernel_rfl) (by rfl) (fun K hK => ?_); go_simp; ((try have HRB := Lib.hid (own_ne HO.out)); have hb10 : w.heap.size + 1 + 1 < W12.heap.size := HJ.out.2.2.1.lt; have HN : Hid (Blk (W12.alloc (.cells #[.int .i64 0, .int .i64 0, .slice none 0 0] 28)) W12.heap.size 28 #[.int .i64 0, .int .i64 0, .slice none 0 0]) := (Blk.new' rfl : Blk _ _ _ _); replace HJ := Lib.hid (three_boxes HJ.out (below1 W12 (.cells #[.int .i64 0, .int .i64 0, .slice none 0 0] 28))); (try replace HO := Lib.hid (HO.out.alloc (.cells #[.int .i64 0, .int .i64 0, .slice none 0 0] 28))); clear hHeld; generalize W12.heap.size = b10 at *; generalize W12.alloc (.cells #[.int .i64 0, .int .i64 0, .slice none 0 0] 28) = W14 at *; have hs : W14.cell? ⟨w.heap.size, 0, none⟩ = some (.int .i64 nodes) ∧ W14.cell? ⟨w.heap.size, 1, none⟩ = some (.int .i64 slot) ∧ W14.cell? ⟨w.heap.size, 2, none⟩ = some (.int .i64 gap) ∧ W14.cell? ⟨w.heap.size, 3, none⟩ = some (.int .i64 win) ∧ W14.cell? ⟨w.heap.size, 4, none⟩ = some (.int .i64 drift) ∧ W14.cell? ⟨w.heap.size, 5, none⟩ = some (.int .i64 delay) ∧ W14.cell? ⟨w.heap.size, 6, none⟩ = some (.slice ca cl.length cc) ∧ W14.cell? ⟨w.heap.size, 7, none⟩ = some (.slice ma ml.length mc) ∧ W14.cell? ⟨w.heap.size + 1, 0, none⟩ = some (.int .i64 st) ∧ W14.cell? ⟨w.heap.size + 1, 1, none⟩ = some (.int .i64 sl) ∧ W14.cell? ⟨w.heap.size + 1, 2, none⟩ = some (.slice da dl.length dc) ∧ Below w.heap.size w W14 := ⟨HJ.out.1.cell 0, HJ.out.1.cell 1, HJ.out.1.cell 2, HJ.out.1.cell 3, HJ.out.1.cell 4, HJ.out.1.cell 5, HJ.out.1.cell 6, HJ.out.1.cell 7, HJ.out.2.1.cell 0, HJ.out.2.1.cell 1, HJ.out.2.1.cell 2, HJ.out.2.2.2⟩); refine hK.out _ _ hs (fun hHeld => ?_); clear hK K; (try simp only [Act.put, List.setIfInBounds_toArray, List.set_cons_zero, List.set_cons_succ]))
    (refine takeC (i := 15) rfl (by kernel_rfl) (by rfl) (fun K hK => ?_); obtain ⟨n0', n1', n2'⟩ := HN.out.three; have hz10 := HN.out.lt; have fn0 := HN.out.frozen 0; have fn2 := HN.out.frozen 2; have fn1 := HN.out.frozen 1; go_simp; (have HJ2 : Hid (Blk (((W14.setCell ⟨b10, 0, none⟩ (.int .i64 (st + slot + p))).setCell ⟨b10, 1, none⟩ (.int .i64 (sl + 1))).setCell ⟨b10, 2, none⟩ (.slice oa dl.length oc)) w.heap.size 25 #[.int .i64 nodes, .int .i64 slot, .int .i64 gap, .int .i64 win, .int .i64 drift, .int .i64 delay, .slice ca cl.length cc, .slice ma ml.length mc] ∧ Blk (((W14.setCell ⟨b10, 0, none⟩ (.int .i64 (st + slot + p))).setCell ⟨b10, 1, none⟩ (.int .i64 (sl + 1))).setCell ⟨b10, 2, none⟩ (.slice oa dl.length oc)) (w.heap.size + 1) 28 #[.int .i64 st, .int .i64 sl, .slice da dl.length dc] ∧ Blk (((W14.setCell ⟨b10, 0, none⟩ (.int .i64 (st + slot + p))).setCell ⟨b10, 1, none⟩ (.int .i64 (sl + 1))).setCell ⟨b10, 2, none⟩ (.slice oa dl.length oc)) (w.heap.size + 1 + 1) 28 #[.int .i64 0, .int .i64 0, .slice none 0 0] ∧ Below w.heap.size w (((W14.setCell ⟨b10, 0, none⟩ (.int .i64 (st + slot + p))).setCell ⟨b10, 1, none⟩ (.int .i64 (sl + 1))).setCell ⟨b10, 2, none⟩ (.slice oa dl.length oc))) := ⟨(((HJ.out.1.far (by simp; omega) _).far (by simp; omega) _).far (by simp; omega) _), (((HJ.out.2.1.far (by simp; omega) _).far (by simp; omega) _).far (by simp; omega) _), (((HJ.out.2.2.1.far (by simp; omega) _).far (by simp; omega) _).far (by simp; omega) _), (((HJ.out.2.2.2.setCell (by simp; omega) _).setCell (by simp; omega) _).setCell (by simp; omega) _)⟩; have HN2 : Hid (Blk (((W14.setCell ⟨b10, 0, none⟩ (.int .i64 (st + slot + p))).setCell ⟨b10, 1, none⟩ (.int .i64 (sl + 1))).setCell ⟨b10, 2, none⟩ (.slice oa dl.length oc)) b10 28 #[.int .i64 (st + slot + p), .int .i64 (sl + 1), .slice oa dl.length oc]) := (by show Blk _ _ _ _; simpa using ((HN.out.set 0 (.int .i64 (st + slot + p))).set 1 (.int .i64 (sl + 1))).set 2 (.slice oa dl.length oc)); clear hHeld HJ HN n0' n1' n2' hz10 fn0 fn1 fn2; have HJ := HJ2; have HN := HN2; clear HJ2 HN2; replace HO := Lib.hid (keptFar HO.out HRB.out (.int .i64 (st + slot + p)) (.int .i64 (sl + 1)) (.slice oa dl.length oc)); generalize (((W14.setCell ⟨b10, 0, none⟩ (.int .i64 (st + slot + p))).setCell ⟨b10, 1, none⟩ (.int .i64 (sl + 1))).setCell ⟨b10, 2, none⟩ (.slice oa dl.length oc)) = W15 at *; have hs : W15.cell? ⟨w.heap.size, 0, none⟩ = some (.int .i64 nodes) ∧ W15.cell? ⟨w.heap.size, 1, none⟩ = some (.int .i64 slot) ∧ W15.cell? ⟨w.heap.size, 2, none⟩ = some (.int .i64 gap) ∧ W15.cell? ⟨w.heap.size, 3, none⟩ = some (.int .i64 win) ∧ W15.cell? ⟨w.heap.size, 4, none⟩ = some (.int .i64 drift) ∧ W15.cell? ⟨w.heap.size, 5, none⟩ = some (.int .i64 delay) ∧ W15.cell? ⟨w.heap.size, 6, none⟩ = some (.slice ca cl.length cc) ∧ W15.cell? ⟨w.heap.size, 7, none⟩ = some (.slice ma ml.length mc) ∧ W15.cell? ⟨w.heap.size + 1, 0, none⟩ = some (.int .i64 st) ∧ W15.cell? ⟨w.heap.size + 1, 1, none⟩ = some (.int .i64 sl) ∧ W15.cell? ⟨w.heap.size + 1, 2, none⟩ = some (.slice da dl.length dc) ∧ Below w.heap.size w W15 := ⟨HJ.out.1.cell 0, HJ.out.1.cell 1, HJ.out.1.cell 2, HJ.out.1.cell 3, HJ.out.1.cell 4, HJ.out.1.cell 5, HJ.out.1.cell 6, HJ.out.1.cell 7, HJ.out.2.1.cell 0, HJ.out.2.1.cell 1, HJ.out.2.1.cell 2, HJ.out.2.2.2⟩); refine hK.out _ _ hs (fun hHeld => ?_); clear hK K; (try simp only [Act.put, List.setIfInBounds_toArray, List.set_cons_zero, List.set_cons_succ]))
    refine wpAnyH_done (by kernel_rfl) ?_ _
    clear hHeld
    generalize W15 = w5 at *
    obtain ⟨m0, m1, m2, m3, m4, m5, m6, m7⟩ := HJ.out.1.eight; obtain ⟨c0, c1, c2⟩ := HJ.out.2.1.three; obtain ⟨d0, d1, d2⟩ := HJ.out.2.2.1.three; have hz0 := HJ.out.1.lt; have hz1 := HJ.out.2.1.lt; have hz2 := HJ.out.2.2.1.lt; have f0 := HJ.out.2.2.1.frozen 0; have f1 := HJ.out.2.2.1.frozen 1; have f2 := HJ.out.2.2.1.frozen 2
    obtain ⟨n0', n1', n2'⟩ := HN.out.three; have hz10 := HN.out.lt; have fn0 := HN.out.frozen 0; have fn2 := HN.out.frozen 2
    by_cases hr : (sl + 1).tmod nodes = 0
    · have hnv : nv = (st + slot + p + k, sl + 1, []) := by rw [HNX.out, if_pos hr, Int.add_assoc st slot p]
      clear HNX HO
      go_upto_region 10 with fail
      clear m0 m1 m2 m3 m4 m5 m6 m7 c0 c1 c2 d0 d1 d2 hz0 hz1 hz2 f0 f1 f2
      clear n0' n1' n2' hz10 fn0 fn2
      have HJ2 : Hid (Blk ((w5.setCell ⟨b10, 0, none⟩ (.int .i64 (st + slot + p + k))).setCell ⟨b10, 2, none⟩ (.slice none 0 0)) w.heap.size 25 #[.int .i64 nodes, .int .i64 slot, .int .i64 gap, .int .i64 win, .int .i64 drift, .int .i64 delay, .slice ca cl.length cc, .slice ma ml.length mc] ∧ Blk ((w5.setCell ⟨b10, 0, none⟩ (.int .i64 (st + slot + p + k))).setCell ⟨b10, 2, none⟩ (.slice none 0 0)) (w.heap.size + 1) 28 #[.int .i64 st, .int .i64 sl, .slice da dl.length dc] ∧ Blk ((w5.setCell ⟨b10, 0, none⟩ (.int .i64 (st + slot + p + k))).setCell ⟨b10, 2, none⟩ (.slice none 0 0)) (w.heap.size + 1 + 1) 28 #[.int .i64 0, .int .i64 0, .slice none 0 0] ∧ Below w.heap.size w ((w5.setCell ⟨b10, 0, none⟩ (.int .i64 (st + slot + p + k))).setCell ⟨b10, 2, none⟩ (.slice none 0 0))) := ⟨((HJ.out.1.far (by simp; omega) _).far (by simp; omega) _), ((HJ.out.2.1.far (by simp; omega) _).far (by simp; omega) _), ((HJ.out.2.2.1.far (by simp; omega) _).far (by simp; omega) _), ((HJ.out.2.2.2.setCell (by simp; omega) _).setCell (by simp; omega) _)⟩
      have HN2 : Hid (Blk ((w5.setCell ⟨b10, 0, none⟩ (.int .i64 (st + slot + p + k))).setCell ⟨b10, 2, none⟩ (.slice none 0 0)) b10 28 #[.int .i64 (st + slot + p + k), .int .i64 (sl + 1), .slice none 0 0]) := by show Blk _ _ _ _; simpa using (HN.out.set 0 (.int .i64 (st + slot + p + k))).set 2 (.slice none 0 0)
      clear HJ HN
      have HJ := HJ2
      have HN := HN2
      clear HJ2 HN2
      generalize ((w5.setCell ⟨b10, 0, none⟩ (.int .i64 (st + slot + p + k))).setCell ⟨b10, 2, none⟩ (.slice none 0 0)) = w4 at *
      have hgc : GoodCk w4 ⟨st + slot + p + k, sl + 1, none, 0, []⟩ := ⟨ints_nil _, (show I64 (st + slot + p + k) by unfold I64; omega), (show I64 (sl + 1) by unfold I64; omega)⟩
      have hmy := HMY.out ⟨st + slot + p + k, sl + 1, none, 0, []⟩ _ HJ.out.2.2.2 hgc
      simp only at hmy
      have hokm : errC ⟨nodes, slot, gap, win, drift, delay, ⟨ca, cc, cl⟩, ma, mc, ml⟩ ⟨st + slot + p + k, sl + 1, none, 0, []⟩ = if okR win nv = true then 0 else 130 := by rw [hnv]; unfold errC; rw [if_pos HM.out]; rfl
      rw [hokm] at hmy
      clear hgc hokm
      obtain ⟨m0, m1, m2, m3, m4, m5, m6, m7⟩ := HJ.out.1.eight; obtain ⟨c0, c1, c2⟩ := HJ.out.2.1.three; obtain ⟨d0, d1, d2⟩ := HJ.out.2.2.1.three; have hz0 := HJ.out.1.lt; have hz1 := HJ.out.2.1.lt; have hz2 := HJ.out.2.2.1.lt; have f0 := HJ.out.2.2.1.frozen 0; have f1 := HJ.out.2.2.1.frozen 1; have f2 := HJ.out.2.2.1.frozen 2
      obtain ⟨n0', n1', n2'⟩ := HN.out.three; have hz10 := HN.out.lt; have fn0 := HN.out.frozen 0; have fn2 := HN.out.frozen 2
      go_wp2_with fail
      refine hmy.mono ?_
      rintro e w9 ⟨rfl, hb⟩
      clear m0 m1 m2 m3 m4 m5 m6 m7 c0 c1 c2 d0 d1 d2 hz0 hz1 hz2 f0 f1 f2
      clear n0' n1' n2' hz10 fn0 fn2
      replace HJ := Lib.hid (three_boxes HJ.out hb)
      replace HN := Lib.hid (HN.out.keep hb)
      clear hb hmy
      obtain ⟨m0, m1, m2, m3, m4, m5, m6, m7⟩ := HJ.out.1.eight; obtain ⟨c0, c1, c2⟩ := HJ.out.2.1.three; obtain ⟨d0, d1, d2⟩ := HJ.out.2.2.1.three; have hz0 := HJ.out.1.lt; have hz1 := HJ.out.2.1.lt; have hz2 := HJ.out.2.2.1.lt; have f0 := HJ.out.2.2.1.frozen 0; have f1 := HJ.out.2.2.1.frozen 1; have f2 := HJ.out.2.2.1.frozen 2
      obtain ⟨n0', n1', n2'⟩ := HN.out.three; have hz10 := HN.out.lt; have fn0 := HN.out.frozen 0; have fn2 := HN.out.frozen 2
      have HNV := Lib.hid hnv
      clear hnv
      generalize okR win nv = ok at *
      cases ok
      · have hv : v = ((0, 0, []), 130) := by simpa using HV2.out
        go_wp2
        (try rw [hv]); have DR := HJ.out.2.2.1; exact bodyPost_ret (v := .tuple #[.agg #[.int .i64 0, .int .i64 0, .slice none 0 0], .int .i64 130]) (by simp [results, Try.results28, go_sem, (((DR.set 0 (.int .i64 0)).set 1 (.int .i64 0)).set 2 (.slice none 0 0)).cell 0, (((DR.set 0 (.int .i64 0)).set 1 (.int .i64 0)).set 2 (.slice none 0 0)).cell 1, (((DR.set 0 (.int .i64 0)).set 1 (.int .i64 0)).set 2 (.slice none 0 0)).cell 2]) rfl (CkOut.zero _ (((HJ.out.2.2.2.setCell (p := ⟨w.heap.size + 1 + 1, 0, none⟩) (by simp <;> omega) _).setCell (p := ⟨w.heap.size + 1 + 1, 1, none⟩) (by simp <;> omega) _).setCell (p := ⟨w.heap.size + 1 + 1, 2, none⟩) (by simp <;> omega) _))
      · have hv : v = (nv, 0) := by simpa using HV2.out
        go_wp2
        (try rw [hv]); rw [HNV.out]
        have DR := HJ.out.2.2.1; exact bodyPost_ret (v := .tuple #[.agg #[.int .i64 (st + slot + p + k), .int .i64 (sl + 1), .slice none 0 0], .int .i64 0]) (by simp [results, Try.results28, go_sem, (((DR.set 0 (.int .i64 (st + slot + p + k))).set 1 (.int .i64 (sl + 1))).set 2 (.slice none 0 0)).cell 0, (((DR.set 0 (.int .i64 (st + slot + p + k))).set 1 (.int .i64 (sl + 1))).set 2 (.slice none 0 0)).cell 1, (((DR.set 0 (.int .i64 (st + slot + p + k))).set 1 (.int .i64 (sl + 1))).set 2 (.slice none 0 0)).cell 2]) rfl (CkOut.own (b6 := w.heap.size + 1 + 1) (n := 0) rfl HJ.out.2.2.2 own_nil rfl (by omega) (by simp) (show I64 (st + slot + p + k) by unfold I64; omega) (show I64 (sl + 1) by unfold I64; omega))
    · have hnv : nv = (st + slot + p, sl + 1, dl) := by rw [HNX.out, if_neg hr, Int.add_assoc st slot p]
      clear HNX
      have hrd : decide ((sl + 1).tmod nodes = 0) = false := by simpa using hr
      have hrv : ¬ nodes ∣ sl + 1 := fun h => hr (Int.tmod_eq_zero_of_dvd h)
      go_upto_region 10 with fail
      clear m0 m1 m2 m3 m4 m5 m6 m7 c0 c1 c2 d0 d1 d2 hz0 hz1 hz2 f0 f1 f2
      clear n0' n1' n2' hz10 fn0 fn2
      generalize w5 = w4 at *
      have hgc : GoodCk w4 ⟨st + slot + p, sl + 1, oa, oc, dl⟩ := ⟨Ints.of_owns HO.out (by show dl.length ≤ _; omega) HCI.out.bd, (show I64 (st + slot + p) by unfold I64; omega), (show I64 (sl + 1) by unfold I64; omega)⟩
      have hmy := HMY.out ⟨st + slot + p, sl + 1, oa, oc, dl⟩ _ HJ.out.2.2.2 hgc
      simp only at hmy
      have hokm : errC ⟨nodes, slot, gap, win, drift, delay, ⟨ca, cc, cl⟩, ma, mc, ml⟩ ⟨st + slot + p, sl + 1, oa, oc, dl⟩ = if okR win nv = true then 0 else 130 := by rw [hnv]; unfold errC; rw [if_pos HM.out]; rfl
      rw [hokm] at hmy
      clear hgc hokm
      obtain ⟨m0, m1, m2, m3, m4, m5, m6, m7⟩ := HJ.out.1.eight; obtain ⟨c0, c1, c2⟩ := HJ.out.2.1.three; obtain ⟨d0, d1, d2⟩ := HJ.out.2.2.1.three; have hz0 := HJ.out.1.lt; have hz1 := HJ.out.2.1.lt; have hz2 := HJ.out.2.2.1.lt; have f0 := HJ.out.2.2.1.frozen 0; have f1 := HJ.out.2.2.1.frozen 1; have f2 := HJ.out.2.2.1.frozen 2
      obtain ⟨n0', n1', n2'⟩ := HN.out.three; have hz10 := HN.out.lt; have fn0 := HN.out.frozen 0; have fn2 := HN.out.frozen 2
      go_wp2_with fail
      refine hmy.mono ?_
      rintro e w9 ⟨rfl, hb⟩
      clear m0 m1 m2 m3 m4 m5 m6 m7 c0 c1 c2 d0 d1 d2 hz0 hz1 hz2 f0 f1 f2
      clear n0' n1' n2' hz10 fn0 fn2
      replace HJ := Lib.hid (three_boxes HJ.out hb)
      replace HN := Lib.hid (HN.out.keep hb)
      replace HO := Lib.hid (ow_below HO.out hb)
      clear hb hmy
      obtain ⟨m0, m1, m2, m3, m4, m5, m6, m7⟩ := HJ.out.1.eight; obtain ⟨c0, c1, c2⟩ := HJ.out.2.1.three; obtain ⟨d0, d1, d2⟩ := HJ.out.2.2.1.three; have hz0 := HJ.out.1.lt; have hz1 := HJ.out.2.1.lt; have hz2 := HJ.out.2.2.1.lt; have f0 := HJ.out.2.2.1.frozen 0; have f1 := HJ.out.2.2.1.frozen 1; have f2 := HJ.out.2.2.1.frozen 2
      obtain ⟨n0', n1', n2'⟩ := HN.out.three; have hz10 := HN.out.lt; have fn0 := HN.out.frozen 0; have fn2 := HN.out.frozen 2
      have HNV := Lib.hid hnv
      clear hnv
      generalize okR win nv = ok at *
      cases ok
      · have hv : v = ((0, 0, []), 130) := by simpa using HV2.out
        go_wp2
        (try rw [hv]); have DR := HJ.out.2.2.1; exact bodyPost_ret (v := .tuple #[.agg #[.int .i64 0, .int .i64 0, .slice none 0 0], .int .i64 130]) (by simp [results, Try.results28, go_sem, (((DR.set 0 (.int .i64 0)).set 1 (.int .i64 0)).set 2 (.slice none 0 0)).cell 0, (((DR.set 0 (.int .i64 0)).set 1 (.int .i64 0)).set 2 (.slice none 0 0)).cell 1, (((DR.set 0 (.int .i64 0)).set 1 (.int .i64 0)).set 2 (.slice none 0 0)).cell 2]) rfl (CkOut.zero _ (((HJ.out.2.2.2.setCell (p := ⟨w.heap.size + 1 + 1, 0, none⟩) (by simp <;> omega) _).setCell (p := ⟨w.heap.size + 1 + 1, 1, none⟩) (by simp <;> omega) _).setCell (p := ⟨w.heap.size + 1 + 1, 2, none⟩) (by simp <;> omega) _))
      · have hv : v = (nv, 0) := by simpa using HV2.out
        go_wp2
        (try rw [hv]); rw [HNV.out]
        have DR := HJ.out.2.2.1; exact bodyPost_ret (v := .tuple #[.agg #[.int .i64 (st + slot + p), .int .i64 (sl + 1), .slice (oa) dl.length (oc)], .int .i64 0]) (by simp [results, Try.results28, go_sem, (((DR.set 0 (.int .i64 (st + slot + p))).set 1 (.int .i64 (sl + 1))).set 2 (.slice (oa) dl.length (oc))).cell 0, (((DR.set 0 (.int .i64 (st + slot + p))).set 1 (.int .i64 (sl + 1))).set 2 (.slice (oa) dl.length (oc))).cell 1, (((DR.set 0 (.int .i64 (st + slot + p))).set 1 (.int .i64 (sl + 1))).set 2 (.slice (oa) dl.length (oc))).cell 2]) rfl (CkOut.own (b6 := w.heap.size + 1 + 1) (n := dl.length) rfl HJ.out.2.2.2 HO.out rfl (by omega) HCI.out.bd (show I64 (st + slot + p) by unfold I64; omega) (show I64 (sl + 1) by unfold I64; omega))
  · go_simp; ((try have HRB := Lib.hid (own_ne HO.out)); have hb10 : w.heap.size + 1 + 1 < Wd.heap.size := HJ.out.2.2.1.lt; have HN : Hid (Blk (Wd.alloc (.cells #[.int .i64 0, .int .i64 0, .slice none 0 0] 28)) Wd.heap.size 28 #[.int .i64 0, .int .i64 0, .slice none 0 0]) := (Blk.new' rfl : Blk _ _ _ _); replace HJ := Lib.hid (three_boxes HJ.out (below1 Wd (.cells #[.int .i64 0, .int .i64 0, .slice none 0 0] 28))); (try replace HO := Lib.hid (HO.out.alloc (.cells #[.int .i64 0, .int .i64 0, .slice none 0 0] 28))); clear hHeld; generalize Wd.heap.size = b10 at *; generalize Wd.alloc (.cells #[.int .i64 0, .int .i64 0, .slice none 0 0] 28) = W14 at *; have hs : W14.cell? ⟨w.heap.size, 0, none⟩ = some (.int .i64 nodes) ∧ W14.cell? ⟨w.heap.size, 1, none⟩ = some (.int .i64 slot) ∧ W14.cell? ⟨w.heap.size, 2, none⟩ = some (.int .i64 gap) ∧ W14.cell? ⟨w.heap.size, 3, none⟩ = some (.int .i64 win) ∧ W14.cell? ⟨w.heap.size, 4, none⟩ = some (.int .i64 drift) ∧ W14.cell? ⟨w.heap.size, 5, none⟩ = some (.int .i64 delay) ∧ W14.cell? ⟨w.heap.size, 6, none⟩ = some (.slice ca cl.length cc) ∧ W14.cell? ⟨w.heap.size, 7, none⟩ = some (.slice ma ml.length mc) ∧ W14.cell? ⟨w.heap.size + 1, 0, none⟩ = some (.int .i64 st) ∧ W14.cell? ⟨w.heap.size + 1, 1, none⟩ = some (.int .i64 sl) ∧ W14.cell? ⟨w.heap.size + 1, 2, none⟩ = some (.slice da dl.length dc) ∧ Below w.heap.size w W14 := ⟨HJ.out.1.cell 0, HJ.out.1.cell 1, HJ.out.1.cell 2, HJ.out.1.cell 3, HJ.out.1.cell 4, HJ.out.1.cell 5, HJ.out.1.cell 6, HJ.out.1.cell 7, HJ.out.2.1.cell 0, HJ.out.2.1.cell 1, HJ.out.2.1.cell 2, HJ.out.2.2.2⟩); refine hK.out _ _ hs (fun hHeld => ?_); clear hK K; (try simp only [Act.put, List.setIfInBounds_toArray, List.set_cons_zero, List.set_cons_succ])
    (refine takeC (i := 12) rfl (by kernel_rfl) (by rfl) (fun K hK => ?_); (first | (refine oper_app E22 (.const (.slice none 0 0)) (.tmp 44) rfl (own_nil (base := b10 + 1) (e := 2) (size := 1)) (HCI.out.below (HJ.out.2.2.2)).src rfl rfl (by omega) (by have := HN.out.lt; omega) ?_; intro v' W12 ho hg hn; have hrb := ownsRow_ne ho (j := b10) (by omega); replace ho := ownsRow_mono ho (base' := w.heap.size + 1 + 1 + 1) (by omega)) | (refine oper_app E22 (.const (.slice none 0 0)) (.tmp 44) rfl (own_nil (base := w.heap.size + 1 + 1 + 1) (e := 2) (size := 1)) (HCI.out.below (HJ.out.2.2.2)).src rfl rfl (by omega) (by have := HJ.out.2.2.1.lt; omega) ?_; intro v' W12 ho hg hn)); obtain ⟨oa, oc, rfl, _⟩ := owns_shape ho; go_simp; (have hj := HJ.out; replace HJ := Lib.hid (three_kept HJ.out hg (own_nil (base := w.heap.size + 1 + 1 + 1) (e := 2) (size := 1))); (try replace HN := Lib.hid (keptSrc HN.out hg)); clear hg hn hj; simp only [Nat.zero_add, List.nil_append] at ho; have HO := Lib.hid ho; (try (simp only [Nat.zero_add] at hrb; have HRB := Lib.hid hrb; clear hrb)); clear ho; have hs : W12.cell? ⟨w.heap.size, 0, none⟩ = some (.int .i64 nodes) ∧ W12.cell? ⟨w.heap.size, 1, none⟩ = some (.int .i64 slot) ∧ W12.cell? ⟨w.heap.size, 2, none⟩ = some (.int .i64 gap) ∧ W12.cell? ⟨w.heap.size, 3, none⟩ = some (.int .i64 win) ∧ W12.cell? ⟨w.heap.size, 4, none⟩ = some (.int .i64 drift) ∧ W12.cell? ⟨w.heap.size, 5, none⟩ = some (.int .i64 delay) ∧ W12.cell? ⟨w.heap.size, 6, none⟩ = some (.slice ca cl.length cc) ∧ W12.cell? ⟨w.heap.size, 7, none⟩ = some (.slice ma ml.length mc) ∧ W12.cell? ⟨w.heap.size + 1, 0, none⟩ = some (.int .i64 st) ∧ W12.cell? ⟨w.heap.size + 1, 1, none⟩ = some (.int .i64 sl) ∧ W12.cell? ⟨w.heap.size + 1, 2, none⟩ = some (.slice da dl.length dc) ∧ Below w.heap.size w W12 := ⟨HJ.out.1.cell 0, HJ.out.1.cell 1, HJ.out.1.cell 2, HJ.out.1.cell 3, HJ.out.1.cell 4, HJ.out.1.cell 5, HJ.out.1.cell 6, HJ.out.1.cell 7, HJ.out.2.1.cell 0, HJ.out.2.1.cell 1, HJ.out.2.1.cell 2, HJ.out.2.2.2⟩); refine hK.out _ _ hs (fun hHeld => ?_); clear hK K; (try simp only [Act.put, List.setIfInBounds_toArray, List.set_cons_zero, List.set_cons_succ]))
    (refine takeW (i := 13) (v := ?_) rfl (by kernel_rfl) (by kernel_rfl) (by kernel_rfl) (fun _ _ _ h => h) (by rfl) (by assumption) ?_ ?_; rotate_left; (intro W hW; (try dsimp only at hW); go_simp; try with_reducible rfl); (try simp only [Act.put, List.setIfInBounds_toArray, List.set_cons_zero, List.set_cons_succ]))
    (refine takeC (i := 15) rfl (by kernel_rfl) (by rfl) (fun K hK => ?_); obtain ⟨n0', n1', n2'⟩ := HN.out.three; have hz10 := HN.out.lt; have fn0 := HN.out.frozen 0; have fn2 := HN.out.frozen 2; have fn1 := HN.out.frozen 1; go_simp; (have HJ2 : Hid (Blk (((W12.setCell ⟨b10, 0, none⟩ (.int .i64 (st + slot + p))).setCell ⟨b10, 1, none⟩ (.int .i64 (sl + 1))).setCell ⟨b10, 2, none⟩ (.slice oa dl.length oc)) w.heap.size 25 #[.int .i64 nodes, .int .i64 slot, .int .i64 gap, .int .i64 win, .int .i64 drift, .int .i64 delay, .slice ca cl.length cc, .slice ma ml.length mc] ∧ Blk (((W12.setCell ⟨b10, 0, none⟩ (.int .i64 (st + slot + p))).setCell ⟨b10, 1, none⟩ (.int .i64 (sl + 1))).setCell ⟨b10, 2, none⟩ (.slice oa dl.length oc)) (w.heap.size + 1) 28 #[.int .i64 st, .int .i64 sl, .slice da dl.length dc] ∧ Blk (((W12.setCell ⟨b10, 0, none⟩ (.int .i64 (st + slot + p))).setCell ⟨b10, 1, none⟩ (.int .i64 (sl + 1))).setCell ⟨b10, 2, none⟩ (.slice oa dl.length oc)) (w.heap.size + 1 + 1) 28 #[.int .i64 0, .int .i64 0, .slice none 0 0] ∧ Below w.heap.size w (((W12.setCell ⟨b10, 0, none⟩ (.int .i64 (st + slot + p))).setCell ⟨b10, 1, none⟩ (.int .i64 (sl + 1))).setCell ⟨b10, 2, none⟩ (.slice oa dl.length oc))) := ⟨(((HJ.out.1.far (by simp; omega) _).far (by simp; omega) _).far (by simp; omega) _), (((HJ.out.2.1.far (by simp; omega) _).far (by simp; omega) _).far (by simp; omega) _), (((HJ.out.2.2.1.far (by simp; omega) _).far (by simp; omega) _).far (by simp; omega) _), (((HJ.out.2.2.2.setCell (by simp; omega) _).setCell (by simp; omega) _).setCell (by simp; omega) _)⟩; have HN2 : Hid (Blk (((W12.setCell ⟨b10, 0, none⟩ (.int .i64 (st + slot + p))).setCell ⟨b10, 1, none⟩ (.int .i64 (sl + 1))).setCell ⟨b10, 2, none⟩ (.slice oa dl.length oc)) b10 28 #[.int .i64 (st + slot + p), .int .i64 (sl + 1), .slice oa dl.length oc]) := (by show Blk _ _ _ _; simpa using ((HN.out.set 0 (.int .i64 (st + slot + p))).set 1 (.int .i64 (sl + 1))).set 2 (.slice oa dl.length oc)); clear hHeld HJ HN n0' n1' n2' hz10 fn0 fn1 fn2; have HJ := HJ2; have HN := HN2; clear HJ2 HN2; replace HO := Lib.hid (keptFar HO.out HRB.out (.int .i64 (st + slot + p)) (.int .i64 (sl + 1)) (.slice oa dl.length oc)); generalize (((W12.setCell ⟨b10, 0, none⟩ (.int .i64 (st + slot + p))).setCell ⟨b10, 1, none⟩ (.int .i64 (sl + 1))).setCell ⟨b10, 2, none⟩ (.slice oa dl.length oc)) = W15 at *; have hs : W15.cell? ⟨w.heap.size, 0, none⟩ = some (.int .i64 nodes) ∧ W15.cell? ⟨w.heap.size, 1, none⟩ = some (.int .i64 slot) ∧ W15.cell? ⟨w.heap.size, 2, none⟩ = some (.int .i64 gap) ∧ W15.cell? ⟨w.heap.size, 3, none⟩ = some (.int .i64 win) ∧ W15.cell? ⟨w.heap.size, 4, none⟩ = some (.int .i64 drift) ∧ W15.cell? ⟨w.heap.size, 5, none⟩ = some (.int .i64 delay) ∧ W15.cell? ⟨w.heap.size, 6, none⟩ = some (.slice ca cl.length cc) ∧ W15.cell? ⟨w.heap.size, 7, none⟩ = some (.slice ma ml.length mc) ∧ W15.cell? ⟨w.heap.size + 1, 0, none⟩ = some (.int .i64 st) ∧ W15.cell? ⟨w.heap.size + 1, 1, none⟩ = some (.int .i64 sl) ∧ W15.cell? ⟨w.heap.size + 1, 2, none⟩ = some (.slice da dl.length dc) ∧ Below w.heap.size w W15 := ⟨HJ.out.1.cell 0, HJ.out.1.cell 1, HJ.out.1.cell 2, HJ.out.1.cell 3, HJ.out.1.cell 4, HJ.out.1.cell 5, HJ.out.1.cell 6, HJ.out.1.cell 7, HJ.out.2.1.cell 0, HJ.out.2.1.cell 1, HJ.out.2.1.cell 2, HJ.out.2.2.2⟩); refine hK.out _ _ hs (fun hHeld => ?_); clear hK K; (try simp only [Act.put, List.setIfInBounds_toArray, List.set_cons_zero, List.set_cons_succ]))
    refine wpAnyH_done (by kernel_rfl) ?_ _
    clear hHeld
    generalize W15 = w5 at *
    obtain ⟨m0, m1, m2, m3, m4, m5, m6, m7⟩ := HJ.out.1.eight; obtain ⟨c0, c1, c2⟩ := HJ.out.2.1.three; obtain ⟨d0, d1, d2⟩ := HJ.out.2.2.1.three; have hz0 := HJ.out.1.lt; have hz1 := HJ.out.2.1.lt; have hz2 := HJ.out.2.2.1.lt; have f0 := HJ.out.2.2.1.frozen 0; have f1 := HJ.out.2.2.1.frozen 1; have f2 := HJ.out.2.2.1.frozen 2
    obtain ⟨n0', n1', n2'⟩ := HN.out.three; have hz10 := HN.out.lt; have fn0 := HN.out.frozen 0; have fn2 := HN.out.frozen 2
    by_cases hr : (sl + 1).tmod nodes = 0
    · have hnv : nv = (st + slot + p + k, sl + 1, []) := by rw [HNX.out, if_pos hr, Int.add_assoc st slot p]
      clear HNX HO
      go_upto_region 10 with fail
      clear m0 m1 m2 m3 m4 m5 m6 m7 c0 c1 c2 d0 d1 d2 hz0 hz1 hz2 f0 f1 f2
      clear n0' n1' n2' hz10 fn0 fn2
      have HJ2 : Hid (Blk ((w5.setCell ⟨b10, 0, none⟩ (.int .i64 (st + slot + p + k))).setCell ⟨b10, 2, none⟩ (.slice none 0 0)) w.heap.size 25 #[.int .i64 nodes, .int .i64 slot, .int .i64 gap, .int .i64 win, .int .i64 drift, .int .i64 delay, .slice ca cl.length cc, .slice ma ml.length mc] ∧ Blk ((w5.setCell ⟨b10, 0, none⟩ (.int .i64 (st + slot + p + k))).setCell ⟨b10, 2, none⟩ (.slice none 0 0)) (w.heap.size + 1) 28 #[.int .i64 st, .int .i64 sl, .slice da dl.length dc] ∧ Blk ((w5.setCell ⟨b10, 0, none⟩ (.int .i64 (st + slot + p + k))).setCell ⟨b10, 2, none⟩ (.slice none 0 0)) (w.heap.size + 1 + 1) 28 #[.int .i64 0, .int .i64 0, .slice none 0 0] ∧ Below w.heap.size w ((w5.setCell ⟨b10, 0, none⟩ (.int .i64 (st + slot + p + k))).setCell ⟨b10, 2, none⟩ (.slice none 0 0))) := ⟨((HJ.out.1.far (by simp; omega) _).far (by simp; omega) _), ((HJ.out.2.1.far (by simp; omega) _).far (by simp; omega) _), ((HJ.out.2.2.1.far (by simp; omega) _).far (by simp; omega) _), ((HJ.out.2.2.2.setCell (by simp; omega) _).setCell (by simp; omega) _)⟩
      have HN2 : Hid (Blk ((w5.setCell ⟨b10, 0, none⟩ (.int .i64 (st + slot + p + k))).setCell ⟨b10, 2, none⟩ (.slice none 0 0)) b10 28 #[.int .i64 (st + slot + p + k), .int .i64 (sl + 1), .slice none 0 0]) := by show Blk _ _ _ _; simpa using (HN.out.set 0 (.int .i64 (st + slot + p + k))).set 2 (.slice none 0 0)
      clear HJ HN
      have HJ := HJ2
      have HN := HN2
      clear HJ2 HN2
      generalize ((w5.setCell ⟨b10, 0, none⟩ (.int .i64 (st + slot + p + k))).setCell ⟨b10, 2, none⟩ (.slice none 0 0)) = w4 at *
      have hgc : GoodCk w4 ⟨st + slot + p + k, sl + 1, none, 0, []⟩ := ⟨ints_nil _, (show I64 (st + slot + p + k) by unfold I64; omega), (show I64 (sl + 1) by unfold I64; omega)⟩
      have hmy := HMY.out ⟨st + slot + p + k, sl + 1, none, 0, []⟩ _ HJ.out.2.2.2 hgc
      simp only at hmy
      have hokm : errC ⟨nodes, slot, gap, win, drift, delay, ⟨ca, cc, cl⟩, ma, mc, ml⟩ ⟨st + slot + p + k, sl + 1, none, 0, []⟩ = if okR win nv = true then 0 else 130 := by rw [hnv]; unfold errC; rw [if_pos HM.out]; rfl
      rw [hokm] at hmy
      clear hgc hokm
      obtain ⟨m0, m1, m2, m3, m4, m5, m6, m7⟩ := HJ.out.1.eight; obtain ⟨c0, c1, c2⟩ := HJ.out.2.1.three; obtain ⟨d0, d1, d2⟩ := HJ.out.2.2.1.three; have hz0 := HJ.out.1.lt; have hz1 := HJ.out.2.1.lt; have hz2 := HJ.out.2.2.1.lt; have f0 := HJ.out.2.2.1.frozen 0; have f1 := HJ.out.2.2.1.frozen 1; have f2 := HJ.out.2.2.1.frozen 2
      obtain ⟨n0', n1', n2'⟩ := HN.out.three; have hz10 := HN.out.lt; have fn0 := HN.out.frozen 0; have fn2 := HN.out.frozen 2
      go_wp2_with fail
      refine hmy.mono ?_
      rintro e w9 ⟨rfl, hb⟩
      clear m0 m1 m2 m3 m4 m5 m6 m7 c0 c1 c2 d0 d1 d2 hz0 hz1 hz2 f0 f1 f2
      clear n0' n1' n2' hz10 fn0 fn2
      replace HJ := Lib.hid (three_boxes HJ.out hb)
      replace HN := Lib.hid (HN.out.keep hb)
      clear hb hmy
      obtain ⟨m0, m1, m2, m3, m4, m5, m6, m7⟩ := HJ.out.1.eight; obtain ⟨c0, c1, c2⟩ := HJ.out.2.1.three; obtain ⟨d0, d1, d2⟩ := HJ.out.2.2.1.three; have hz0 := HJ.out.1.lt; have hz1 := HJ.out.2.1.lt; have hz2 := HJ.out.2.2.1.lt; have f0 := HJ.out.2.2.1.frozen 0; have f1 := HJ.out.2.2.1.frozen 1; have f2 := HJ.out.2.2.1.frozen 2
      obtain ⟨n0', n1', n2'⟩ := HN.out.three; have hz10 := HN.out.lt; have fn0 := HN.out.frozen 0; have fn2 := HN.out.frozen 2
      have HNV := Lib.hid hnv
      clear hnv
      generalize okR win nv = ok at *
      cases ok
      · have hv : v = ((0, 0, []), 130) := by simpa using HV2.out
        go_wp2
        (try rw [hv]); have DR := HJ.out.2.2.1; exact bodyPost_ret (v := .tuple #[.agg #[.int .i64 0, .int .i64 0, .slice none 0 0], .int .i64 130]) (by simp [results, Try.results28, go_sem, (((DR.set 0 (.int .i64 0)).set 1 (.int .i64 0)).set 2 (.slice none 0 0)).cell 0, (((DR.set 0 (.int .i64 0)).set 1 (.int .i64 0)).set 2 (.slice none 0 0)).cell 1, (((DR.set 0 (.int .i64 0)).set 1 (.int .i64 0)).set 2 (.slice none 0 0)).cell 2]) rfl (CkOut.zero _ (((HJ.out.2.2.2.setCell (p := ⟨w.heap.size + 1 + 1, 0, none⟩) (by simp <;> omega) _).setCell (p := ⟨w.heap.size + 1 + 1, 1, none⟩) (by simp <;> omega) _).setCell (p := ⟨w.heap.size + 1 + 1, 2, none⟩) (by simp <;> omega) _))
      · have hv : v = (nv, 0) := by simpa using HV2.out
        go_wp2
        (try rw [hv]); rw [HNV.out]
        have DR := HJ.out.2.2.1; exact bodyPost_ret (v := .tuple #[.agg #[.int .i64 (st + slot + p + k), .int .i64 (sl + 1), .slice none 0 0], .int .i64 0]) (by simp [results, Try.results28, go_sem, (((DR.set 0 (.int .i64 (st + slot + p + k))).set 1 (.int .i64 (sl + 1))).set 2 (.slice none 0 0)).cell 0, (((DR.set 0 (.int .i64 (st + slot + p + k))).set 1 (.int .i64 (sl + 1))).set 2 (.slice none 0 0)).cell 1, (((DR.set 0 (.int .i64 (st + slot + p + k))).set 1 (.int .i64 (sl + 1))).set 2 (.slice none 0 0)).cell 2]) rfl (CkOut.own (b6 := w.heap.size + 1 + 1) (n := 0) rfl HJ.out.2.2.2 own_nil rfl (by omega) (by simp) (show I64 (st + slot + p + k) by unfold I64; omega) (show I64 (sl + 1) by unfold I64; omega))
    · have hnv : nv = (st + slot + p, sl + 1, dl) := by rw [HNX.out, if_neg hr, Int.add_assoc st slot p]
      clear HNX
      have hrd : decide ((sl + 1).tmod nodes = 0) = false := by simpa using hr
      have hrv : ¬ nodes ∣ sl + 1 := fun h => hr (Int.tmod_eq_zero_of_dvd h)
      go_upto_region 10 with fail
      clear m0 m1 m2 m3 m4 m5 m6 m7 c0 c1 c2 d0 d1 d2 hz0 hz1 hz2 f0 f1 f2
      clear n0' n1' n2' hz10 fn0 fn2
      generalize w5 = w4 at *
      have hgc : GoodCk w4 ⟨st + slot + p, sl + 1, oa, oc, dl⟩ := ⟨Ints.of_owns HO.out (by show dl.length ≤ _; omega) HCI.out.bd, (show I64 (st + slot + p) by unfold I64; omega), (show I64 (sl + 1) by unfold I64; omega)⟩
      have hmy := HMY.out ⟨st + slot + p, sl + 1, oa, oc, dl⟩ _ HJ.out.2.2.2 hgc
      simp only at hmy
      have hokm : errC ⟨nodes, slot, gap, win, drift, delay, ⟨ca, cc, cl⟩, ma, mc, ml⟩ ⟨st + slot + p, sl + 1, oa, oc, dl⟩ = if okR win nv = true then 0 else 130 := by rw [hnv]; unfold errC; rw [if_pos HM.out]; rfl
      rw [hokm] at hmy
      clear hgc hokm
      obtain ⟨m0, m1, m2, m3, m4, m5, m6, m7⟩ := HJ.out.1.eight; obtain ⟨c0, c1, c2⟩ := HJ.out.2.1.three; obtain ⟨d0, d1, d2⟩ := HJ.out.2.2.1.three; have hz0 := HJ.out.1.lt; have hz1 := HJ.out.2.1.lt; have hz2 := HJ.out.2.2.1.lt; have f0 := HJ.out.2.2.1.frozen 0; have f1 := HJ.out.2.2.1.frozen 1; have f2 := HJ.out.2.2.1.frozen 2
      obtain ⟨n0', n1', n2'⟩ := HN.out.three; have hz10 := HN.out.lt; have fn0 := HN.out.frozen 0; have fn2 := HN.out.frozen 2
      go_wp2_with fail
      refine hmy.mono ?_
      rintro e w9 ⟨rfl, hb⟩
      clear m0 m1 m2 m3 m4 m5 m6 m7 c0 c1 c2 d0 d1 d2 hz0 hz1 hz2 f0 f1 f2
      clear n0' n1' n2' hz10 fn0 fn2
      replace HJ := Lib.hid (three_boxes HJ.out hb)
      replace HN := Lib.hid (HN.out.keep hb)
      replace HO := Lib.hid (ow_below HO.out hb)
      clear hb hmy
      obtain ⟨m0, m1, m2, m3, m4, m5, m6, m7⟩ := HJ.out.1.eight; obtain ⟨c0, c1, c2⟩ := HJ.out.2.1.three; obtain ⟨d0, d1, d2⟩ := HJ.out.2.2.1.three; have hz0 := HJ.out.1.lt; have hz1 := HJ.out.2.1.lt; have hz2 := HJ.out.2.2.1.lt; have f0 := HJ.out.2.2.1.frozen 0; have f1 := HJ.out.2.2.1.frozen 1; have f2 := HJ.out.2.2.1.frozen 2
      obtain ⟨n0', n1', n2'⟩ := HN.out.three; have hz10 := HN.out.lt; have fn0 := HN.out.frozen 0; have fn2 := HN.out.frozen 2
      have HNV := Lib.hid hnv
      clear hnv
      generalize okR win nv = ok at *
      cases ok
      · have hv : v = ((0, 0, []), 130) := by simpa using HV2.out
        go_wp2
        (try rw [hv]); have DR := HJ.out.2.2.1; exact bodyPost_ret (v := .tuple #[.agg #[.int .i64 0, .int .i64 0, .slice none 0 0], .int .i64 130]) (by simp [results, Try.results28, go_sem, (((DR.set 0 (.int .i64 0)).set 1 (.int .i64 0)).set 2 (.slice none 0 0)).cell 0, (((DR.set 0 (.int .i64 0)).set 1 (.int .i64 0)).set 2 (.slice none 0 0)).cell 1, (((DR.set 0 (.int .i64 0)).set 1 (.int .i64 0)).set 2 (.slice none 0 0)).cell 2]) rfl (CkOut.zero _ (((HJ.out.2.2.2.setCell (p := ⟨w.heap.size + 1 + 1, 0, none⟩) (by simp <;> omega) _).setCell (p := ⟨w.heap.size + 1 + 1, 1, none⟩) (by simp <;> omega) _).setCell (p := ⟨w.heap.size + 1 + 1, 2, none⟩) (by simp <;> omega) _))
      · have hv : v = (nv, 0) := by simpa using HV2.out
        go_wp2
        (try rw [hv]); rw [HNV.out]
        have DR := HJ.out.2.2.1; exact bodyPost_ret (v := .tuple #[.agg #[.int .i64 (st + slot + p), .int .i64 (sl + 1), .slice (oa) dl.length (oc)], .int .i64 0]) (by simp [results, Try.results28, go_sem, (((DR.set 0 (.int .i64 (st + slot + p))).set 1 (.int .i64 (sl + 1))).set 2 (.slice (oa) dl.length (oc))).cell 0, (((DR.set 0 (.int .i64 (st + slot + p))).set 1 (.int .i64 (sl + 1))).set 2 (.slice (oa) dl.length (oc))).cell 1, (((DR.set 0 (.int .i64 (st + slot + p))).set 1 (.int .i64 (sl + 1))).set 2 (.slice (oa) dl.length (oc))).cell 2]) rfl (CkOut.own (b6 := w.heap.size + 1 + 1) (n := dl.length) rfl HJ.out.2.2.2 HO.out rfl (by omega) HCI.out.bd (show I64 (st + slot + p) by unfold I64; omega) (show I64 (sl + 1) by unfold I64; omega))
end Go.Proofs.Ytimcljlbjnhpnaa
