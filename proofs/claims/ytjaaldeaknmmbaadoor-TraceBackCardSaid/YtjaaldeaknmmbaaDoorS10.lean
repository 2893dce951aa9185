/- cliques: the walk. -/
import Derived.Test.YtjaaldeaknmmbaaDoorS9
import Derived.Deep.DeepMust
namespace Go.Proofs.YtjaaldeaknmmbaaDoor
open Go.RowKit Go.Shelf
attribute [local go_sem] Oper.semAt_some

def CI (bv : Value) (but : List Int) (w : World) (H : Nat) (pre : List Sn) (W : World) : Prop :=
  Blk W w.heap.size 67 #[bv] ∧ Below w.heap.size w W ∧ H ≤ W.heap.size ∧ ∃ v gs, Blk W (w.heap.size + 1) 74 #[v] ∧ Grps W H v gs ∧ gs.map pg = clq but pre
theorem E23 : Elem Tryd.prog 67 3 (.int .i64 0) 1 8 := ⟨Tryd.underlying67, by kernel_rfl, by kernel_rfl, by decide, by decide⟩
theorem E61 : Elem Tryd.prog 74 77 (.agg #[.int .i64 0, .int .i64 0, .int .i64 0, .int .i64 0, .int .i64 0, .slice none 0 0]) 6 64 := ⟨Tryd.underlying74, by kernel_rfl, by kernel_rfl, by decide, by decide⟩
theorem encG0_one (c : Cs) : ∀ u ∈ encG ⟨c, .slice none 0 0, []⟩, u.oneCell' = true := fun u hu => by
  rcases List.mem_append.1 hu with hu | hu
  · exact encC_one _ u hu
  · obtain rfl := List.mem_singleton.1 hu; rfl
theorem exec_buildG {w : World} {o : Oper} {a : Act} {x : Operand} (ho : o.op = .build 77 #[(0, x)]) {c : Cs} (hx : a.eval x = .agg (encC c).toArray) :
    (execOp a.eval o).run Tryd.prog w = .ok (.value (.agg (encG ⟨c, .slice none 0 0, []⟩).toArray)) w := by
  have hb : Tryd.prog.built 77 #[(0, Value.agg (encC c).toArray)].toList = some (encG ⟨c, .slice none 0 0, []⟩).toArray := by kernel_rfl
  simp [execOp, ho, hx, run_build w 77 #[(0, Value.agg (encC c).toArray)] _ hb, Result.andThen]
theorem Grps.mono {W : World} {base base' : Nat} {v : Value} {gs : List Gr} (h : Grps W base v gs) (hb : base' ≤ base) : Grps W base' v gs :=
  ⟨ownsRow_mono h.row hb, fun g hg => ownsRow_mono (h.each g hg) hb, h.far, h.apart⟩
def CliqPost (but : List Int) (X : List Sn) (w : World) (e : Ending) (w' : World) : Prop :=
  (∃ v gs, e = .returned v ∧ Grps w' w.heap.size v gs ∧ gs.map pg = clq but X) ∧ Below w.heap.size w w'
theorem cliq_end {w W : World} {D H : Nat} {X : List Sn} {but : List Int} {v : Value} {gs : List Gr} {a0 : Act} (hD : w.heap.size ≤ D) (hH : w.heap.size ≤ H) (hK : W.heap[D]? = some (.deferred (some []))) (hB : Below w.heap.size w W)
    (ho : Grps W H v gs) (hl : gs.map pg = clq but X) (ht : a0.tmps[6]? = some v) (hd : a0.defers = [{ target := .collected D, args := #[] }]) :
    bodyPostM Fence.wide 3 Tryd.prog Tryd.f24 (CliqPost but X w) Exit.ret a0 W := by
  obtain ⟨tmps, df⟩ := a0
  simp only at ht hd
  subst hd
  refine ⟨by simp, .inl ⟨_, _, rfl, run_takeDeferred hK, ?_⟩⟩
  have hne : ∀ {base e size n v xs}, W.ownsRow base e size v n xs → ∀ b, v.ownBlock = some b → some D ≠ some b := fun ho b hb e => by
    cases e
    have := own_cells ho hb hK
    cases this
  exact ⟨v, by simp [results, Tryd.f24, go_sem, ht], ⟨v, gs, rfl, (ho.mono hH).kept (grownBy_putObj' W D _) (hne ho.row) (fun g hg => hne (ho.each g hg)), hl⟩, hB.trans (belowK_b (w := w) (Nat.le_refl _) W D _ _ hD hK rfl rfl)⟩
theorem CI.own {bv : Value} {but : List Int} {w : World} {H B : Nat} (hB : w.heap.size ≤ B) : OwnFrom B (CI bv but w H) := fun s A A' row hs hg hr => by
  obtain ⟨h1, h2, h3, v, gs, h4, h5, h6⟩ := hs
  have hne : ∀ b t cs, Blk A b t cs → some b ≠ row := fun b t cs hb e => by
    obtain ⟨_, o, ho, hc⟩ := hr b e.symm
    rw [show A.heap[b]? = _ from hb] at ho; cases ho; cases hc
  have hno : ∀ {base e size n v xs}, A.ownsRow base e size v n xs → ∀ b, v.ownBlock = some b → row ≠ some b := fun ho b hb e => by
    obtain ⟨_, o, hob, hc⟩ := hr b e
    have := own_cells ho hb hob
    rw [hc] at this; cases this
  exact ⟨h1.kept hg (hne _ _ _ h1), h2.grown hg h2.size (fun k e => Nat.le_trans hB (hr k e).1), Nat.le_trans h3 hg.size, v, gs, h4.kept hg (hne _ _ _ h4), h5.kept hg (hno h5.row) (fun g hm => hno (h5.each g hm)), h6⟩
set_option maxRecDepth 100000 in
set_option maxHeartbeats 1600000 in
theorem cliques_any (l : List Sn) (lv : Value) (r : Int) (but : List Int) (bv : Value) (w : World) (h : Snaps w lv l) (hl : l.length ≤ 300) (hbt : Ns w bv but) :
    Calls Tryd.prog 24 #[lv, .int .i64 r, bv] w (CliqPost but (ofR l r l.length) w) := by
  refine (callsIn_wide (n := 3)).1 ?_
  refine callsIn_of_wp_marks Tryd.func24 rfl trivial ?_ rfl
  refine wpIn_wide.2 ?_
  simp only [Tryd.ntmps24, List.size_toArray, List.length_cons, List.length_nil, Nat.reduceAdd, Nat.reduceSub, Array.replicate_succ, Array.replicate_zero, List.push_toArray, List.append_toArray, List.nil_append, List.cons_append]
  have h0 : Blk ((w.alloc (.cells #[bv] 67)).alloc (.cells #[.slice none 0 0] 74)) w.heap.size 67 #[bv] ∧ Blk ((w.alloc (.cells #[bv] 67)).alloc (.cells #[.slice none 0 0] 74)) (w.heap.size + 1) 74 #[.slice none 0 0] := ⟨(Blk.new' rfl).alloc _, Blk.new' (by simp)⟩
  have hsz : ((w.alloc (.cells #[bv] 67)).alloc (.cells #[.slice none 0 0] 74)).heap.size = w.heap.size + 2 := by simp
  have hbb := below2 w (.cells #[bv] 67) (.cells #[.slice none 0 0] 74)
  have hcon := round_any l lv r _ (h.below hbb) hl
  obtain ⟨ba, bc, rfl, bq1, bq2, bq3⟩ := hbt.shape
  have HBT := Lib.hid hbt
  clear h hbt
  generalize hbl : but.length = bl at *
  have HBL := Lib.hid hbl
  clear hbl
  go_upto_region 2 with fail
  generalize (w.alloc (.cells #[.slice ba bl bc] 67)).alloc (.cells #[.slice none 0 0] 74) = W0 at *
  go_wp2_with fail
  refine hcon.mono ?_
  rintro e w1 ⟨rfl, v', hD1, hD2, ho, hb1⟩
  have hB : Below w.heap.size w w1 := hbb.trans (hb1.mono (by omega))
  have g1 := h0.1.keep hb1
  have g2 := h0.2.keep hb1
  have hsz1 := hb1.size
  have hD : w.heap.size + 2 ≤ W0.heap.size ∧ W0.heap.size ≤ w.heap.size + 2 := by omega
  have hHD := hD2.lt
  have hS1 : Snaps w1 v' l := Rd.of_owns encS_len ho (by omega)
  have hOB := fun b (e : v'.ownBlock = some b) => ho.lt b e
  clear h0 hb1 hbb hcon hsz
  generalize W0.heap.size = D at *
  clear W0
  have hCI : CI (.slice ba bl bc) but w w1.heap.size [] w1 := ⟨g1, hB, Nat.le_refl _, _, [], g2, Grps.nil _ _, rfl⟩
  have hL : ∀ W', KP w.heap.size D w1.heap.size w1 W' → Snaps W' v' l := fun W' hW' => hW'.reads hS1 (fun b o n c e => by have := hOB b (by rw [e]; rfl); omega)
  have hseq := round_stops 2 (by omega) D (D + 1) w.heap.size D w1.heap.size v' l r w1 hB.size (hD1.cell 0) (hD2.cell 0) ⟨by omega, hHD⟩ hL
  clear g1 g2 hD1 hD2 hS1 hOB hL ho
  have hxh : w.heap.size ≤ w1.heap.size := by omega
  go_wp2_with fail
  refine (wpIn_wide (n := 3)).1 ?_
  refine wpIn_rangeFunc_ownH rfl (by omega) (gf := 52) (lb := #[.pointer (some ⟨D, 0, none⟩), .pointer (some ⟨D + 1, 0, none⟩)]) rfl trivial (enters_of Tryd.func52 (by kernel_rfl) rfl) hseq (fun h k => KP.trans h k) (KP.put (by omega) (Nat.le_refl _)) (Below.refl _ _) (fun _ => rfl)
    (CI (.slice ba bl bc) but w w1.heap.size) (fun _ _ _ => False) (CI.own (by omega)) (fun _ _ _ _ _ h _ _ => h) hCI
    (fun x a' W => ∃ bx, a' = { tmps := #[lv, .int .i64 r, .slice ba bl bc, undef, undef, .pointer (some ⟨w.heap.size, 0, none⟩), .slice none 0 0, .pointer (some ⟨w.heap.size + 1, 0, none⟩), .pointer (some ⟨bx, 0, none⟩), undef, lv, .int .i64 r, .func (.func 52) #[] #[.pointer (some ⟨D, 0, none⟩), .pointer (some ⟨D + 1, 0, none⟩)], .agg (encS x).toArray, undef, undef, undef, undef, undef, undef, undef, undef, undef, undef, undef, undef, undef, undef, undef, undef, undef, undef, undef, undef, undef, undef, undef, undef, undef, undef, undef, undef, undef, undef, undef, undef, undef, undef, undef, undef, undef, undef, undef, undef], defers := [] } ∧ Blk W bx 43 (encS x).toArray ∧ w1.heap.size ≤ bx)
    (fun x a' s A B row hs hg hr => by obtain ⟨bx, h1, h2, h3⟩ := hs; exact ⟨bx, h1, Blk.own _ _ _ s A B row h2 hg (fun r e => (hr r e).2), h3⟩)
    ?assign ?body ?done ?stop
  case assign =>
    rintro y pre x W K hI hK
    unfold encQ
    gi_wp2_with (refine wpListIn_storeW W41 rfl rfl rfl (encS x) rfl rfl (encS_one x) rfl ?_)
    have hs4 : w1.heap.size ≤ W.heap.size := hI.2.2.1
    exact hK _ _ ((KeepsOthers.alloc _ _).from _) (KP.of_below (below1 _ _) (by omega)) (CI.own (B := w1.heap.size) (by omega) _ _ _ none hI (World.grownBy_alloc _ _ _) (by intro r h; cases h)) ⟨W.heap.size, rfl, Blk.new' rfl, hs4⟩
  case body =>
    rintro y pre x a' W hl0 hr0 ⟨h1, h2, h3, v, gs, h4, h5, h6⟩ ⟨bx, rfl, DX, hbx⟩ hlt
    clear hseq hCI hB
    generalize w1.heap.size = H at *
    clear w1
    clear hl0 hr0
    have hn1 : w.heap.size ≤ H := by omega
    have hgl : gs.length ≤ pre.length := by have := clq_len but pre; rw [← h6] at this; simpa using this
    have HRN := Lib.hid (Rnd.start (lo := D) h2 h3)
    have HB0 := Lib.hid h1
    have HB7 := Lib.hid h4
    have HX := Lib.hid DX
    have HGR := Lib.hid h5
    have H6 := Lib.hid h6
    have HSN := Lib.hid (clq_snoc but pre x)
    have HFIN : Hid (∀ X v gs, Rnd w.heap.size D H w W X → Blk X w.heap.size 67 #[.slice ba bl bc] → Blk X (w.heap.size + 1) 74 #[v] → Grps X H v gs → gs.map pg = clq but (pre ++ [x]) → KeepsFrom H W X ∧ KP w.heap.size D H W X ∧ CI (.slice ba bl bc) but w H (pre ++ [x]) X) := fun X v gs hr q1 q2 q3 q4 => ⟨hr.ko.from _, hr.kp, q1, hr.bl, hr.sz, v, gs, q2, q3, q4⟩
    have c5 : W.cell? ⟨w.heap.size, 0, none⟩ = some (.slice ba bl bc) := h1.cell 0
    have cs : W.cell? ⟨bx, 2, none⟩ = some (.int .i64 x.s) := DX.list0 rfl
    have ci : W.cell? ⟨bx, 1, none⟩ = some (.int .i64 x.i) := DX.list0 rfl
    have z5 := h1.lt
    have z7 := h4.lt
    have zx := DX.lt
    have hcon := contains_any (.slice ba bl bc) but x.i W (HBT.out.below h2)
    have hidx := idx_any gs v bx x W (h5.rd (by omega)) DX
    have HTK : Hid (takes but x = (x.s == 4 && !but.contains x.i)) := rfl
    have HW3 := Lib.hid h3
    obtain ⟨va, vc, rfl, vq1, vq2, vq3⟩ := owns_shape h5.row
    have VQ := Lib.hid vq3
    clear h1 h2 h3 h4 h5 h6 DX vq3
    by_cases h4 : x.s = 4
    · have e1 : (x.s != 4) = false := by simpa using h4
      have HT2 : Hid (takes but x = !but.contains x.i) := by show _ = _; rw [HTK.out, h4]; rfl
      clear h4 HTK
      generalize but.contains x.i = bb at *
      cases bb with
      | true =>
        gi_wp2_with (refine ⟨trivial, ?_⟩; gi_at_call 39; refine (CallsIn.inRound y (callsIn_wide.2 hcon)).mono ?_; rintro e w2 ⟨rfl, hw⟩; have hw := hw.symm; subst hw)
        have HE : Hid (gs.map pg = clq but (pre ++ [x])) := by show _ = _; rw [HSN.out, HT2.out, H6.out]; rfl
        exact HFIN.out _ _ gs HRN.out HB0.out HB7.out HGR.out HE.out
      | false =>
        gi_upto_region 5 with (refine ⟨trivial, ?_⟩; gi_at_call 39; refine (CallsIn.inRound y (callsIn_wide.2 hcon)).mono ?_; rintro e w2 ⟨rfl, hw⟩; have hw := hw.symm; subst hw)
        clear hcon c5 cs
        have c7 : W.cell? ⟨w.heap.size + 1, 0, none⟩ = some (.slice va gs.length vc) := HB7.out.cell 0
        rcases posG_ge x.c gs 0 with hp | ⟨j, g, hp, hg, hgc⟩
        · have HP := Lib.hid hp
          rw [hp] at hidx
          clear hp
          gi_upto_region 8 with (refine ⟨trivial, ?_⟩; gi_at_call 40; refine (CallsIn.inRound y (callsIn_wide.2 hidx)).mono ?_; go_must (rintro e w2 ⟨rfl, hb2⟩; replace HB0 := Lib.hid (HB0.out.keep hb2); replace HB7 := Lib.hid (HB7.out.keep hb2); replace HX := Lib.hid (HX.out.keep hb2); replace HGR := Lib.hid (HGR.out.keep hb2); replace HRN := Lib.hid (HRN.out.below hb2 (by omega)); clear c7 ci z5 z7 zx hidx hb2; have c7 : w2.cell? ⟨w.heap.size + 1, 0, none⟩ = some (.slice va gs.length vc) := HB7.out.cell 0; have f7 : w2.frozen? ⟨w.heap.size + 1, 0, none⟩ = false := HB7.out.frozen 0; have z7 := HB7.out.lt; have zx := HX.out.lt; have HCC := Lib.hid HX.out.sn; have hs2 : H ≤ w2.heap.size := HRN.out.sz))
          gi_upto_region 9 with (first
            | (refine wpListIn_loadW W31 rfl rfl rfl (encC x.c) rfl HCC.out ?_)
            | (refine wpListIn_val rfl rfl (by simp) (exec_buildG rfl rfl) ?_)
            | (refine wpListIn_sliceW E61 (by decide) rfl rfl (encG ⟨x.c, .slice none 0 0, []⟩) rfl rfl ?_)
            | (gi_at_builtin; refine wpListIn_app_at (m := 1) E61 rfl rfl (HGR.out.row.alloc _) (news := encG ⟨x.c, .slice none 0 0, []⟩) rfl (cells_new _ _ _) (encG0_one x.c) rfl rfl (by omega) (by simp; omega) ?_; go_must (intro v3 w3 ho3 hg3 hl3; have HB03 := Lib.hid ((HB0.out.alloc _).kept hg3 (fun e => own_blk_ne HGR.out.row HB0.out (by decide) e.symm)); have HB73 := Lib.hid ((HB7.out.alloc _).kept hg3 (fun e => own_blk_ne HGR.out.row HB7.out (by decide) e.symm)); have HX3 := Lib.hid ((HX.out.alloc _).kept hg3 (fun e => own_blk_ne HGR.out.row HX.out (by decide) e.symm)); have HG3 := Lib.hid (HGR.out.push ho3 hg3 hl3); have HR3 := Lib.hid ((HRN.out.alloc (.cells (encG ⟨x.c, .slice none 0 0, []⟩).toArray 77) (by omega)).grown (HGR.out.row.alloc _) hg3 (by omega)); clear c7 f7 z7 zx; have c7 : w3.cell? ⟨w.heap.size + 1, 0, none⟩ = some (.slice va gs.length vc) := HB73.out.cell 0; have f7 : w3.frozen? ⟨w.heap.size + 1, 0, none⟩ = false := HB73.out.frozen 0; have z7 := HB73.out.lt; have zx := HX3.out.lt; obtain ⟨ga, cap, rfl, -, -, hga⟩ := owns_shape ho3; obtain ⟨gb, rfl, -⟩ := hga (by omega); clear ho3 hg3 hl3 hga)))
          clear HB0 HB7 HX HGR HRN
          have HB0 : Hid (Blk (w3.setCell ⟨w.heap.size + 1, 0, none⟩ (.slice (some ⟨gb, 0, none⟩) (gs.length + 1) cap)) w.heap.size 67 #[.slice ba bl bc]) := HB03.out.far (by simp) _
          have HB7 : Hid (Blk (w3.setCell ⟨w.heap.size + 1, 0, none⟩ (.slice (some ⟨gb, 0, none⟩) (gs.length + 1) cap)) (w.heap.size + 1) 74 #[.slice (some ⟨gb, 0, none⟩) (gs.length + 1) cap]) := HB73.out.set 0 _
          have HX : Hid (Blk (w3.setCell ⟨w.heap.size + 1, 0, none⟩ (.slice (some ⟨gb, 0, none⟩) (gs.length + 1) cap)) bx 43 (encS x).toArray) := HX3.out.far (by simp; omega) _
          have HRN := Lib.hid (HR3.out.set (p := ⟨w.heap.size + 1, 0, none⟩) (by simp) (.inl (by simp; omega)) (.slice (some ⟨gb, 0, none⟩) (gs.length + 1) cap))
          have HGR := Lib.hid (HG3.out.kept (grownBy_setCell w3 ⟨w.heap.size + 1, 0, none⟩ (.slice (some ⟨gb, 0, none⟩) (gs.length + 1) cap)) (fun b e e' => by cases e'; exact own_blk_ne HG3.out.row HB73.out (by decide) e) (fun g hg b e e' => by cases e'; exact own_blk_ne (HG3.out.each g hg) HB73.out (by decide) e))
          have HNW : Hid (addG (clq but pre) x.c x.i = (gs ++ [(⟨x.c, .slice none 0 0, [x.i]⟩ : Gr)]).map pg) := by show _ = _; rw [← H6.out]; exact add_new x.c x.i _ gs 0 HP.out
          have HK : Hid ((gs ++ [(⟨x.c, .slice none 0 0, []⟩ : Gr)])[gs.length]? = some ⟨x.c, .slice none 0 0, []⟩) := by show _ = _; simp
          have HAT : Hid (((gs ++ [(⟨x.c, .slice none 0 0, []⟩ : Gr)]).flatMap encG)[gs.length * 6 + 5]? = some (.slice none 0 0)) := flat_get encG_len _ gs.length _ HK.out 5 _ rfl
          clear HB03 HB73 HX3 HG3 HR3 c7 f7 z7 zx
          generalize w3.setCell ⟨w.heap.size + 1, 0, none⟩ (.slice (some ⟨gb, 0, none⟩) (gs.length + 1) cap) = w4 at *
          have HLN : Hid (gs.length + 1 = (gs ++ [(⟨x.c, .slice none 0 0, []⟩ : Gr)]).length) := by show _ = _; simp
          have HID := Lib.hid (HGR.out.each _ (List.mem_of_getElem? HK.out))
          have HCV : Hid (w4.cell? ⟨gb, gs.length * 6 + 5, none⟩ = some (.slice none 0 0)) := own_cell HGR.out.row HAT.out
          have HIL : Hid ((⟨x.c, .slice none 0 0, []⟩ : Gr).ids.length ≤ 300) := by show ([] : List Int).length ≤ 300; simp
          have HEQ : Hid (∀ u, ((gs ++ [(⟨x.c, .slice none 0 0, []⟩ : Gr)]).set gs.length ⟨x.c, u, [x.i]⟩).map pg = clq but (pre ++ [x])) := fun u => by rw [HSN.out, HT2.out, if_pos (by rfl), HNW.out]; simp [pg]
          have hln : (gs.length : Int) < (gs.length : Int) + 1 := by omega
          gi_upto_region 9 with fail
          have hS9 : w4.drew.cell? ⟨w.heap.size + 1, 0, none⟩ = some (.slice (some ⟨gb, 0, none⟩) (gs.length + 1) cap) ∧ w4.drew.cell? ⟨bx, 1, none⟩ = some (.int .i64 x.i) := ⟨HB7.out.cell 0, HX.out.list0 (j := 1) rfl⟩
          replace HB0 := Lib.hid (HB0.out.keep (Below.refl _ _).drew); replace HB7 := Lib.hid (HB7.out.keep (Below.refl _ _).drew); replace HX := Lib.hid (HX.out.keep (Below.refl _ _).drew); replace HGR := Lib.hid (HGR.out.keep (Below.refl _ _).drew); replace HRN := Lib.hid (HRN.out.drew (by omega)); replace HID := Lib.hid (HGR.out.each _ (List.mem_of_getElem? HK.out)); replace HCV : Hid (w4.drew.cell? ⟨gb, gs.length * 6 + 5, none⟩ = some (.slice none 0 0)) := HCV.out
          have hsz9 : H ≤ w4.heap.size := HRN.out.sz
          refine wpIn_region_held_drew (S := fun X => X.cell? ⟨w.heap.size + 1, 0, none⟩ = some (.slice (some ⟨gb, 0, none⟩) (gs.length + 1) cap) ∧ X.cell? ⟨bx, 1, none⟩ = some (.int .i64 x.i)) (by kernel_rfl) (by rfl) (fun ⟨_, _, h⟩ => h) hS9 (fun hHeld => ?_)
          (refine takeW (i := 0) (v := ?_) rfl (by kernel_rfl) (by kernel_rfl) (by kernel_rfl) (fun _ _ _ h => h) (by rfl) (by assumption) ?_ ?_; rotate_left; (intro W hW; (try dsimp only at hW); go_simp; try with_reducible rfl); (try simp only [Act.put, List.setIfInBounds_toArray, List.set_cons_zero, List.set_cons_succ]))
          (refine takeW (i := 1) (v := ?_) rfl (by kernel_rfl) (by kernel_rfl) (by kernel_rfl) (fun _ _ _ h => h) (by rfl) (by assumption) ?_ ?_; rotate_left; (intro W hW; (try dsimp only at hW); go_simp; try with_reducible rfl); (try simp only [Act.put, List.setIfInBounds_toArray, List.set_cons_zero, List.set_cons_succ]))
          (refine takeW (i := 2) (v := ?_) rfl (by kernel_rfl) (by kernel_rfl) (by kernel_rfl) (fun _ _ _ h => h) (by rfl) (by assumption) ?_ ?_; rotate_left; (intro W hW; (try dsimp only at hW); go_simp; try with_reducible rfl); (try simp only [Act.put, List.setIfInBounds_toArray, List.set_cons_zero, List.set_cons_succ]))
          (refine takeW (i := 3) (v := ?_) rfl (by kernel_rfl) (by kernel_rfl) (by kernel_rfl) (fun _ _ _ h => h) (by rfl) (by assumption) ?_ ?_; rotate_left; (intro W hW; (try dsimp only at hW); go_simp; try with_reducible rfl); (try simp only [Act.put, List.setIfInBounds_toArray, List.set_cons_zero, List.set_cons_succ]))
          (refine takeW (i := 4) (v := ?_) rfl (by kernel_rfl) (by kernel_rfl) (by kernel_rfl) (fun _ _ _ h => h) (by rfl) (by assumption) ?_ ?_; rotate_left; (intro W hW; (try dsimp only at hW); go_simp; try with_reducible rfl); (try simp only [Act.put, List.setIfInBounds_toArray, List.set_cons_zero, List.set_cons_succ]))
          (refine takeW (i := 5) (v := ?_) rfl (by kernel_rfl) (by kernel_rfl) (by kernel_rfl) (fun _ _ _ h => h) (by rfl) (by assumption) ?_ ?_; rotate_left; (intro W hW; (try dsimp only at hW); go_simp; try with_reducible rfl); (try simp only [Act.put, List.setIfInBounds_toArray, List.set_cons_zero, List.set_cons_succ]))
          (refine takeW (i := 7) (v := ?_) rfl (by kernel_rfl) (by kernel_rfl) (by kernel_rfl) (fun _ _ _ h => h) (by rfl) (by assumption) ?_ ?_; rotate_left; (intro W hW; (try dsimp only at hW); go_simp; try with_reducible rfl); (try simp only [Act.put, List.setIfInBounds_toArray, List.set_cons_zero, List.set_cons_succ]))
          (refine takeW (i := 8) (v := ?_) rfl (by kernel_rfl) (by kernel_rfl) (by kernel_rfl) (fun _ _ _ h => h) (by rfl) (by assumption) ?_ ?_; rotate_left; (intro W hW; (try dsimp only at hW); go_simp; try with_reducible rfl); (try simp only [Act.put, List.setIfInBounds_toArray, List.set_cons_zero, List.set_cons_succ]))
          (refine takeW (i := 9) (v := ?_) rfl (by kernel_rfl) (by kernel_rfl) (by kernel_rfl) (fun _ _ _ h => h) (by rfl) (by assumption) ?_ ?_; rotate_left; (intro W hW; (try dsimp only at hW); go_simp; try with_reducible rfl); (try simp only [Act.put, List.setIfInBounds_toArray, List.set_cons_zero, List.set_cons_succ]))
          refine takeV2 (i := 6) (j := 10) rfl rfl (by kernel_rfl) (by rfl) (by rfl) (exec_load1 F23 rfl rfl (by exact HCV.out)) (hHeld) (exec_slice1 E23 rfl rfl rfl) (⟨keepCell (below1 _ _) hHeld.1, keepCell (below1 _ _) hHeld.2⟩) ?_ ?_
          · (try simp only [Act.put, List.setIfInBounds_toArray, List.set_cons_zero, List.set_cons_succ])
            have hHeld : w4.drew.cell? ⟨w.heap.size + 1, 0, none⟩ = some (.slice (some ⟨gb, 0, none⟩) (gs.length + 1) cap) ∧ w4.drew.cell? ⟨bx, 1, none⟩ = some (.int .i64 x.i) := hHeld
            refine takeV (i := 10) rfl (by kernel_rfl) (by rfl) (exec_slice1 E23 rfl rfl rfl) (⟨keepCell (below1 _ _) hHeld.1, keepCell (below1 _ _) hHeld.2⟩) ?_
            (try simp only [Act.put, List.setIfInBounds_toArray, List.set_cons_zero, List.set_cons_succ])
            have hHeld : ((w4.drew).alloc (.cells #[.int .i64 x.i] 3)).cell? ⟨w.heap.size + 1, 0, none⟩ = some (.slice (some ⟨gb, 0, none⟩) (gs.length + 1) cap) ∧ ((w4.drew).alloc (.cells #[.int .i64 x.i] 3)).cell? ⟨bx, 1, none⟩ = some (.int .i64 x.i) := ⟨keepCell (below1 _ _) hHeld.1, keepCell (below1 _ _) hHeld.2⟩
            replace HCV := Lib.hid (keepCell (below1 _ (.cells #[.int .i64 x.i] 3)) HCV.out)
            refine takeApp (i := 11) (m := 1) E23 rfl (by kernel_rfl) (by rfl) rfl (HID.out.alloc _) (news := [.int .i64 x.i]) rfl (cell_one_new _ _ _) (by simp [Value.oneCell']) rfl rfl (by have := HIL.out; omega) (by simp; omega) (fun u' w5 ho5 hg5 hl5 => ?_)
            have HB05 := Lib.hid ((HB0.out.alloc _).kept hg5 (fun e => own_blk_ne HID.out HB0.out (by decide) e.symm))
            have HB75 := Lib.hid ((HB7.out.alloc _).kept hg5 (fun e => own_blk_ne HID.out HB7.out (by decide) e.symm))
            have HX5 := Lib.hid ((HX.out.alloc _).kept hg5 (fun e => own_blk_ne HID.out HX.out (by decide) e.symm))
            have HG5 := Lib.hid (Grps.app HGR.out HK.out ho5 hg5 hl5)
            have HR5 := Lib.hid ((HRN.out.alloc (.cells #[.int .i64 x.i] 3) (by omega)).grown (HID.out.alloc _) hg5 (by omega))
            have HGB5 := Lib.hid (own_kept' ((HGR.out.keep (below1 _ (.cells #[.int .i64 x.i] 3))).row) hg5 (fun b e e' => HGR.out.far _ (List.mem_of_getElem? HK.out) b e' e))
            have hs5 : w5.cell? ⟨w.heap.size + 1, 0, none⟩ = some (.slice (some ⟨gb, 0, none⟩) (gs.length + 1) cap) ∧ w5.cell? ⟨bx, 1, none⟩ = some (.int .i64 x.i) := ⟨HB75.out.cell 0, HX5.out.list0 (j := 1) rfl⟩
            refine ⟨hs5, ?_⟩
            try simp only [Act.put, List.setIfInBounds_toArray, List.set_cons_zero, List.set_cons_succ]
            replace hHeld := hs5
            clear hs5
            have hfz : w5.frozen? ⟨gb, gs.length * 6 + 5, none⟩ = false := own_frozen HGB5.out _
            have hcl : w5.cell? ⟨gb, gs.length * 6 + 5, none⟩ = some (.slice none 0 0) := own_cell HGB5.out (HAT.out)
            have hgH := (HGB5.out.lt gb rfl).1
            have HO5 := Lib.hid ho5
            obtain ⟨ua, uc, rfl, -⟩ := owns_shape ho5
            have HF5 := Lib.hid (HFIN.out _ _ _ (HR5.out.set (p := ⟨gb, gs.length * 6 + 5, none⟩) (by simp; omega) (.inr (by simpa using hgH)) _) (HB05.out.far (p := ⟨gb, gs.length * 6 + 5, none⟩) (fun e => own_blk_ne HGB5.out HB05.out (by decide) (by rw [e]; rfl)) _) (HB75.out.far (p := ⟨gb, gs.length * 6 + 5, none⟩) (fun e => own_blk_ne HGB5.out HB75.out (by decide) (by rw [e]; rfl)) _) HG5.out (HEQ.out _))
            (refine takeW (i := 12) (v := ?_) rfl (by kernel_rfl) (by kernel_rfl) (by kernel_rfl) (fun _ _ _ h => h) (by rfl) (by assumption) ?_ ?_; rotate_left; (intro W hW; (try dsimp only at hW); go_simp; try with_reducible rfl); (try simp only [Act.put, List.setIfInBounds_toArray, List.set_cons_zero, List.set_cons_succ]))
            (refine takeW (i := 13) (v := ?_) rfl (by kernel_rfl) (by kernel_rfl) (by kernel_rfl) (fun _ _ _ h => h) (by rfl) (by assumption) ?_ ?_; rotate_left; (intro W hW; (try dsimp only at hW); go_simp; try with_reducible rfl); (try simp only [Act.put, List.setIfInBounds_toArray, List.set_cons_zero, List.set_cons_succ]))
            refine takeVs (i := 14) rfl (by kernel_rfl) (by rfl) (exec_store1 F23 rfl rfl rfl rfl rfl hcl hfz) (⟨(HB75.out.far (p := ⟨gb, gs.length * 6 + 5, none⟩) (fun e => own_blk_ne HGB5.out HB75.out (by decide) (by rw [e]; rfl)) _).cell 0, (HX5.out.far (p := ⟨gb, gs.length * 6 + 5, none⟩) (fun e => own_blk_ne HGB5.out HX5.out (by decide) (by rw [e]; rfl)) _).list0 (j := 1) rfl⟩) ?_
            have hHeld : (w5.setCell ⟨gb, gs.length * 6 + 5, none⟩ (.slice ua (([] : List Int).length + 1) uc)).cell? ⟨w.heap.size + 1, 0, none⟩ = some (.slice (some ⟨gb, 0, none⟩) (gs.length + 1) cap) ∧ (w5.setCell ⟨gb, gs.length * 6 + 5, none⟩ (.slice ua (([] : List Int).length + 1) uc)).cell? ⟨bx, 1, none⟩ = some (.int .i64 x.i) := ⟨(HB75.out.far (p := ⟨gb, gs.length * 6 + 5, none⟩) (fun e => own_blk_ne HGB5.out HB75.out (by decide) (by rw [e]; rfl)) _).cell 0, (HX5.out.far (p := ⟨gb, gs.length * 6 + 5, none⟩) (fun e => own_blk_ne HGB5.out HX5.out (by decide) (by rw [e]; rfl)) _).list0 (j := 1) rfl⟩
            refine wpAnyH_done (by kernel_rfl) ?_ _
            clear hHeld hcl hfz hgH
            gi_wp2
            exact HF5.out
          · (try simp only [Act.put, List.setIfInBounds_toArray, List.set_cons_zero, List.set_cons_succ])
            have hHeld : ((w4.drew).alloc (.cells #[.int .i64 x.i] 3)).cell? ⟨w.heap.size + 1, 0, none⟩ = some (.slice (some ⟨gb, 0, none⟩) (gs.length + 1) cap) ∧ ((w4.drew).alloc (.cells #[.int .i64 x.i] 3)).cell? ⟨bx, 1, none⟩ = some (.int .i64 x.i) := ⟨keepCell (below1 _ _) hHeld.1, keepCell (below1 _ _) hHeld.2⟩
            replace HCV := Lib.hid (keepCell (below1 _ (.cells #[.int .i64 x.i] 3)) HCV.out)
            refine takeV (i := 6) rfl (by kernel_rfl) (by rfl) (exec_load1 F23 rfl rfl (by exact HCV.out)) (hHeld) ?_
            (try simp only [Act.put, List.setIfInBounds_toArray, List.set_cons_zero, List.set_cons_succ])
            have hHeld : ((w4.drew).alloc (.cells #[.int .i64 x.i] 3)).cell? ⟨w.heap.size + 1, 0, none⟩ = some (.slice (some ⟨gb, 0, none⟩) (gs.length + 1) cap) ∧ ((w4.drew).alloc (.cells #[.int .i64 x.i] 3)).cell? ⟨bx, 1, none⟩ = some (.int .i64 x.i) := hHeld
            refine takeApp (i := 11) (m := 1) E23 rfl (by kernel_rfl) (by rfl) rfl (HID.out.alloc _) (news := [.int .i64 x.i]) rfl (cell_one_new _ _ _) (by simp [Value.oneCell']) rfl rfl (by have := HIL.out; omega) (by simp; omega) (fun u' w5 ho5 hg5 hl5 => ?_)
            have HB05 := Lib.hid ((HB0.out.alloc _).kept hg5 (fun e => own_blk_ne HID.out HB0.out (by decide) e.symm))
            have HB75 := Lib.hid ((HB7.out.alloc _).kept hg5 (fun e => own_blk_ne HID.out HB7.out (by decide) e.symm))
            have HX5 := Lib.hid ((HX.out.alloc _).kept hg5 (fun e => own_blk_ne HID.out HX.out (by decide) e.symm))
            have HG5 := Lib.hid (Grps.app HGR.out HK.out ho5 hg5 hl5)
            have HR5 := Lib.hid ((HRN.out.alloc (.cells #[.int .i64 x.i] 3) (by omega)).grown (HID.out.alloc _) hg5 (by omega))
            have HGB5 := Lib.hid (own_kept' ((HGR.out.keep (below1 _ (.cells #[.int .i64 x.i] 3))).row) hg5 (fun b e e' => HGR.out.far _ (List.mem_of_getElem? HK.out) b e' e))
            have hs5 : w5.cell? ⟨w.heap.size + 1, 0, none⟩ = some (.slice (some ⟨gb, 0, none⟩) (gs.length + 1) cap) ∧ w5.cell? ⟨bx, 1, none⟩ = some (.int .i64 x.i) := ⟨HB75.out.cell 0, HX5.out.list0 (j := 1) rfl⟩
            refine ⟨hs5, ?_⟩
            try simp only [Act.put, List.setIfInBounds_toArray, List.set_cons_zero, List.set_cons_succ]
            replace hHeld := hs5
            clear hs5
            have hfz : w5.frozen? ⟨gb, gs.length * 6 + 5, none⟩ = false := own_frozen HGB5.out _
            have hcl : w5.cell? ⟨gb, gs.length * 6 + 5, none⟩ = some (.slice none 0 0) := own_cell HGB5.out (HAT.out)
            have hgH := (HGB5.out.lt gb rfl).1
            have HO5 := Lib.hid ho5
            obtain ⟨ua, uc, rfl, -⟩ := owns_shape ho5
            have HF5 := Lib.hid (HFIN.out _ _ _ (HR5.out.set (p := ⟨gb, gs.length * 6 + 5, none⟩) (by simp; omega) (.inr (by simpa using hgH)) _) (HB05.out.far (p := ⟨gb, gs.length * 6 + 5, none⟩) (fun e => own_blk_ne HGB5.out HB05.out (by decide) (by rw [e]; rfl)) _) (HB75.out.far (p := ⟨gb, gs.length * 6 + 5, none⟩) (fun e => own_blk_ne HGB5.out HB75.out (by decide) (by rw [e]; rfl)) _) HG5.out (HEQ.out _))
            (refine takeW (i := 12) (v := ?_) rfl (by kernel_rfl) (by kernel_rfl) (by kernel_rfl) (fun _ _ _ h => h) (by rfl) (by assumption) ?_ ?_; rotate_left; (intro W hW; (try dsimp only at hW); go_simp; try with_reducible rfl); (try simp only [Act.put, List.setIfInBounds_toArray, List.set_cons_zero, List.set_cons_succ]))
            (refine takeW (i := 13) (v := ?_) rfl (by kernel_rfl) (by kernel_rfl) (by kernel_rfl) (fun _ _ _ h => h) (by rfl) (by assumption) ?_ ?_; rotate_left; (intro W hW; (try dsimp only at hW); go_simp; try with_reducible rfl); (try simp only [Act.put, List.setIfInBounds_toArray, List.set_cons_zero, List.set_cons_succ]))
            refine takeVs (i := 14) rfl (by kernel_rfl) (by rfl) (exec_store1 F23 rfl rfl rfl rfl rfl hcl hfz) (⟨(HB75.out.far (p := ⟨gb, gs.length * 6 + 5, none⟩) (fun e => own_blk_ne HGB5.out HB75.out (by decide) (by rw [e]; rfl)) _).cell 0, (HX5.out.far (p := ⟨gb, gs.length * 6 + 5, none⟩) (fun e => own_blk_ne HGB5.out HX5.out (by decide) (by rw [e]; rfl)) _).list0 (j := 1) rfl⟩) ?_
            have hHeld : (w5.setCell ⟨gb, gs.length * 6 + 5, none⟩ (.slice ua (([] : List Int).length + 1) uc)).cell? ⟨w.heap.size + 1, 0, none⟩ = some (.slice (some ⟨gb, 0, none⟩) (gs.length + 1) cap) ∧ (w5.setCell ⟨gb, gs.length * 6 + 5, none⟩ (.slice ua (([] : List Int).length + 1) uc)).cell? ⟨bx, 1, none⟩ = some (.int .i64 x.i) := ⟨(HB75.out.far (p := ⟨gb, gs.length * 6 + 5, none⟩) (fun e => own_blk_ne HGB5.out HB75.out (by decide) (by rw [e]; rfl)) _).cell 0, (HX5.out.far (p := ⟨gb, gs.length * 6 + 5, none⟩) (fun e => own_blk_ne HGB5.out HX5.out (by decide) (by rw [e]; rfl)) _).list0 (j := 1) rfl⟩
            refine wpAnyH_done (by kernel_rfl) ?_ _
            clear hHeld hcl hfz hgH
            gi_wp2
            exact HF5.out
        · have HP := Lib.hid hp
          rw [Nat.zero_add] at hp
          rw [hp] at hidx
          have hjl := (List.getElem?_eq_some_iff.1 hg).1
          obtain ⟨gb, rfl, -⟩ := VQ.out (by omega)
          have HK := Lib.hid hg
          have HIL : Hid (g.ids.length ≤ 300) := by
            have h1 := clq_sum but pre
            rw [← H6.out] at h1
            have h2 := List.countP_le_length (p := takes but) (l := pre)
            have h3 := ids_le (List.mem_of_getElem? HK.out)
            show g.ids.length ≤ 300
            omega
          have HEQ : Hid (∀ u, (gs.set j ⟨g.c, u, g.ids ++ [x.i]⟩).map pg = clq but (pre ++ [x])) := fun u => by rw [HSN.out, HT2.out, if_pos (by rfl), ← H6.out]; exact (add_old x.c x.i u gs 0 j g HP.out HK.out).symm
          have HAT : Hid ((gs.flatMap encG)[j * 6 + 5]? = some g.v) := flat_get encG_len _ j _ HK.out 5 _ rfl
          have hneg : decide ((j : Int) < 0) = false := decide_eq_false (by omega)
          clear hp hg hgc
          gi_upto_region 9 with (refine ⟨trivial, ?_⟩; gi_at_call 40; refine (CallsIn.inRound y (callsIn_wide.2 hidx)).mono ?_; go_must (rintro e w4 ⟨rfl, hb2⟩; replace HB0 := Lib.hid (HB0.out.keep hb2); replace HB7 := Lib.hid (HB7.out.keep hb2); replace HX := Lib.hid (HX.out.keep hb2); replace HGR := Lib.hid (HGR.out.keep hb2); replace HRN := Lib.hid (HRN.out.below hb2 (by omega)); clear c7 ci z5 z7 zx hidx hb2; have hs2 : H ≤ w4.heap.size := HRN.out.sz))
          have HID := Lib.hid (HGR.out.each _ (List.mem_of_getElem? HK.out))
          have HCV : Hid (w4.cell? ⟨gb, j * 6 + 5, none⟩ = some g.v) := own_cell HGR.out.row HAT.out
          gi_upto_region 9 with fail
          have hS9 : w4.drew.cell? ⟨w.heap.size + 1, 0, none⟩ = some (.slice (some ⟨gb, 0, none⟩) gs.length vc) ∧ w4.drew.cell? ⟨bx, 1, none⟩ = some (.int .i64 x.i) := ⟨HB7.out.cell 0, HX.out.list0 (j := 1) rfl⟩
          replace HB0 := Lib.hid (HB0.out.keep (Below.refl _ _).drew); replace HB7 := Lib.hid (HB7.out.keep (Below.refl _ _).drew); replace HX := Lib.hid (HX.out.keep (Below.refl _ _).drew); replace HGR := Lib.hid (HGR.out.keep (Below.refl _ _).drew); replace HRN := Lib.hid (HRN.out.drew (by omega)); replace HID := Lib.hid (HGR.out.each _ (List.mem_of_getElem? HK.out)); replace HCV : Hid (w4.drew.cell? ⟨gb, j * 6 + 5, none⟩ = some (g.v)) := HCV.out
          have hsz9 : H ≤ w4.heap.size := HRN.out.sz
          refine wpIn_region_held_drew (S := fun X => X.cell? ⟨w.heap.size + 1, 0, none⟩ = some (.slice (some ⟨gb, 0, none⟩) gs.length vc) ∧ X.cell? ⟨bx, 1, none⟩ = some (.int .i64 x.i)) (by kernel_rfl) (by rfl) (fun ⟨_, _, h⟩ => h) hS9 (fun hHeld => ?_)
          (refine takeW (i := 0) (v := ?_) rfl (by kernel_rfl) (by kernel_rfl) (by kernel_rfl) (fun _ _ _ h => h) (by rfl) (by assumption) ?_ ?_; rotate_left; (intro W hW; (try dsimp only at hW); go_simp; try with_reducible rfl); (try simp only [Act.put, List.setIfInBounds_toArray, List.set_cons_zero, List.set_cons_succ]))
          (refine takeW (i := 1) (v := ?_) rfl (by kernel_rfl) (by kernel_rfl) (by kernel_rfl) (fun _ _ _ h => h) (by rfl) (by assumption) ?_ ?_; rotate_left; (intro W hW; (try dsimp only at hW); go_simp; try with_reducible rfl); (try simp only [Act.put, List.setIfInBounds_toArray, List.set_cons_zero, List.set_cons_succ]))
          (refine takeW (i := 2) (v := ?_) rfl (by kernel_rfl) (by kernel_rfl) (by kernel_rfl) (fun _ _ _ h => h) (by rfl) (by assumption) ?_ ?_; rotate_left; (intro W hW; (try dsimp only at hW); go_simp; try with_reducible rfl); (try simp only [Act.put, List.setIfInBounds_toArray, List.set_cons_zero, List.set_cons_succ]))
          (refine takeW (i := 3) (v := ?_) rfl (by kernel_rfl) (by kernel_rfl) (by kernel_rfl) (fun _ _ _ h => h) (by rfl) (by assumption) ?_ ?_; rotate_left; (intro W hW; (try dsimp only at hW); go_simp; try with_reducible rfl); (try simp only [Act.put, List.setIfInBounds_toArray, List.set_cons_zero, List.set_cons_succ]))
          (refine takeW (i := 4) (v := ?_) rfl (by kernel_rfl) (by kernel_rfl) (by kernel_rfl) (fun _ _ _ h => h) (by rfl) (by assumption) ?_ ?_; rotate_left; (intro W hW; (try dsimp only at hW); go_simp; try with_reducible rfl); (try simp only [Act.put, List.setIfInBounds_toArray, List.set_cons_zero, List.set_cons_succ]))
          (refine takeW (i := 5) (v := ?_) rfl (by kernel_rfl) (by kernel_rfl) (by kernel_rfl) (fun _ _ _ h => h) (by rfl) (by assumption) ?_ ?_; rotate_left; (intro W hW; (try dsimp only at hW); go_simp; try with_reducible rfl); (try simp only [Act.put, List.setIfInBounds_toArray, List.set_cons_zero, List.set_cons_succ]))
          (refine takeW (i := 7) (v := ?_) rfl (by kernel_rfl) (by kernel_rfl) (by kernel_rfl) (fun _ _ _ h => h) (by rfl) (by assumption) ?_ ?_; rotate_left; (intro W hW; (try dsimp only at hW); go_simp; try with_reducible rfl); (try simp only [Act.put, List.setIfInBounds_toArray, List.set_cons_zero, List.set_cons_succ]))
          (refine takeW (i := 8) (v := ?_) rfl (by kernel_rfl) (by kernel_rfl) (by kernel_rfl) (fun _ _ _ h => h) (by rfl) (by assumption) ?_ ?_; rotate_left; (intro W hW; (try dsimp only at hW); go_simp; try with_reducible rfl); (try simp only [Act.put, List.setIfInBounds_toArray, List.set_cons_zero, List.set_cons_succ]))
          (refine takeW (i := 9) (v := ?_) rfl (by kernel_rfl) (by kernel_rfl) (by kernel_rfl) (fun _ _ _ h => h) (by rfl) (by assumption) ?_ ?_; rotate_left; (intro W hW; (try dsimp only at hW); go_simp; try with_reducible rfl); (try simp only [Act.put, List.setIfInBounds_toArray, List.set_cons_zero, List.set_cons_succ]))
          refine takeV2 (i := 6) (j := 10) rfl rfl (by kernel_rfl) (by rfl) (by rfl) (exec_load1 F23 rfl rfl (by exact HCV.out)) (hHeld) (exec_slice1 E23 rfl rfl rfl) (⟨keepCell (below1 _ _) hHeld.1, keepCell (below1 _ _) hHeld.2⟩) ?_ ?_
          · (try simp only [Act.put, List.setIfInBounds_toArray, List.set_cons_zero, List.set_cons_succ])
            have hHeld : w4.drew.cell? ⟨w.heap.size + 1, 0, none⟩ = some (.slice (some ⟨gb, 0, none⟩) gs.length vc) ∧ w4.drew.cell? ⟨bx, 1, none⟩ = some (.int .i64 x.i) := hHeld
            refine takeV (i := 10) rfl (by kernel_rfl) (by rfl) (exec_slice1 E23 rfl rfl rfl) (⟨keepCell (below1 _ _) hHeld.1, keepCell (below1 _ _) hHeld.2⟩) ?_
            (try simp only [Act.put, List.setIfInBounds_toArray, List.set_cons_zero, List.set_cons_succ])
            have hHeld : ((w4.drew).alloc (.cells #[.int .i64 x.i] 3)).cell? ⟨w.heap.size + 1, 0, none⟩ = some (.slice (some ⟨gb, 0, none⟩) gs.length vc) ∧ ((w4.drew).alloc (.cells #[.int .i64 x.i] 3)).cell? ⟨bx, 1, none⟩ = some (.int .i64 x.i) := ⟨keepCell (below1 _ _) hHeld.1, keepCell (below1 _ _) hHeld.2⟩
            replace HCV := Lib.hid (keepCell (below1 _ (.cells #[.int .i64 x.i] 3)) HCV.out)
            refine takeApp (i := 11) (m := 1) E23 rfl (by kernel_rfl) (by rfl) rfl (HID.out.alloc _) (news := [.int .i64 x.i]) rfl (cell_one_new _ _ _) (by simp [Value.oneCell']) rfl rfl (by have := HIL.out; omega) (by simp; omega) (fun u' w5 ho5 hg5 hl5 => ?_)
            have HB05 := Lib.hid ((HB0.out.alloc _).kept hg5 (fun e => own_blk_ne HID.out HB0.out (by decide) e.symm))
            have HB75 := Lib.hid ((HB7.out.alloc _).kept hg5 (fun e => own_blk_ne HID.out HB7.out (by decide) e.symm))
            have HX5 := Lib.hid ((HX.out.alloc _).kept hg5 (fun e => own_blk_ne HID.out HX.out (by decide) e.symm))
            have HG5 := Lib.hid (Grps.app HGR.out HK.out ho5 hg5 hl5)
            have HR5 := Lib.hid ((HRN.out.alloc (.cells #[.int .i64 x.i] 3) (by omega)).grown (HID.out.alloc _) hg5 (by omega))
            have HGB5 := Lib.hid (own_kept' ((HGR.out.keep (below1 _ (.cells #[.int .i64 x.i] 3))).row) hg5 (fun b e e' => HGR.out.far _ (List.mem_of_getElem? HK.out) b e' e))
            have hs5 : w5.cell? ⟨w.heap.size + 1, 0, none⟩ = some (.slice (some ⟨gb, 0, none⟩) gs.length vc) ∧ w5.cell? ⟨bx, 1, none⟩ = some (.int .i64 x.i) := ⟨HB75.out.cell 0, HX5.out.list0 (j := 1) rfl⟩
            refine ⟨hs5, ?_⟩
            try simp only [Act.put, List.setIfInBounds_toArray, List.set_cons_zero, List.set_cons_succ]
            replace hHeld := hs5
            clear hs5
            have hfz : w5.frozen? ⟨gb, j * 6 + 5, none⟩ = false := own_frozen HGB5.out _
            have hcl : w5.cell? ⟨gb, j * 6 + 5, none⟩ = some (g.v) := own_cell HGB5.out (HAT.out)
            have hgH := (HGB5.out.lt gb rfl).1
            have HO5 := Lib.hid ho5
            obtain ⟨ua, uc, rfl, -⟩ := owns_shape ho5
            have HF5 := Lib.hid (HFIN.out _ _ _ (HR5.out.set (p := ⟨gb, j * 6 + 5, none⟩) (by simp; omega) (.inr (by simpa using hgH)) _) (HB05.out.far (p := ⟨gb, j * 6 + 5, none⟩) (fun e => own_blk_ne HGB5.out HB05.out (by decide) (by rw [e]; rfl)) _) (HB75.out.far (p := ⟨gb, j * 6 + 5, none⟩) (fun e => own_blk_ne HGB5.out HB75.out (by decide) (by rw [e]; rfl)) _) HG5.out (HEQ.out _))
            (refine takeW (i := 12) (v := ?_) rfl (by kernel_rfl) (by kernel_rfl) (by kernel_rfl) (fun _ _ _ h => h) (by rfl) (by assumption) ?_ ?_; rotate_left; (intro W hW; (try dsimp only at hW); go_simp; try with_reducible rfl); (try simp only [Act.put, List.setIfInBounds_toArray, List.set_cons_zero, List.set_cons_succ]))
            (refine takeW (i := 13) (v := ?_) rfl (by kernel_rfl) (by kernel_rfl) (by kernel_rfl) (fun _ _ _ h => h) (by rfl) (by assumption) ?_ ?_; rotate_left; (intro W hW; (try dsimp only at hW); go_simp; try with_reducible rfl); (try simp only [Act.put, List.setIfInBounds_toArray, List.set_cons_zero, List.set_cons_succ]))
            refine takeVs (i := 14) rfl (by kernel_rfl) (by rfl) (exec_store1 F23 rfl rfl rfl rfl rfl hcl hfz) (⟨(HB75.out.far (p := ⟨gb, j * 6 + 5, none⟩) (fun e => own_blk_ne HGB5.out HB75.out (by decide) (by rw [e]; rfl)) _).cell 0, (HX5.out.far (p := ⟨gb, j * 6 + 5, none⟩) (fun e => own_blk_ne HGB5.out HX5.out (by decide) (by rw [e]; rfl)) _).list0 (j := 1) rfl⟩) ?_
            have hHeld : (w5.setCell ⟨gb, j * 6 + 5, none⟩ (.slice ua (g.ids.length + 1) uc)).cell? ⟨w.heap.size + 1, 0, none⟩ = some (.slice (some ⟨gb, 0, none⟩) gs.length vc) ∧ (w5.setCell ⟨gb, j * 6 + 5, none⟩ (.slice ua (g.ids.length + 1) uc)).cell? ⟨bx, 1, none⟩ = some (.int .i64 x.i) := ⟨(HB75.out.far (p := ⟨gb, j * 6 + 5, none⟩) (fun e => own_blk_ne HGB5.out HB75.out (by decide) (by rw [e]; rfl)) _).cell 0, (HX5.out.far (p := ⟨gb, j * 6 + 5, none⟩) (fun e => own_blk_ne HGB5.out HX5.out (by decide) (by rw [e]; rfl)) _).list0 (j := 1) rfl⟩
            refine wpAnyH_done (by kernel_rfl) ?_ _
            clear hHeld hcl hfz hgH
            gi_wp2
            exact HF5.out
          · (try simp only [Act.put, List.setIfInBounds_toArray, List.set_cons_zero, List.set_cons_succ])
            have hHeld : ((w4.drew).alloc (.cells #[.int .i64 x.i] 3)).cell? ⟨w.heap.size + 1, 0, none⟩ = some (.slice (some ⟨gb, 0, none⟩) gs.length vc) ∧ ((w4.drew).alloc (.cells #[.int .i64 x.i] 3)).cell? ⟨bx, 1, none⟩ = some (.int .i64 x.i) := ⟨keepCell (below1 _ _) hHeld.1, keepCell (below1 _ _) hHeld.2⟩
            replace HCV := Lib.hid (keepCell (below1 _ (.cells #[.int .i64 x.i] 3)) HCV.out)
            refine takeV (i := 6) rfl (by kernel_rfl) (by rfl) (exec_load1 F23 rfl rfl (by exact HCV.out)) (hHeld) ?_
            (try simp only [Act.put, List.setIfInBounds_toArray, List.set_cons_zero, List.set_cons_succ])
            have hHeld : ((w4.drew).alloc (.cells #[.int .i64 x.i] 3)).cell? ⟨w.heap.size + 1, 0, none⟩ = some (.slice (some ⟨gb, 0, none⟩) gs.length vc) ∧ ((w4.drew).alloc (.cells #[.int .i64 x.i] 3)).cell? ⟨bx, 1, none⟩ = some (.int .i64 x.i) := hHeld
            refine takeApp (i := 11) (m := 1) E23 rfl (by kernel_rfl) (by rfl) rfl (HID.out.alloc _) (news := [.int .i64 x.i]) rfl (cell_one_new _ _ _) (by simp [Value.oneCell']) rfl rfl (by have := HIL.out; omega) (by simp; omega) (fun u' w5 ho5 hg5 hl5 => ?_)
            have HB05 := Lib.hid ((HB0.out.alloc _).kept hg5 (fun e => own_blk_ne HID.out HB0.out (by decide) e.symm))
            have HB75 := Lib.hid ((HB7.out.alloc _).kept hg5 (fun e => own_blk_ne HID.out HB7.out (by decide) e.symm))
            have HX5 := Lib.hid ((HX.out.alloc _).kept hg5 (fun e => own_blk_ne HID.out HX.out (by decide) e.symm))
            have HG5 := Lib.hid (Grps.app HGR.out HK.out ho5 hg5 hl5)
            have HR5 := Lib.hid ((HRN.out.alloc (.cells #[.int .i64 x.i] 3) (by omega)).grown (HID.out.alloc _) hg5 (by omega))
            have HGB5 := Lib.hid (own_kept' ((HGR.out.keep (below1 _ (.cells #[.int .i64 x.i] 3))).row) hg5 (fun b e e' => HGR.out.far _ (List.mem_of_getElem? HK.out) b e' e))
            have hs5 : w5.cell? ⟨w.heap.size + 1, 0, none⟩ = some (.slice (some ⟨gb, 0, none⟩) gs.length vc) ∧ w5.cell? ⟨bx, 1, none⟩ = some (.int .i64 x.i) := ⟨HB75.out.cell 0, HX5.out.list0 (j := 1) rfl⟩
            refine ⟨hs5, ?_⟩
            try simp only [Act.put, List.setIfInBounds_toArray, List.set_cons_zero, List.set_cons_succ]
            replace hHeld := hs5
            clear hs5
            have hfz : w5.frozen? ⟨gb, j * 6 + 5, none⟩ = false := own_frozen HGB5.out _
            have hcl : w5.cell? ⟨gb, j * 6 + 5, none⟩ = some (g.v) := own_cell HGB5.out (HAT.out)
            have hgH := (HGB5.out.lt gb rfl).1
            have HO5 := Lib.hid ho5
            obtain ⟨ua, uc, rfl, -⟩ := owns_shape ho5
            have HF5 := Lib.hid (HFIN.out _ _ _ (HR5.out.set (p := ⟨gb, j * 6 + 5, none⟩) (by simp; omega) (.inr (by simpa using hgH)) _) (HB05.out.far (p := ⟨gb, j * 6 + 5, none⟩) (fun e => own_blk_ne HGB5.out HB05.out (by decide) (by rw [e]; rfl)) _) (HB75.out.far (p := ⟨gb, j * 6 + 5, none⟩) (fun e => own_blk_ne HGB5.out HB75.out (by decide) (by rw [e]; rfl)) _) HG5.out (HEQ.out _))
            (refine takeW (i := 12) (v := ?_) rfl (by kernel_rfl) (by kernel_rfl) (by kernel_rfl) (fun _ _ _ h => h) (by rfl) (by assumption) ?_ ?_; rotate_left; (intro W hW; (try dsimp only at hW); go_simp; try with_reducible rfl); (try simp only [Act.put, List.setIfInBounds_toArray, List.set_cons_zero, List.set_cons_succ]))
            (refine takeW (i := 13) (v := ?_) rfl (by kernel_rfl) (by kernel_rfl) (by kernel_rfl) (fun _ _ _ h => h) (by rfl) (by assumption) ?_ ?_; rotate_left; (intro W hW; (try dsimp only at hW); go_simp; try with_reducible rfl); (try simp only [Act.put, List.setIfInBounds_toArray, List.set_cons_zero, List.set_cons_succ]))
            refine takeVs (i := 14) rfl (by kernel_rfl) (by rfl) (exec_store1 F23 rfl rfl rfl rfl rfl hcl hfz) (⟨(HB75.out.far (p := ⟨gb, j * 6 + 5, none⟩) (fun e => own_blk_ne HGB5.out HB75.out (by decide) (by rw [e]; rfl)) _).cell 0, (HX5.out.far (p := ⟨gb, j * 6 + 5, none⟩) (fun e => own_blk_ne HGB5.out HX5.out (by decide) (by rw [e]; rfl)) _).list0 (j := 1) rfl⟩) ?_
            have hHeld : (w5.setCell ⟨gb, j * 6 + 5, none⟩ (.slice ua (g.ids.length + 1) uc)).cell? ⟨w.heap.size + 1, 0, none⟩ = some (.slice (some ⟨gb, 0, none⟩) gs.length vc) ∧ (w5.setCell ⟨gb, j * 6 + 5, none⟩ (.slice ua (g.ids.length + 1) uc)).cell? ⟨bx, 1, none⟩ = some (.int .i64 x.i) := ⟨(HB75.out.far (p := ⟨gb, j * 6 + 5, none⟩) (fun e => own_blk_ne HGB5.out HB75.out (by decide) (by rw [e]; rfl)) _).cell 0, (HX5.out.far (p := ⟨gb, j * 6 + 5, none⟩) (fun e => own_blk_ne HGB5.out HX5.out (by decide) (by rw [e]; rfl)) _).list0 (j := 1) rfl⟩
            refine wpAnyH_done (by kernel_rfl) ?_ _
            clear hHeld hcl hfz hgH
            gi_wp2
            exact HF5.out
    · have e1 : (x.s != 4) = true := by simpa using h4
      have HT2 : Hid (takes but x = false) := by show _ = _; rw [HTK.out]; simp [h4]
      clear h4 HTK hcon hidx
      gi_wp2
      refine ⟨trivial, ?_⟩
      gi_wp2
      have HE : Hid (gs.map pg = clq but (pre ++ [x])) := by show _ = _; rw [HSN.out, HT2.out, H6.out]; rfl
      exact HFIN.out _ _ gs HRN.out HB0.out HB7.out HGR.out HE.out
  case done =>
    rintro DD ys W hDD hys ⟨h1, h2, h3, v, gs, h4, h5, h6⟩ hK
    obtain ⟨av, cv, rfl, _⟩ := owns_shape h5.row
    have c7 : W.cell? ⟨w.heap.size + 1, 0, none⟩ = some _ := h4.cell 0
    have HE := Lib.hid (fun a0 : Act => cliq_end (a0 := a0) (X := ofR l r l.length) (but := but) (by omega) (by omega) hK h2 h5 (by rw [h6, hys]))
    clear h1 h2 h3 h4 h5 h6 hK hys hseq hCI hB
    go_wp2
    exact HE.out _ rfl rfl
  case stop =>
    rintro DD c pre W hDD hp h hK
    exact h.elim
end Go.Proofs.YtjaaldeaknmmbaaDoor
