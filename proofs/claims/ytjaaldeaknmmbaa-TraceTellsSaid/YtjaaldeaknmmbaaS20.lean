/- TraceTells: the walk. -/
import Derived.Test.YtjaaldeaknmmbaaS19
import Derived.Test.YtjaaldeaknmmbaaAg
import Derived.IntWalk
namespace Go.Proofs.Ytjaaldeaknmmbaa
open Go.RowKit Go.Shelf

theorem exec_min' {P : Program} {w : World} {o : Oper} {a : Act} {x y : Operand} {u v m : Int} {ts : Array TypeId} {k : IntKind} (hm : imin u v = m) (ho : o.op = .call { callee := .builtin .min, args := #[x, y], argTypes := ts }) (hx : a.eval x = .int k u) (hy : a.eval y = .int k v) : (execOp a.eval o).run P w = .ok (.value (.int k m)) w := by
  rw [← hm]; exact exec_min ho hx hy
theorem exec_eqB {w : World} {o : Oper} {a : Act} {x y : Operand} {tt : TypeId} (ho : o.op = .binOp .eql 4 x y tt) {b : Bool} (hx : a.eval x = .bool b) (hy : a.eval y = .bool b) : (execOp a.eval o).run Try.prog w = .ok (.value (.bool true)) w := by
  unfold execOp
  simp only [ho, hx, hy]
  cases b <;> go_simp
theorem exec_eqI {w : World} {o : Oper} {a : Act} {x y : Operand} {tt : TypeId} (ho : o.op = .binOp .eql 3 x y tt) {b : Int} (hx : a.eval x = .int .i64 b) (hy : a.eval y = .int .i64 b) : (execOp a.eval o).run Try.prog w = .ok (.value (.bool true)) w := by
  unfold execOp
  simp only [ho, hx, hy]
  go_simp
def ofX (l : List Sx) (r : Int) : List Sx := l.filter (fun x => x.s.r == r)
theorem ofX_map (l : List Sx) (r : Int) : (ofX l r).map Sx.s = ofR (l.map Sx.s) r (l.map Sx.s).length := by
  unfold ofX ofR
  rw [List.take_length, List.filter_map]
  rfl
theorem flatX (l : List Sx) : l.flatMap (fun y => encS y.s) = (l.map Sx.s).flatMap encS := by
  rw [List.flatMap_map]
theorem flatV (gs : List Gr) : gs.flatMap (fun g => [g.v]) = gs.map (fun g => g.v) := by
  induction gs with
  | nil => rfl
  | cons g gs ih => rw [List.flatMap_cons, ih]; rfl
/-- A row of snaps that a call has made of some that may be read. -/
theorem sxs_own {w W : World} {base : Nat} {v : Value} {X : List Sx} (h : W.ownsRow base 41 23 v (X.map Sx.s).length ((X.map Sx.s).flatMap encS)) (hl : X.length ≤ 300) (hg : ∀ y ∈ X, GoodX w y) (hb : Below w.heap.size w W) : Sxs W v X :=
  ⟨Rd.of_owns (enc := fun y : Sx => encS y.s) (fun _ => rfl) (by rw [flatX]; simpa using h) (by omega), fun y hy => (hg y hy).below hb⟩
theorem sameL_refl (l : List Sx) : sameL l l = true := by
  unfold sameL
  rw [decide_eq_true rfl, Bool.true_and, List.all_eq_true]
  intro p hp
  obtain ⟨k, hk⟩ := List.getElem?_of_mem hp
  rw [List.getElem?_zip_eq_some] at hk
  obtain ⟨h1, h2⟩ := hk
  rw [h1] at h2
  have : p.1 = p.2 := by simpa using h2
  rw [decide_eq_true_iff, this]
  exact ⟨rfl, rfl, rfl, rfl, rfl, rfl, rfl, rfl, rfl, rfl, rfl, rfl, rfl⟩
theorem take_min {α : Type} (l : List α) (m : Int) (M : Nat) (h : imin (l.length : Int) m = M) (hm : 0 ≤ m) : l.take m.toNat = l.take M := by
  have := imin_le (l.length : Int) m
  rcases this with ⟨h1, h2, h3 | h3⟩
  · rw [List.take_of_length_le (by omega), List.take_of_length_le (by omega)]
  · congr 1; omega

set_option maxRecDepth 100000 in
set_option maxHeartbeats 1600000 in
theorem tells_walk (l : List Sx) (lv : Value) (round : Int) (but : List Int) (bv : Value) (most : Int) (w : World) (h : Sxs w lv l) (hbt : Ns w bv but) (hm0 : 0 ≤ most) (hm1 : most ≤ 255) :
    Calls Try.prog 5 #[lv, .int .i64 round, bv, .int .u8 most] w (LessPost w) := by
  have HPO : Hid (∀ w', Below w.heap.size w w' → LessPost w (.returned (.bool true)) w') := fun _ h => ⟨rfl, h⟩
  have hgl := goodL_of h.1 h.2
  have HBG : Hid (∀ W, Calls Try.prog 8 #[] W fun e w' => e = .returned (.bool true) ∧ Below W.heap.size W w') := fun W => begun_any W
  have HFW : Hid (∀ W, Below w.heap.size w W → Calls Try.prog 9 #[lv] W (FewPost (l.map Sx.few) W)) := fun W hW => few_any _ lv W (hgl.1.below hW) (fun x hx => (hgl.2.1 x hx).below hW)
  have hsn : Snaps w lv (l.map Sx.s) := Rd.mapped (enc := encS) (f := Sx.s) h.1
  have HI : Hid (∀ x ∈ l.map Sx.s, I64 x.r) := fun x hx => by obtain ⟨y, hy, rfl⟩ := List.mem_map.1 hx; exact (h.2 y hy).ints _ (by simp [Sn.ints])
  have HGX : Hid (∀ y ∈ ofX l round, GoodX w y) := fun y hy => h.2 y (List.mem_filter.1 hy).1
  have HS := Lib.hid hsn
  have HNS := Lib.hid hbt
  have HLL : Hid ((l.map Sx.s).length = l.length) := by show _ = _; simp
  have HLF : Hid ((l.map Sx.few).length = l.length) := by show _ = _; simp
  have HOX := Lib.hid (ofX_map l round)
  have HXL : Hid ((ofX l round).length ≤ l.length) := List.length_filter_le _ _
  have hMI : ∃ M : Nat, imin ((ofX l round).length : Int) most = M := ⟨(imin ((ofX l round).length : Int) most).toNat, by have := imin_le ((ofX l round).length : Int) most; omega⟩
  obtain ⟨M, hM⟩ := hMI
  have hMb := imin_le ((ofX l round).length : Int) most
  rw [hM] at hMb
  have HTM := Lib.hid (take_min (ofX l round) most M hM hm0)
  have HM := Lib.hid hM
  obtain ⟨a, c, rfl, q1, q2, q3⟩ := hsn.shape
  obtain ⟨ba, bc, rfl, bq1, bq2, bq3⟩ := hbt.shape
  clear h hbt hgl hsn hM
  generalize ofX l round = X at *
  generalize hL : l.map Sx.s = L at *
  generalize hbl : but.length = bl at *
  generalize hnn : L.length = n at *
  have HN := Lib.hid hnn
  clear hL hbl hnn
  have hwr : IntKind.i64.wrap most = most := IntWalk.i64_in _ (by omega)
  go_enter Try.func5, Try.ntmps5
  go_wp2_with fail
  refine (HBG.out _).mono ?_
  rintro e w1 ⟨rfl, hb⟩
  have HB1 := Lib.hid hb
  clear hb
  go_wp2_with fail
  refine (HFW.out _ HB1.out).mono ?_
  rintro e w2 ⟨⟨b, rfl, hbs⟩, hb⟩
  have HB2 := Lib.hid (HB1.out.trans (hb.mono HB1.out.size))
  have HBS : Hid (b = true → n ≤ 260) := fun hb => by have := (hbs hb).1; rw [HLF.out, ← HLL.out] at this; exact this
  clear hb hbs HFW HLF
  cases b with
  | false =>
    go_wp2_with (go_at_call 8; refine (HBG.out _).mono ?_; rintro e w3 ⟨rfl, hb⟩; have HB3 := Lib.hid (HB2.out.trans (hb.mono HB2.out.size)); clear hb)
    go_ret
    exact HPO.out _ HB3.out
  | true =>
    have hn260 : n ≤ 260 := HBS.out rfl
    have hxl : X.length ≤ 260 := by have := HXL.out; rw [← HLL.out] at this; omega
    clear HBS
    by_cases h60 : bl ≤ 60
    · have hd : decide (60 < (bl : Int)) = false := decide_eq_false (by omega)
      have hd2 : decide (60 < bl) = false := decide_eq_false (by omega)
      have h15 := rround_any L _ round w2 (HS.out.below HB2.out) (by rw [HN.out]; omega)
      rw [HN.out, ← HOX.out] at h15
      go_wp2_with fail
      refine h15.mono ?_
      rintro e w3 ⟨⟨v9, rfl, ho⟩, hb⟩
      have HB3 := Lib.hid (HB2.out.trans (hb.mono HB2.out.size))
      have HO9 := Lib.hid ho
      have hx9 := sxs_own ho (by omega) HGX.out HB3.out
      obtain ⟨fa, fc, rfl, fq1, fq2, -⟩ := hx9.1.shape
      have HX9 := Lib.hid hx9
      have h12 := cliques2_any L _ round w3 (HS.out.below HB3.out) (by rw [HN.out]; omega)
      clear h15 ho hb hx9 HO9
      go_wp2_with fail
      refine h12.mono ?_
      rintro e w4 ⟨⟨vg, gs, rfl, hog, heg, hpg⟩, hb⟩
      have HB4 := Lib.hid (HB3.out.trans (hb.mono HB3.out.size))
      have hgs : gs.length ≤ 300 := by
        have h1 := clq_len [] (ofR L round L.length)
        have h2 := ofR_len L round L.length
        rw [← hpg] at h1
        simp at h1
        rw [HN.out] at h1 h2
        omega
      have hil : ∀ g ∈ gs, g.ids.length ≤ 300 := fun g hg => by
        have h1 := clq_sum [] (ofR L round L.length)
        rw [← hpg] at h1
        have h2 := List.countP_le_length (p := takes []) (l := ofR L round L.length)
        have h3 := ids_le hg
        have h4 := ofR_len L round L.length
        rw [HN.out] at h1 h2 h4
        omega
      have h17 := rcliques_any L _ round w4 (HS.out.below HB4.out) (by rw [HN.out]; omega)
      have HX9b := Lib.hid (HX9.out.below hb)
      have hrg := Rd.of_owns (enc := fun g : Gr => [g.v]) (fun _ => rfl) (by rw [flatV]; exact hog) (by omega)
      have hng : ∀ g ∈ gs, Ns w4 g.v g.ids := fun g hg => Rd.of_owns (encI_len _) (by rw [encI_flat]; exact heg g hg) (by have := hil g hg; omega)
      obtain ⟨ga, gc, rfl, -⟩ := owns_shape hog
      clear h12 hog heg hb HX9
      go_wp2_with fail
      refine h17.mono ?_
      rintro e w5 ⟨⟨vr, gs', rfl, hor, her, hpr⟩, hb⟩
      have HB5 := Lib.hid (HB4.out.trans (hb.mono HB4.out.size))
      have HX9c := Lib.hid (HX9b.out.below hb)
      have hpe : gs.map pg = gs'.map pg := by rw [hpg, hpr]
      have hln : gs'.length ≤ 300 := by have := congrArg List.length hpe; simp at this; omega
      have hil' : ∀ g ∈ gs', g.ids.length ≤ 300 := fun g hg => by
        have h1 : (pg g) ∈ gs.map pg := by rw [hpe]; exact List.mem_map.2 ⟨g, hg, rfl⟩
        obtain ⟨y, hy, hyg⟩ := List.mem_map.1 h1
        have := hil y hy
        have e : y.ids = g.ids := congrArg (·.2) hyg
        rw [← e]; exact this
      have h16 := eqRows_any gs gs' _ vr w5 (hrg.below hb) (Rd.of_owns (enc := fun g : Gr => [g.v]) (fun _ => rfl) (by rw [flatV]; exact hor) (by omega)) (fun g hg => (hng g hg).below hb)
        (fun g hg => Rd.of_owns (encI_len _) (by rw [encI_flat]; exact her g hg) (by have := hil' g hg; omega)) hpe
      obtain ⟨ra, rc, rfl, -⟩ := owns_shape hor
      clear h17 hor her hb HX9b hrg hng hpg hpr hpe hil hil' hln
      go_wp2_with fail
      refine h16.mono ?_
      rintro e w6 ⟨rfl, hb⟩
      have HB6 := Lib.hid (HB5.out.trans (hb.mono HB5.out.size))
      have HX := Lib.hid (HX9c.out.below hb)
      clear h16 hb HX9c
      have HRD : Hid (∀ W, Below w.heap.size w W → Calls Try.prog 14 #[.slice a n c, .int .i64 round] W fun e w' => e = .returned (.func (.func 31) #[] #[.pointer (some ⟨W.heap.size, 0, none⟩), .pointer (some ⟨W.heap.size + 1, 0, none⟩)]) ∧
        ∃ v', Blk w' W.heap.size 22 #[v'] ∧ Blk w' (W.heap.size + 1) 3 #[.int .i64 round] ∧ Snaps w' v' L ∧ Below W.heap.size W w') := fun W hW => (round_any L _ round W (HS.out.below hW) (by rw [HN.out]; omega)).mono fun e w' ⟨he, v', h1, h2, h3, h4⟩ => ⟨he, v', h1, h2, Rd.of_owns encS_len h3 (by rw [HN.out]; omega), h4⟩
      have HTO : Hid (∀ (m : Int) v' W D, Blk W D 22 #[v'] → Blk W (D + 1) 3 #[.int .i64 round] → Snaps W v' L → Calls Try.prog 13 #[.func (.func 31) #[] #[.pointer (some ⟨D, 0, none⟩), .pointer (some ⟨D + 1, 0, none⟩)], .int .i64 m] W (ToldPost (X.map Sx.s) m W)) := fun m v' W D h1 h2 h3 => by
        have := told_round L round m v' W D (by rw [HN.out]; omega) h1 h2 h3
        rwa [HN.out, ← HOX.out] at this
      have HAG : Hid (∀ W, Below w.heap.size w W → Calls Try.prog 10 #[.slice a n c, .slice ba bl bc] W (AgreePost (agreeS L but) W)) := fun W hW => agree_any L _ but _ W (HS.out.below hW) (by rw [HN.out]; omega) HI.out (HNS.out.below hW)
      have HRA : Hid (∀ W, Below w.heap.size w W → Calls Try.prog 21 #[.slice a n c, .slice ba bl bc] W (AgreePost (agreeS L but) W)) := fun W hW => ragree_any L _ but _ W (HS.out.below hW) (by rw [HN.out]; omega) (HNS.out.below hW)
      have HLA : Hid (∀ W, Below w.heap.size w W → Calls Try.prog 22 #[.slice a n c] W fun e w' => e = .returned (.int .i64 (lastS L)) ∧ Below W.heap.size W w') := fun W hW => last_any L _ W (HS.out.below hW) (by rw [HN.out]; omega)
      have HRL : Hid (∀ W, Below w.heap.size w W → Calls Try.prog 23 #[.slice a n c] W fun e w' => e = .returned (.int .i64 (lastS L)) ∧ w' = W) := fun W hW => rlast_any L _ W (HS.out.below hW) (by rw [HN.out]; omega)
      have HTK : Hid (X.take (999 : Int).toNat = X) := List.take_of_length_le (by simp; omega)
      have hMc : M ≤ fc := by omega
      have hMc2 : (M : Int) ≤ (fc : Int) := by omega
      have HXT : ∀ W, Sxs W (.slice fa X.length fc) X → Sxs W (.slice fa M fc) (X.take M) := fun W h => ⟨h.1.take M (by omega), fun y hy => h.2 y (List.mem_of_mem_take hy)⟩
      have HXT := Lib.hid HXT
      have HTL : Hid ((X.take M).length = M) := by show _ = _; rw [List.length_take]; omega
      generalize agreeS L but = ag at *
      generalize lastS L = ls at *
      generalize hxl' : X.length = xl at *
      have HXLN := Lib.hid hxl'
      clear hxl'
      go_upto_region 5 with fail
      replace HB6 := Lib.hid HB6.out.drew
      replace HX := Lib.hid (HX.out.below (Below.refl _ _).drew)
      refine wp_region_held_drew (S := fun _ => True) (by kernel_rfl) trivial (fun hHeld => ?_)
      (refine takeW (i := 0) (v := ?_) rfl (by kernel_rfl) (by kernel_rfl) (by kernel_rfl) (fun _ _ _ h => h) (by rfl) (by assumption) ?_ ?_; rotate_left; (intro W hW; (try dsimp only at hW); go_simp; try with_reducible rfl); (try simp only [Act.put, List.setIfInBounds_toArray, List.set_cons_zero, List.set_cons_succ]))
      (refine takeW (i := 1) (v := ?_) rfl (by kernel_rfl) (by kernel_rfl) (by kernel_rfl) (fun _ _ _ h => h) (by rfl) (by assumption) ?_ ?_; rotate_left; (intro W hW; (try dsimp only at hW); go_simp; try with_reducible rfl); (try simp only [Act.put, List.setIfInBounds_toArray, List.set_cons_zero, List.set_cons_succ]))
      (refine takeW (i := 4) (v := ?_) rfl (by kernel_rfl) (by kernel_rfl) (by kernel_rfl) (fun _ _ _ h => h) (by rfl) (by assumption) ?_ ?_; rotate_left; (intro W hW; (try dsimp only at hW); go_simp; try with_reducible rfl); (try simp only [Act.put, List.setIfInBounds_toArray, List.set_cons_zero, List.set_cons_succ]))
      refine takeC (i := 2) rfl (by kernel_rfl) (by rfl) (fun K hK => ?_)
      go_simp
      refine (HRD.out _ HB6.out).mono ?_
      rintro e W2 ⟨rfl, v', hD1, hD2, hS, hb⟩
      have HB2 := Lib.hid (HB6.out.trans (hb.mono HB6.out.size))
      replace HX := Lib.hid (HX.out.below hb)
      have h13 := HTO.out 999 v' W2 _ hD1 hD2 hS
      clear hb hD1 hD2 hS
      refine hK.out _ _ trivial (fun hHeld => ?_)
      clear hK K
      try simp only [Act.put, List.setIfInBounds_toArray, List.set_cons_zero, List.set_cons_succ]
      refine takeC (i := 3) rfl (by kernel_rfl) (by rfl) (fun K hK => ?_)
      go_simp
      refine (h13).mono ?_
      rintro e W3 ⟨⟨ov, rfl, ho⟩, hb⟩
      have HB3 := Lib.hid (HB2.out.trans (hb.mono HB2.out.size))
      replace HX := Lib.hid (HX.out.below hb)
      rw [← List.map_take, HTK.out] at ho
      have hsx := sxs_own ho (by first | (rw [HXLN.out]; omega) | (rw [List.length_take]; omega)) (fun y hy => HGX.out y (hy)) HB3.out
      obtain ⟨oa, oc, rfl, -⟩ := hsx.1.shape
      rw [HXLN.out] at hsx ⊢
      have HSX := Lib.hid hsx
      clear h13 ho hb hsx
      refine hK.out _ _ trivial (fun hHeld => ?_)
      clear hK K
      try simp only [Act.put, List.setIfInBounds_toArray, List.set_cons_zero, List.set_cons_succ]
      refine takeC (i := 5) rfl (by kernel_rfl) (by rfl) (fun K hK => ?_)
      go_simp
      refine (rsameL_any X X _ _ W3 HSX.out HX.out).mono ?_
      rintro e W5 ⟨rfl, hb⟩
      rw [sameL_refl]
      have HB5 := Lib.hid (HB3.out.trans (hb.mono HB3.out.size))
      replace HX := Lib.hid (HX.out.below hb)
      clear hb HSX
      refine hK.out _ _ trivial (fun hHeld => ?_)
      clear hK K
      try simp only [Act.put, List.setIfInBounds_toArray, List.set_cons_zero, List.set_cons_succ]
      (refine takeW (i := 6) (v := ?_) rfl (by kernel_rfl) (by kernel_rfl) (by kernel_rfl) (fun _ _ _ h => h) (by rfl) (by assumption) ?_ ?_; rotate_left; (intro W hW; (try dsimp only at hW); go_simp; try with_reducible rfl); (try simp only [Act.put, List.setIfInBounds_toArray, List.set_cons_zero, List.set_cons_succ]))
      first
        | (refine takeW (i := 7) (v := ?_) rfl (by kernel_rfl) (by kernel_rfl) (by kernel_rfl) (fun _ _ _ h => h) (by rfl) (by assumption) ?_ ?_; rotate_left; (intro W hW; (try dsimp only at hW); go_simp; try with_reducible rfl); (try simp only [Act.put, List.setIfInBounds_toArray, List.set_cons_zero, List.set_cons_succ]))
        | (refine takeU (i := 7) rfl (by kernel_rfl) (by kernel_rfl) (by kernel_rfl) (fun _ _ _ h => h) (by rfl) (by assumption) ?_; (try simp only [Act.put, List.setIfInBounds_toArray, List.set_cons_zero, List.set_cons_succ]))
      first
        | (refine takeW (i := 8) (v := ?_) rfl (by kernel_rfl) (by kernel_rfl) (by kernel_rfl) (fun _ _ _ h => h) (by rfl) (by assumption) ?_ ?_; rotate_left; (intro W hW; (try dsimp only at hW); go_simp; try with_reducible rfl); (try simp only [Act.put, List.setIfInBounds_toArray, List.set_cons_zero, List.set_cons_succ]))
        | (refine takeU (i := 8) rfl (by kernel_rfl) (by kernel_rfl) (by kernel_rfl) (fun _ _ _ h => h) (by rfl) (by assumption) ?_; (try simp only [Act.put, List.setIfInBounds_toArray, List.set_cons_zero, List.set_cons_succ]))
      first
        | (refine takeW (i := 10) (v := ?_) rfl (by kernel_rfl) (by kernel_rfl) (by kernel_rfl) (fun _ _ _ h => h) (by rfl) (by assumption) ?_ ?_; rotate_left; (intro W hW; (try dsimp only at hW); go_simp; try with_reducible rfl); (try simp only [Act.put, List.setIfInBounds_toArray, List.set_cons_zero, List.set_cons_succ]))
        | (refine takeU (i := 10) rfl (by kernel_rfl) (by kernel_rfl) (by kernel_rfl) (fun _ _ _ h => h) (by rfl) (by assumption) ?_; (try simp only [Act.put, List.setIfInBounds_toArray, List.set_cons_zero, List.set_cons_succ]))
      first
        | (refine takeW (i := 11) (v := ?_) rfl (by kernel_rfl) (by kernel_rfl) (by kernel_rfl) (fun _ _ _ h => h) (by rfl) (by assumption) ?_ ?_; rotate_left; (intro W hW; (try dsimp only at hW); go_simp; try with_reducible rfl); (try simp only [Act.put, List.setIfInBounds_toArray, List.set_cons_zero, List.set_cons_succ]))
        | (refine takeU (i := 11) rfl (by kernel_rfl) (by kernel_rfl) (by kernel_rfl) (fun _ _ _ h => h) (by rfl) (by assumption) ?_; (try simp only [Act.put, List.setIfInBounds_toArray, List.set_cons_zero, List.set_cons_succ]))
      first
        | (refine takeW (i := 13) (v := ?_) rfl (by kernel_rfl) (by kernel_rfl) (by kernel_rfl) (fun _ _ _ h => h) (by rfl) (by assumption) ?_ ?_; rotate_left; (intro W hW; (try dsimp only at hW); go_simp; try with_reducible rfl); (try simp only [Act.put, List.setIfInBounds_toArray, List.set_cons_zero, List.set_cons_succ]))
        | (refine takeU (i := 13) rfl (by kernel_rfl) (by kernel_rfl) (by kernel_rfl) (fun _ _ _ h => h) (by rfl) (by assumption) ?_; (try simp only [Act.put, List.setIfInBounds_toArray, List.set_cons_zero, List.set_cons_succ]))
      first
        | (refine takeW (i := 14) (v := ?_) rfl (by kernel_rfl) (by kernel_rfl) (by kernel_rfl) (fun _ _ _ h => h) (by rfl) (by assumption) ?_ ?_; rotate_left; (intro W hW; (try dsimp only at hW); go_simp; try with_reducible rfl); (try simp only [Act.put, List.setIfInBounds_toArray, List.set_cons_zero, List.set_cons_succ]))
        | (refine takeU (i := 14) rfl (by kernel_rfl) (by kernel_rfl) (by kernel_rfl) (fun _ _ _ h => h) (by rfl) (by assumption) ?_; (try simp only [Act.put, List.setIfInBounds_toArray, List.set_cons_zero, List.set_cons_succ]))
      first
        | (refine takeW (i := 15) (v := ?_) rfl (by kernel_rfl) (by kernel_rfl) (by kernel_rfl) (fun _ _ _ h => h) (by rfl) (by assumption) ?_ ?_; rotate_left; (intro W hW; (try dsimp only at hW); go_simp; try with_reducible rfl); (try simp only [Act.put, List.setIfInBounds_toArray, List.set_cons_zero, List.set_cons_succ]))
        | (refine takeU (i := 15) rfl (by kernel_rfl) (by kernel_rfl) (by kernel_rfl) (fun _ _ _ h => h) (by rfl) (by assumption) ?_; (try simp only [Act.put, List.setIfInBounds_toArray, List.set_cons_zero, List.set_cons_succ]))
      first
        | (refine takeW (i := 16) (v := ?_) rfl (by kernel_rfl) (by kernel_rfl) (by kernel_rfl) (fun _ _ _ h => h) (by rfl) (by assumption) ?_ ?_; rotate_left; (intro W hW; (try dsimp only at hW); go_simp; try with_reducible rfl); (try simp only [Act.put, List.setIfInBounds_toArray, List.set_cons_zero, List.set_cons_succ]))
        | (refine takeU (i := 16) rfl (by kernel_rfl) (by kernel_rfl) (by kernel_rfl) (fun _ _ _ h => h) (by rfl) (by assumption) ?_; (try simp only [Act.put, List.setIfInBounds_toArray, List.set_cons_zero, List.set_cons_succ]))
      first
        | (refine takeW (i := 17) (v := ?_) rfl (by kernel_rfl) (by kernel_rfl) (by kernel_rfl) (fun _ _ _ h => h) (by rfl) (by assumption) ?_ ?_; rotate_left; (intro W hW; (try dsimp only at hW); go_simp; try with_reducible rfl); (try simp only [Act.put, List.setIfInBounds_toArray, List.set_cons_zero, List.set_cons_succ]))
        | (refine takeU (i := 17) rfl (by kernel_rfl) (by kernel_rfl) (by kernel_rfl) (fun _ _ _ h => h) (by rfl) (by assumption) ?_; (try simp only [Act.put, List.setIfInBounds_toArray, List.set_cons_zero, List.set_cons_succ]))
      (refine takeW (i := 18) rfl (by kernel_rfl) (by kernel_rfl) (by kernel_rfl) (fun _ _ _ h => h) (by rfl) (by assumption) (fun W hW => exec_min' HM.out rfl rfl rfl) ?_; (try simp only [Act.put, List.setIfInBounds_toArray, List.set_cons_zero, List.set_cons_succ]))
      first
        | (refine takeW (i := 19) (v := ?_) rfl (by kernel_rfl) (by kernel_rfl) (by kernel_rfl) (fun _ _ _ h => h) (by rfl) (by assumption) ?_ ?_; rotate_left; (intro W hW; (try dsimp only at hW); go_simp; try with_reducible rfl); (try simp only [Act.put, List.setIfInBounds_toArray, List.set_cons_zero, List.set_cons_succ]))
        | (refine takeU (i := 19) rfl (by kernel_rfl) (by kernel_rfl) (by kernel_rfl) (fun _ _ _ h => h) (by rfl) (by assumption) ?_; (try simp only [Act.put, List.setIfInBounds_toArray, List.set_cons_zero, List.set_cons_succ]))
      refine takeC (i := 9) rfl (by kernel_rfl) (by rfl) (fun K hK => ?_)
      go_simp
      refine (HRD.out _ HB5.out).mono ?_
      rintro e W9 ⟨rfl, v', hD1, hD2, hS, hb⟩
      have HB9 := Lib.hid (HB5.out.trans (hb.mono HB5.out.size))
      replace HX := Lib.hid (HX.out.below hb)
      have h13 := HTO.out most v' W9 _ hD1 hD2 hS
      clear hb hD1 hD2 hS
      refine hK.out _ _ trivial (fun hHeld => ?_)
      clear hK K
      try simp only [Act.put, List.setIfInBounds_toArray, List.set_cons_zero, List.set_cons_succ]
      refine takeC (i := 12) rfl (by kernel_rfl) (by rfl) (fun K hK => ?_)
      go_simp
      refine (h13).mono ?_
      rintro e W12 ⟨⟨ov, rfl, ho⟩, hb⟩
      have HB12 := Lib.hid (HB9.out.trans (hb.mono HB9.out.size))
      replace HX := Lib.hid (HX.out.below hb)
      rw [← List.map_take, HTM.out] at ho
      have hsx := sxs_own ho (by first | (rw [HXLN.out]; omega) | (rw [List.length_take]; omega)) (fun y hy => HGX.out y (List.mem_of_mem_take hy)) HB12.out
      obtain ⟨oa, oc, rfl, -⟩ := hsx.1.shape
      rw [HTL.out] at hsx ⊢
      have HSX := Lib.hid hsx
      clear h13 ho hb hsx
      refine hK.out _ _ trivial (fun hHeld => ?_)
      clear hK K
      try simp only [Act.put, List.setIfInBounds_toArray, List.set_cons_zero, List.set_cons_succ]
      refine takeC (i := 20) rfl (by kernel_rfl) (by rfl) (fun K hK => ?_)
      go_simp
      refine (rsameL_any (X.take M) (X.take M) _ _ W12 HSX.out (HXT.out W12 HX.out)).mono ?_
      rintro e W20 ⟨rfl, hb⟩
      rw [sameL_refl]
      have HB20 := Lib.hid (HB12.out.trans (hb.mono HB12.out.size))
      clear hb HSX
      refine hK.out _ _ trivial (fun hHeld => ?_)
      clear hK K
      try simp only [Act.put, List.setIfInBounds_toArray, List.set_cons_zero, List.set_cons_succ]
      (refine takeW (i := 21) (v := ?_) rfl (by kernel_rfl) (by kernel_rfl) (by kernel_rfl) (fun _ _ _ h => h) (by rfl) (by assumption) ?_ ?_; rotate_left; (intro W hW; (try dsimp only at hW); go_simp; try with_reducible rfl); (try simp only [Act.put, List.setIfInBounds_toArray, List.set_cons_zero, List.set_cons_succ]))
      (refine takeW (i := 22) (v := ?_) rfl (by kernel_rfl) (by kernel_rfl) (by kernel_rfl) (fun _ _ _ h => h) (by rfl) (by assumption) ?_ ?_; rotate_left; (intro W hW; (try dsimp only at hW); go_simp; try with_reducible rfl); (try simp only [Act.put, List.setIfInBounds_toArray, List.set_cons_zero, List.set_cons_succ]))
      first
        | (refine takeW (i := 23) (v := ?_) rfl (by kernel_rfl) (by kernel_rfl) (by kernel_rfl) (fun _ _ _ h => h) (by rfl) (by assumption) ?_ ?_; rotate_left; (intro W hW; (try dsimp only at hW); go_simp; try with_reducible rfl); (try simp only [Act.put, List.setIfInBounds_toArray, List.set_cons_zero, List.set_cons_succ]))
        | (refine takeU (i := 23) rfl (by kernel_rfl) (by kernel_rfl) (by kernel_rfl) (fun _ _ _ h => h) (by rfl) (by assumption) ?_; (try simp only [Act.put, List.setIfInBounds_toArray, List.set_cons_zero, List.set_cons_succ]))
      (refine takeW (i := 24) (v := ?_) rfl (by kernel_rfl) (by kernel_rfl) (by kernel_rfl) (fun _ _ _ h => h) (by rfl) (by assumption) ?_ ?_; rotate_left; (intro W hW; (try dsimp only at hW); go_simp; try with_reducible rfl); (try simp only [Act.put, List.setIfInBounds_toArray, List.set_cons_zero, List.set_cons_succ]))
      (refine takeW (i := 25) (v := ?_) rfl (by kernel_rfl) (by kernel_rfl) (by kernel_rfl) (fun _ _ _ h => h) (by rfl) (by assumption) ?_ ?_; rotate_left; (intro W hW; (try dsimp only at hW); go_simp; try with_reducible rfl); (try simp only [Act.put, List.setIfInBounds_toArray, List.set_cons_zero, List.set_cons_succ]))
      first
        | (refine takeW (i := 26) (v := ?_) rfl (by kernel_rfl) (by kernel_rfl) (by kernel_rfl) (fun _ _ _ h => h) (by rfl) (by assumption) ?_ ?_; rotate_left; (intro W hW; (try dsimp only at hW); go_simp; try with_reducible rfl); (try simp only [Act.put, List.setIfInBounds_toArray, List.set_cons_zero, List.set_cons_succ]))
        | (refine takeU (i := 26) rfl (by kernel_rfl) (by kernel_rfl) (by kernel_rfl) (fun _ _ _ h => h) (by rfl) (by assumption) ?_; (try simp only [Act.put, List.setIfInBounds_toArray, List.set_cons_zero, List.set_cons_succ]))
      first
        | (refine takeW (i := 27) (v := ?_) rfl (by kernel_rfl) (by kernel_rfl) (by kernel_rfl) (fun _ _ _ h => h) (by rfl) (by assumption) ?_ ?_; rotate_left; (intro W hW; (try dsimp only at hW); go_simp; try with_reducible rfl); (try simp only [Act.put, List.setIfInBounds_toArray, List.set_cons_zero, List.set_cons_succ]))
        | (refine takeU (i := 27) rfl (by kernel_rfl) (by kernel_rfl) (by kernel_rfl) (fun _ _ _ h => h) (by rfl) (by assumption) ?_; (try simp only [Act.put, List.setIfInBounds_toArray, List.set_cons_zero, List.set_cons_succ]))
      first
        | (refine takeW (i := 29) (v := ?_) rfl (by kernel_rfl) (by kernel_rfl) (by kernel_rfl) (fun _ _ _ h => h) (by rfl) (by assumption) ?_ ?_; rotate_left; (intro W hW; (try dsimp only at hW); go_simp; try with_reducible rfl); (try simp only [Act.put, List.setIfInBounds_toArray, List.set_cons_zero, List.set_cons_succ]))
        | (refine takeU (i := 29) rfl (by kernel_rfl) (by kernel_rfl) (by kernel_rfl) (fun _ _ _ h => h) (by rfl) (by assumption) ?_; (try simp only [Act.put, List.setIfInBounds_toArray, List.set_cons_zero, List.set_cons_succ]))
      first
        | (refine takeW (i := 30) (v := ?_) rfl (by kernel_rfl) (by kernel_rfl) (by kernel_rfl) (fun _ _ _ h => h) (by rfl) (by assumption) ?_ ?_; rotate_left; (intro W hW; (try dsimp only at hW); go_simp; try with_reducible rfl); (try simp only [Act.put, List.setIfInBounds_toArray, List.set_cons_zero, List.set_cons_succ]))
        | (refine takeU (i := 30) rfl (by kernel_rfl) (by kernel_rfl) (by kernel_rfl) (fun _ _ _ h => h) (by rfl) (by assumption) ?_; (try simp only [Act.put, List.setIfInBounds_toArray, List.set_cons_zero, List.set_cons_succ]))
      refine takeC (i := 28) rfl (by kernel_rfl) (by rfl) (fun K hK => ?_)
      go_simp
      refine (HAG.out _ HB20.out).mono ?_
      rintro e W28 ⟨rfl, hb⟩
      have HB28 := Lib.hid (HB20.out.trans (hb.mono HB20.out.size))
      clear hb
      refine hK.out _ _ trivial (fun hHeld => ?_)
      clear hK K
      try simp only [Act.put, List.setIfInBounds_toArray, List.set_cons_zero, List.set_cons_succ]
      refine takeC (i := 31) rfl (by kernel_rfl) (by rfl) (fun K hK => ?_)
      go_simp
      refine (HRA.out _ HB28.out).mono ?_
      rintro e W31 ⟨rfl, hb⟩
      have HB31 := Lib.hid (HB28.out.trans (hb.mono HB28.out.size))
      clear hb
      refine hK.out _ _ trivial (fun hHeld => ?_)
      clear hK K
      try simp only [Act.put, List.setIfInBounds_toArray, List.set_cons_zero, List.set_cons_succ]
      (refine takeW (i := 32) rfl (by kernel_rfl) (by kernel_rfl) (by kernel_rfl) (fun _ _ _ h => h) (by rfl) (by assumption) (fun W hW => exec_eqB rfl rfl rfl) ?_; (try simp only [Act.put, List.setIfInBounds_toArray, List.set_cons_zero, List.set_cons_succ]))
      (refine takeW (i := 33) (v := ?_) rfl (by kernel_rfl) (by kernel_rfl) (by kernel_rfl) (fun _ _ _ h => h) (by rfl) (by assumption) ?_ ?_; rotate_left; (intro W hW; (try dsimp only at hW); go_simp; try with_reducible rfl); (try simp only [Act.put, List.setIfInBounds_toArray, List.set_cons_zero, List.set_cons_succ]))
      (refine takeW (i := 34) (v := ?_) rfl (by kernel_rfl) (by kernel_rfl) (by kernel_rfl) (fun _ _ _ h => h) (by rfl) (by assumption) ?_ ?_; rotate_left; (intro W hW; (try dsimp only at hW); go_simp; try with_reducible rfl); (try simp only [Act.put, List.setIfInBounds_toArray, List.set_cons_zero, List.set_cons_succ]))
      first
        | (refine takeW (i := 35) (v := ?_) rfl (by kernel_rfl) (by kernel_rfl) (by kernel_rfl) (fun _ _ _ h => h) (by rfl) (by assumption) ?_ ?_; rotate_left; (intro W hW; (try dsimp only at hW); go_simp; try with_reducible rfl); (try simp only [Act.put, List.setIfInBounds_toArray, List.set_cons_zero, List.set_cons_succ]))
        | (refine takeU (i := 35) rfl (by kernel_rfl) (by kernel_rfl) (by kernel_rfl) (fun _ _ _ h => h) (by rfl) (by assumption) ?_; (try simp only [Act.put, List.setIfInBounds_toArray, List.set_cons_zero, List.set_cons_succ]))
      first
        | (refine takeW (i := 37) (v := ?_) rfl (by kernel_rfl) (by kernel_rfl) (by kernel_rfl) (fun _ _ _ h => h) (by rfl) (by assumption) ?_ ?_; rotate_left; (intro W hW; (try dsimp only at hW); go_simp; try with_reducible rfl); (try simp only [Act.put, List.setIfInBounds_toArray, List.set_cons_zero, List.set_cons_succ]))
        | (refine takeU (i := 37) rfl (by kernel_rfl) (by kernel_rfl) (by kernel_rfl) (fun _ _ _ h => h) (by rfl) (by assumption) ?_; (try simp only [Act.put, List.setIfInBounds_toArray, List.set_cons_zero, List.set_cons_succ]))
      refine takeC (i := 36) rfl (by kernel_rfl) (by rfl) (fun K hK => ?_)
      go_simp
      refine (HLA.out _ HB31.out).mono ?_
      rintro e W36 ⟨rfl, hb⟩
      have HB36 := Lib.hid (HB31.out.trans (hb.mono HB31.out.size))
      clear hb
      refine hK.out _ _ trivial (fun hHeld => ?_)
      clear hK K
      try simp only [Act.put, List.setIfInBounds_toArray, List.set_cons_zero, List.set_cons_succ]
      refine takeC (i := 38) rfl (by kernel_rfl) (by rfl) (fun K hK => ?_)
      go_simp
      refine (HRL.out _ HB36.out).mono ?_
      rintro e w' ⟨rfl, hw⟩
      have hw := hw.symm
      subst hw
      refine hK.out _ _ trivial (fun hHeld => ?_)
      clear hK K
      try simp only [Act.put, List.setIfInBounds_toArray, List.set_cons_zero, List.set_cons_succ]
      (refine takeW (i := 39) rfl (by kernel_rfl) (by kernel_rfl) (by kernel_rfl) (fun _ _ _ h => h) (by rfl) (by assumption) (fun W hW => exec_eqI rfl rfl rfl) ?_; (try simp only [Act.put, List.setIfInBounds_toArray, List.set_cons_zero, List.set_cons_succ]))
      (refine takeW (i := 40) (v := ?_) rfl (by kernel_rfl) (by kernel_rfl) (by kernel_rfl) (fun _ _ _ h => h) (by rfl) (by assumption) ?_ ?_; rotate_left; (intro W hW; (try dsimp only at hW); go_simp; try with_reducible rfl); (try simp only [Act.put, List.setIfInBounds_toArray, List.set_cons_zero, List.set_cons_succ]))
      (refine takeW (i := 41) (v := ?_) rfl (by kernel_rfl) (by kernel_rfl) (by kernel_rfl) (fun _ _ _ h => h) (by rfl) (by assumption) ?_ ?_; rotate_left; (intro W hW; (try dsimp only at hW); go_simp; try with_reducible rfl); (try simp only [Act.put, List.setIfInBounds_toArray, List.set_cons_zero, List.set_cons_succ]))
      refine wpAnyH_done (by kernel_rfl) ?_ _
      go_wp2
      go_ret
      exact HPO.out _ HB36.out
    · have hd : decide (60 < (bl : Int)) = true := decide_eq_true (by omega)
      have hd2 : decide (60 < bl) = true := decide_eq_true (by omega)
      go_wp2_with (go_at_call 8; refine (HBG.out _).mono ?_; rintro e w3 ⟨rfl, hb⟩; have HB3 := Lib.hid (HB2.out.trans (hb.mono HB2.out.size)); clear hb)
      go_ret
      exact HPO.out _ HB3.out
end Go.Proofs.Ytjaaldeaknmmbaa
