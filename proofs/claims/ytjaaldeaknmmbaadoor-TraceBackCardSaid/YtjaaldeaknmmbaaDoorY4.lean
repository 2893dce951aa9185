/- The document's text of snaps. -/
import Derived.Test.YtjaaldeaknmmbaaDoorY3
namespace Go.Proofs.YtjaaldeaknmmbaaDoor
open Go.RowKit Go.Shelf

theorem flat_max {α : Type} (f : α → List UInt8) (n : Nat) : ∀ l : List α, (∀ x ∈ l, (f x).length ≤ n) → (l.flatMap f).length ≤ n * l.length
  | [], _ => by simp
  | x :: l, h => by
    have h1 := h x (by simp)
    have h2 := flat_max f n l (fun y hy => h y (by simp [hy]))
    simp only [List.flatMap_cons, List.length_append, List.length_cons, Nat.mul_add, Nat.mul_one]
    omega
theorem GoodX.fits {W : World} {x : Sx} (h : GoodX W x) (hs : Small x) : x.k.Fits := by
  have hI := h.ints
  simp only [Sn.ints, List.mem_cons, List.not_mem_nil, or_false, forall_eq_or_imp, forall_eq, I64] at hI
  refine ⟨?_, fun m hm => ?_, ?_⟩
  · simp only [Sk.ints, Sx.k, List.mem_cons, List.not_mem_nil, or_false, forall_eq_or_imp, forall_eq, inI]
    obtain ⟨h1, h2, h3, h4, h5, h6, h7, h8, h9, h10, h11, h12, h13, h14, h15, h16, h17, h18, h19, h20⟩ := hI
    exact ⟨h1, h2, h3, h16, h17, h4, h5, h6, h7, h8, h9, h10, h11, h12, h13, h14, h15, h18, h19, h20⟩
  · obtain ⟨y, hy, rfl⟩ := List.mem_map.1 hm
    exact (h.each y hy).2
  · have := hs.2.1
    show inI ((x.ms.map Mx.k).length : Int)
    simp only [List.length_map]
    unfold inI
    omega
theorem oneT_max {W : World} {x : Sx} (hx : GoodX W x) (hs : Small x) : (oneT x.k).length ≤ 600000 := by
  have hI := (hx.fits hs).ints
  simp only [Sk.ints, Sx.k, List.mem_cons, List.not_mem_nil, or_false, forall_eq_or_imp, forall_eq] at hI
  obtain ⟨h1, h2, h3, h16, h17, h4, h5, h6, h7, h8, h9, h10, h11, h12, h13, h14, h15, h18, h19, h20⟩ := hI
  have hbit : inI (bitZ x.s.bg) := by unfold inI bitZ; cases x.s.bg <;> simp
  have e1 := joinB_len wSnap [x.s.r, x.s.i, x.s.s, x.s.tm, bitZ x.s.bg, x.s.su] (by simp only [List.mem_cons, List.not_mem_nil, or_false, forall_eq_or_imp, forall_eq]; exact ⟨h1, h2, h3, h16, hbit, h17⟩)
  have e2 := joinB_len wState [x.s.t1, x.s.t2, x.s.t3, x.s.t4, x.s.t5] (by simp only [List.mem_cons, List.not_mem_nil, or_false, forall_eq_or_imp, forall_eq]; exact ⟨h4, h5, h6, h7, h8⟩)
  have e3 := joinB_len wView [x.s.m1, x.s.m2, x.s.m3, x.s.m4, x.s.m5, x.s.m6, x.s.m7] (by simp only [List.mem_cons, List.not_mem_nil, or_false, forall_eq_or_imp, forall_eq]; exact ⟨h9, h10, h11, h12, h13, h14, h15⟩)
  have e4 := joinB_len wHost [x.s.hi, x.s.lf, x.s.wt] (by simp only [List.mem_cons, List.not_mem_nil, or_false, forall_eq_or_imp, forall_eq]; exact ⟨h18, h19, h20⟩)
  have e5 : (hexW (bytesOf x.out)).length ≤ 10001 := by rw [hexW_len]; unfold bytesOf; have := hs.1; simp; omega
  have e6 : (decZ (x.ms.length : Int)).length ≤ 20 := decZ_len (by omega) (by have := hs.2.1; omega)
  have e7 : ((x.ms.map Mx.k).flatMap inW).length ≤ 10100 * x.ms.length := by
    rw [List.flatMap_map]
    refine flat_max _ _ _ fun m hm => ?_
    rw [← in_text]
    have f1 := joinB_len wIn [m.age] (by simpa using (show inI m.age from (hx.each m hm).2))
    have f2 : (hexW (bytesOf m.d.l)).length ≤ 10001 := by rw [hexW_len]; unfold bytesOf; have := hs.2.2 m hm; simp; omega
    have f3 : wIn.length = 2 := rfl
    simp only [List.length_append, List.length_cons, List.length_nil] at f1 ⊢
    omega
  have e8 := hs.2.1
  have g1 : wSnap.length = 4 := rfl
  have g2 : wState.length = 5 := rfl
  have g3 : wView.length = 4 := rfl
  have g4 : wHost.length = 4 := rfl
  rw [← one_text]
  simp only [List.length_append, List.length_cons, List.length_nil] at e1 e2 e3 e4 ⊢
  omega
set_option maxRecDepth 100000 in
set_option maxHeartbeats 1600000 in
theorem rprint_any (l : List Sx) (v : Value) (w : World) (h : Sxs w v l) (hs : ∀ x ∈ l, Small x) (hl : l.length ≤ 300) : Calls Tryd.prog 10 #[v] w fun e w' => e = .returned (strV (printT (l.map Sx.k))) ∧ Below w.heap.size w w' := by
  have HPO : Hid (∀ (w' : World) (t : List UInt8), Below w.heap.size w w' → t = printT (l.map Sx.k) → (fun e w' => e = Ending.returned (strV (printT (l.map Sx.k))) ∧ Below w.heap.size w w') (.returned (strV t)) w') := fun w' t h1 h2 => by subst h2; exact ⟨rfl, h1⟩
  generalize (fun e w' => e = Ending.returned (strV (printT (l.map Sx.k))) ∧ Below w.heap.size w w') = POST at *
  obtain ⟨ba, bc, rfl, hbc, hbcm, -⟩ := h.1.shape
  obtain ⟨q, hq⟩ : ∃ q, q = l.length := ⟨_, rfl⟩
  rw [← hq] at hbc hl ⊢
  have HB := Lib.hid h
  rw [← hq] at HB
  have HQ := Lib.hid hq
  have HS := Lib.hid hs
  clear h hq hs
  go_enter Tryd.func10, Tryd.ntmps10
  go_wp2
  go_loopw [3, 4] (fun u i wr => ∃ (k : Nat) (acc : List UInt8), k ≤ q ∧ i = .int .i64 k ∧ Hid (acc = printT ((l.take k).map Sx.k)) ∧ Hid (acc.length ≤ 600000 * k) ∧ Hid (OwT wr w.heap.size u acc) ∧ Hid (Below w.heap.size w wr)) (fun _ i _ => q - (intOf i).toNat)
  case atStart => exact ⟨0, [], Nat.zero_le _, rfl, Lib.hid (by simp [printT]), Lib.hid (by simp), OwT.nil _ _, Below.refl _ _⟩
  case round =>
    obtain ⟨k, acc, hk, rfl, HA, HAL, HO, HW⟩ := hrel
    obtain ⟨wo, rfl⟩ : ∃ wo : World, wo = wr := ⟨_, rfl⟩
    obtain ⟨av, ac0, rfl⟩ := HO.out.shape
    by_cases hlt : k < q
    · obtain ⟨x, hxk⟩ : ∃ x, l[k]? = some x := ⟨_, List.getElem?_eq_getElem (by rw [← HQ.out]; exact hlt)⟩
      obtain ⟨bb, off, hba, hbl, hc⟩ := HB.out.1.row (by rintro rfl; simp at hxk)
      subst hba
      have HC := Lib.hid (sx_at HB.out HW.out rfl hxk)
      have HG := Lib.hid ((HB.out.2 x (List.mem_of_getElem? hxk)).below HW.out)
      have HSM := Lib.hid (HS.out x (List.mem_of_getElem? hxk))
      have HLX := Lib.hid (oneT_max HG.out HSM.out)
      have HA2 : Hid (acc ++ oneT x.k = printT ((l.take (k + 1)).map Sx.k)) := by
        show _ = _
        obtain ⟨hk1, e⟩ := List.getElem?_eq_some_iff.1 hxk
        rw [HA.out, List.take_succ_eq_append_getElem hk1, e]
        simp [printT]
      have hal := HAL.out
      clear hc hxk HA HAL
      go_wp2_with ((with_reducible show wpList _ _ _ (Oper.mk (some 15) _ _ _ _ _ :: _) _ _); refine wpList_loadW W41 rfl rfl (x := .tmp 14) rfl (encS x.s) rfl HC.out ?_)
      refine (rone_any x wo HG.out HSM.out).mono ?_
      rintro e w1 ⟨rfl, hb1⟩
      have HO1 := Lib.hid (HO.out.below hb1)
      have HW1 := Lib.hid (HW.out.trans (hb1.mono HW.out.size))
      clear hb1 HG HSM HC HO HW
      generalize oneT x.k = tx at *
      go_wp2_with ((with_reducible show wpList _ _ _ (Oper.mk (some 17) _ _ _ _ _ :: _) _ _); refine wpList_ex rfl (exec_appT (y := tx) rfl rfl rfl HO1.out (by have := HLX.out; omega) HW1.out.size) ?_; rintro v2 W2 ⟨ho2, hg2⟩; have HO2 := Lib.hid ho2; have HW2 := Lib.hid (HW1.out.grown hg2 HW1.out.size (fun k hk => (HO1.out.lt k hk).1)); clear ho2 hg2)
      go_roundw
      case rel => exact ⟨k + 1, acc ++ tx, by omega, by go_num, HA2, Lib.hid (by have := HLX.out; simp; omega), HO2, HW2⟩
      case measure => simp [intOf]; omega
    · obtain rfl : k = q := by omega
      have HF : Hid (acc = printT (l.map Sx.k)) := by
        have := HA.out
        rwa [List.take_of_length_le (by rw [← HQ.out]; exact Nat.le_refl _)] at this
      clear HA HAL
      go_wp2_with ((with_reducible show wpList _ _ _ (Oper.mk (some 19) _ _ _ _ _ :: _) _ _); refine wpList_val rfl (exec_ofB rfl rfl HO.out) ?_)
      exact HPO.out _ _ HW.out HF.out
end Go.Proofs.YtjaaldeaknmmbaaDoor
