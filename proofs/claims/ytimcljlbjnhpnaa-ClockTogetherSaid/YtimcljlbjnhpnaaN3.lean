/- Contracts: own, Correct of clocks, of the program and of the document. -/
import Derived.Test.YtimcljlbjnhpnaaN2
namespace Go.Proofs.Ytimcljlbjnhpnaa
open Go.RowKit Go.Shelf
open Md

/-- 'make([]T, n, m)'. -/
theorem wpList_make_cap {P : Program} {w : World} {ops : Array Oper} {rest : List Oper} {o : Oper} {a : Act} {Q : Exit → Act → World → Prop} {base : Nat} {t e : TypeId} {z : Value} {size bytes : Nat} (E : Elem P t e z size bytes)
    (hgd : o.guard = none) (l c : Operand) (ho : o.op = Op.makeSlice t l c) {kl kc : IntKind} {L C : Int} {n m : Nat} (hl : a.eval l = .int kl L) (hc : a.eval c = .int kc C) (hL : L = (n : Int)) (hC : C = (m : Int)) (hnm : n ≤ m) (hby : m * bytes ≤ 140737488355328) (hbase : base ≤ w.heap.size)
    (h : ∀ xs w', w'.ownsRow base e size (.slice (some ⟨w.heap.size, 0, none⟩) n m) n xs → w.grownBy w' none → wpList P ops Q rest (a.put o.dst (.slice (some ⟨w.heap.size, 0, none⟩) n m)) w') : wpList P ops Q (o :: rest) a w := by
  refine wpList_plain hgd fun K hK' => ?_
  obtain ⟨i, hi, hz, hs, hb⟩ := info_parts E.info
  have hm1 : m ≤ m * bytes := Nat.le_mul_of_pos_right _ E.byt
  have hr := run_make (P := P) w t e i z E.under hi hz kl kc (n : Int) (m : Int) (by omega) (by omega) (by
    rw [hb]
    have : ((bytes * m : Nat) : Int) ≤ 281474976710656 := by rw [Nat.mul_comm]; omega
    rwa [Int.natCast_mul] at this) (by omega)
  simp only [Int.toNat_natCast] at hr
  subst hL hC hs
  unfold Oper.wp
  simp [execOp, ho, hl, hc, hr, Result.andThen]
  refine hK' _ _ (h ((madeCells z.cells (m * i.size)).toList.take (n * i.size)) _ ⟨?_, .inr ⟨w.heap.size, m, _, rfl, hbase, World.alloc_heap_new w _, hnm, by unfold maxLen; omega, size_madeCells _ _, rfl⟩⟩ (World.grownBy_alloc w _ none))
  rw [List.length_take, Array.length_toList, size_madeCells]
  exact Nat.min_eq_left (Nat.mul_le_mul_right _ hnm)

set_option maxRecDepth 100000 in
theorem own_any (l : List Int) (v : Value) (more : Nat) (w : World) (hm : more ≤ 1) (hl : l.length ≤ 64) (h : Ints w v l) :
    Calls Try.prog 33 #[v, .int .i64 (more : Int)] w fun e w' => (∃ a c, e = .returned (.slice a l.length c) ∧ w'.ownsRow w.heap.size 2 1 (.slice a l.length c) l.length (l.map (.int .i64))) ∧ Below w.heap.size w w' := by
  have hlen := h.len
  have HI := Lib.hid h
  obtain ⟨a, c, rfl, _⟩ := h.shape
  clear h
  go_enter Try.func33, Try.ntmps33
  go_wp2_with (first
    | (at_make; refine wpList_make_cap E22 rfl _ _ rfl (base := w.heap.size) (n := l.length) (m := l.length + more) rfl rfl rfl (by omega) (by omega) (by omega) (Nat.le_refl _) ?_; intro xs w2 ho hg; have HO := Lib.hid ho; have HB := Lib.hid ((Below.refl w.heap.size w).grown hg (Nat.le_refl _) (by intro k hk; cases hk)); clear ho hg)
    | (refine wpList_copy_full E22 rfl _ _ rfl HO.out (HI.out.below HB.out).src rfl rfl ?_; intro w3 ho3 hg3; have HO3 := Lib.hid ho3; have HB3 := Lib.hid (below_app HB.out (Nat.le_refl _) HO.out hg3 HB.out.size); clear ho3 hg3))
  go_ret
  exact ⟨⟨_, _, rfl, HO3.out⟩, HB3.out⟩
def corV (m : Me) (c : Ck) : Int × Int := if errC m c = 0 then Fta.mid (0 :: c.dl) else (0, errC m c)

set_option maxRecDepth 100000 in
set_option maxHeartbeats 6400000 in
theorem correct_any (m : Me) (c : Ck) (w : World) (h : GoodMe w m) (hc : GoodCk w c) :
    Calls Try.prog 9 #[mev m, clv c] w fun e w' => e = .returned (.tuple #[.int .i64 (corV m c).1, .int .i64 (corV m c).2]) ∧ Below w.heap.size w w' := by
  have HV : Hid (corV m c = if errC m c = 0 then Fta.mid (0 :: c.dl) else (0, errC m c)) := rfl
  have HCI := Lib.hid hc.1
  have HBD := Lib.hid hc.1.bd
  generalize corV _ _ = v at *
  have hcc : ∀ W, Below w.heap.size w W → _ := fun W hW => ccheck_any m c W (h.below hW) (hc.below hW)
  have HOK := Lib.hid (@errC_ok m c)
  obtain ⟨nodes, slot, gap, win, drift, delay, ⟨ca, cc, cl⟩, ma, mc, ml⟩ := m
  obtain ⟨st, sl, da, dc, dl⟩ := c
  unfold mev clv at *
  simp only at *
  generalize hec : errC _ _ = ec at *
  have HEC := Lib.hid hec
  clear hec
  have HJ : Hid (Blk ((w.alloc (.cells #[.int .i64 nodes, .int .i64 slot, .int .i64 gap, .int .i64 win, .int .i64 drift, .int .i64 delay, .slice ca cl.length cc, .slice ma ml.length mc] 25)).alloc (.cells #[.int .i64 st, .int .i64 sl, .slice da dl.length dc] 28)) w.heap.size 25 #[.int .i64 nodes, .int .i64 slot, .int .i64 gap, .int .i64 win, .int .i64 drift, .int .i64 delay, .slice ca cl.length cc, .slice ma ml.length mc] ∧ Blk ((w.alloc (.cells #[.int .i64 nodes, .int .i64 slot, .int .i64 gap, .int .i64 win, .int .i64 drift, .int .i64 delay, .slice ca cl.length cc, .slice ma ml.length mc] 25)).alloc (.cells #[.int .i64 st, .int .i64 sl, .slice da dl.length dc] 28)) (w.heap.size + 1) 28 #[.int .i64 st, .int .i64 sl, .slice da dl.length dc] ∧ Below w.heap.size w ((w.alloc (.cells #[.int .i64 nodes, .int .i64 slot, .int .i64 gap, .int .i64 win, .int .i64 drift, .int .i64 delay, .slice ca cl.length cc, .slice ma ml.length mc] 25)).alloc (.cells #[.int .i64 st, .int .i64 sl, .slice da dl.length dc] 28))) :=
    ⟨(Blk.new' rfl).alloc _, Blk.new' (by simp), below2 w _ _⟩
  go_enter Try.func9, Try.ntmps9
  go_wp2_with fail
  refine (hcc _ HJ.out.2.2).mono ?_
  rintro e w1 ⟨rfl, hb⟩
  replace HJ := Lib.hid (two_boxes HJ.out hb)
  clear hb hcc
  obtain ⟨m0, m1, m2, m3, m4, m5, m6, m7⟩ := HJ.out.1.eight; obtain ⟨c0, c1, c2⟩ := HJ.out.2.1.three; have hz0 := HJ.out.1.lt; have hz1 := HJ.out.2.1.lt
  by_cases he : ec = 0
  rotate_left
  · have hne : (ec != 0) = true := by simpa using he
    have hv : v = (0, ec) := by rw [HV.out, if_neg he]
    subst hv
    clear he
    go_wp2
    go_ret2
    exact ⟨rfl, HJ.out.2.2⟩
  subst he
  have hk := HOK.out rfl
  obtain ⟨hM, s0, s1, l0, l1, d8, hdv⟩ := hk
  obtain ⟨⟨n0, n1⟩, ⟨dr0, dr1⟩, ⟨de0, de1⟩, ⟨wi0, wi1⟩, ⟨ga0, ga1⟩, ⟨so0, so1⟩, _⟩ := okM_bd hM
  simp only at n0 n1 dr0 dr1 de0 de1 wi0 wi1 ga0 ga1 so0 so1
  clear hM hdv
  have hv : v = Fta.mid (0 :: dl) := by rw [HV.out, if_pos rfl]
  have HV9 := Lib.hid hv
  clear hv
  have how : ∀ W, Below w.heap.size w W → _ := fun W hW => own_any dl _ 1 W (by omega) (by omega) (HCI.out.below hW)
  have hmi : ∀ W v', Ints W v' (dl ++ [0]) → _ := fun W v' hi => mid_any (dl ++ [0]) v' W hi
  rw [Fta.mid_perm (show (dl ++ [0]).Perm (0 :: dl) from List.perm_append_comm (l₁ := dl) (l₂ := [0])), ← HV9.out] at hmi
  have HB8 : Hid (∀ x ∈ dl ++ [0], I64 x) := fun x hx => by
    rcases List.mem_append.1 hx with hx | hx
    · exact HBD.out x hx
    · obtain rfl := List.mem_singleton.1 hx
      unfold I64; omega
  have HL8 : Hid ((dl ++ [0]).length = dl.length + 1) := by show _ = _; simp
  have HM8 : Hid ((dl ++ [0]).map (Value.int .i64) = dl.map (Value.int .i64) ++ [.int .i64 0]) := by show _ = _; simp
  clear HV9 HV hc h
  go_wp2_with fail
  refine (how _ HJ.out.2.2).mono ?_
  rintro e w2 ⟨⟨av, cv, rfl, ho⟩, hb⟩
  clear m0 m1 m2 m3 m4 m5 m6 m7 c0 c1 c2 hz0 hz1
  have HO := Lib.hid (ownsRow_mono ho HJ.out.2.2.size)
  replace HJ := Lib.hid (two_boxes HJ.out hb)
  have hbs0 := HJ.out.2.2.size
  have hb9 := hb.size
  clear ho hb how
  go_wp2_with (at_builtin; refine wpList_app1 E22 rfl (.tmp 15) (.tmp 16) rfl HO.out [.int .i64 0] rfl (by simp [Value.oneCell']) rfl rfl (by omega) hbs0 ?_; intro v' w3 ho hg; obtain ⟨oa', oc', rfl, _⟩ := owns_shape ho; have HO3 := Lib.hid ho; have HB3 := Lib.hid (below_app HJ.out.2.2 (Nat.le_refl _) HO.out hg HJ.out.2.2.size); clear ho hg)
  refine (hmi _ _ (Ints.of_owns (base := w.heap.size) (by rw [HL8.out, HM8.out]; exact HO3.out) (by rw [HL8.out]; omega) HB8.out)).mono ?_
  rintro e w4 ⟨rfl, hb⟩
  go_wp2
  go_ret2
  exact ⟨rfl, bt HB3.out hb⟩

set_option maxRecDepth 100000 in
set_option maxHeartbeats 6400000 in
theorem rcorrect_any (m : Me) (c : Ck) (w : World) (h : GoodMe w m) (hc : GoodCk w c) :
    Calls Try.prog 24 #[mev m, clv c] w fun e w' => e = .returned (.tuple #[.int .i64 (corV m c).1, .int .i64 (corV m c).2]) ∧ Below w.heap.size w w' := by
  have HV : Hid (corV m c = if errC m c = 0 then Fta.mid (0 :: c.dl) else (0, errC m c)) := rfl
  have HCI := Lib.hid hc.1
  have HBD := Lib.hid hc.1.bd
  generalize corV _ _ = v at *
  have hcc : ∀ W, Below w.heap.size w W → _ := fun W hW => rccheck_any m c W (h.below hW) (hc.below hW)
  have HOK := Lib.hid (@errC_ok m c)
  obtain ⟨nodes, slot, gap, win, drift, delay, ⟨ca, cc, cl⟩, ma, mc, ml⟩ := m
  obtain ⟨st, sl, da, dc, dl⟩ := c
  unfold mev clv at *
  simp only at *
  generalize hec : errC _ _ = ec at *
  have HEC := Lib.hid hec
  clear hec
  have HJ : Hid (Blk ((w.alloc (.cells #[.int .i64 nodes, .int .i64 slot, .int .i64 gap, .int .i64 win, .int .i64 drift, .int .i64 delay, .slice ca cl.length cc, .slice ma ml.length mc] 25)).alloc (.cells #[.int .i64 st, .int .i64 sl, .slice da dl.length dc] 28)) w.heap.size 25 #[.int .i64 nodes, .int .i64 slot, .int .i64 gap, .int .i64 win, .int .i64 drift, .int .i64 delay, .slice ca cl.length cc, .slice ma ml.length mc] ∧ Blk ((w.alloc (.cells #[.int .i64 nodes, .int .i64 slot, .int .i64 gap, .int .i64 win, .int .i64 drift, .int .i64 delay, .slice ca cl.length cc, .slice ma ml.length mc] 25)).alloc (.cells #[.int .i64 st, .int .i64 sl, .slice da dl.length dc] 28)) (w.heap.size + 1) 28 #[.int .i64 st, .int .i64 sl, .slice da dl.length dc] ∧ Below w.heap.size w ((w.alloc (.cells #[.int .i64 nodes, .int .i64 slot, .int .i64 gap, .int .i64 win, .int .i64 drift, .int .i64 delay, .slice ca cl.length cc, .slice ma ml.length mc] 25)).alloc (.cells #[.int .i64 st, .int .i64 sl, .slice da dl.length dc] 28))) :=
    ⟨(Blk.new' rfl).alloc _, Blk.new' (by simp), below2 w _ _⟩
  go_enter Try.func24, Try.ntmps24
  go_wp2_with fail
  refine (hcc _ HJ.out.2.2).mono ?_
  rintro e w1 ⟨rfl, hb⟩
  replace HJ := Lib.hid (two_boxes HJ.out hb)
  clear hb hcc
  obtain ⟨m0, m1, m2, m3, m4, m5, m6, m7⟩ := HJ.out.1.eight; obtain ⟨c0, c1, c2⟩ := HJ.out.2.1.three; have hz0 := HJ.out.1.lt; have hz1 := HJ.out.2.1.lt
  by_cases he : ec = 0
  rotate_left
  · have hne : (ec != 0) = true := by simpa using he
    have hv : v = (0, ec) := by rw [HV.out, if_neg he]
    subst hv
    clear he
    go_wp2
    go_ret2
    exact ⟨rfl, HJ.out.2.2⟩
  subst he
  have hk := HOK.out rfl
  obtain ⟨hM, s0, s1, l0, l1, d8, hdv⟩ := hk
  obtain ⟨⟨n0, n1⟩, ⟨dr0, dr1⟩, ⟨de0, de1⟩, ⟨wi0, wi1⟩, ⟨ga0, ga1⟩, ⟨so0, so1⟩, _⟩ := okM_bd hM
  simp only at n0 n1 dr0 dr1 de0 de1 wi0 wi1 ga0 ga1 so0 so1
  clear hM hdv
  have hv : v = Fta.mid (0 :: dl) := by rw [HV.out, if_pos rfl]
  have HV9 := Lib.hid hv
  clear hv
  have hmi : ∀ W v', Ints W v' (0 :: dl) → _ := fun W v' hi => rmid_any (0 :: dl) v' W hi
  rw [← HV9.out] at hmi
  have HB8 : Hid (∀ x ∈ 0 :: dl, I64 x) := fun x hx => by
    rcases List.mem_cons.1 hx with hx | hx
    · subst hx; unfold I64; omega
    · exact HBD.out x hx
  have HL8 : Hid ((0 :: dl).length = 1 + dl.length) := by show _ = _; simp; omega
  have HS8 : Hid (Src (w1.alloc (.cells #[.int .i64 0] 2)) (.slice da dl.length dc) dl.length (dl.map (.int .i64)) 1) := (HCI.out.below (HJ.out.2.2.alloc HJ.out.2.2.size _)).src
  have HO8 : Hid ((w1.alloc (.cells #[.int .i64 0] 2)).ownsRow w.heap.size 2 1 (.slice (some ⟨w1.heap.size, 0, none⟩) 1 1) 1 [.int .i64 0]) := World.ownsRow_lit w1 #[.int .i64 0] 1 HJ.out.2.2.size (by unfold maxLen; omega) rfl
  have hbs0 := HJ.out.2.2.size
  clear HV9 HV hc h
  go_wp2_with (at_builtin; refine wpList_app E22 rfl (.tmp 13) (.tmp 15) rfl HO8.out HS8.out rfl rfl (by omega) (by simp; omega) ?_; intro v' w3 ho hg _; obtain ⟨oa', oc', rfl, _⟩ := owns_shape ho; have HO3 := Lib.hid ho; have HB3 := Lib.hid (below_app (HJ.out.2.2.alloc HJ.out.2.2.size (.cells #[.int .i64 0] 2)) (Nat.le_refl _) HO8.out hg (by simp; omega)); clear ho hg)
  refine (hmi _ _ (Ints.of_owns (base := w.heap.size) (by rw [HL8.out]; exact HO3.out) (by rw [HL8.out]; omega) HB8.out)).mono ?_
  rintro e w4 ⟨rfl, hb⟩
  go_wp2
  go_ret2
  exact ⟨rfl, bt HB3.out hb⟩
end Go.Proofs.Ytimcljlbjnhpnaa
