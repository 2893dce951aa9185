/- QueueDrops: behind Drop all others are there, in their order. -/
import Derived.Test.YtbmnecdkjkffdaaH4
import Derived.Test.YtbmnecdkjkffdaaE14
namespace Go.Proofs.Ytbmnecdkjkffdaa
open Go.RowKit Go.Shelf

theorem keep_rise {S : List Ev} (node : Int) (h : Rise S) : Rise (keepL S node) := List.Pairwise.filter _ h
theorem drop_sort (h : List Ev) (node : Int) : sortE (dropL h node) = keepL (sortE h) node :=
  (sortE_of_rise (keep_rise node (sortE_rise h)) (newL_perm (keepL (sortE h) node)).symm).symm
theorem drop_len (h : List Ev) (node : Int) : (dropL h node).length = (keepL (sortE h) node).length := newL_len _
theorem keep_le (S : List Ev) (node : Int) : (keepL S node).length ≤ S.length := List.length_filter_le _ _
set_option maxRecDepth 100000 in
set_option maxHeartbeats 1600000 in
theorem drops_long (v : Value) (node : Int) (l : List Ev) (w : World) (hv : Rd encE 4 w v l) (hl : 200 < l.length) : Calls Try.prog 7 #[v, .int .i64 node] w (True1 w) := by
  have HP : Hid (∀ w', Below w.heap.size w w' → True1 w (.returned (.bool true)) w') := fun w' h => ⟨rfl, h⟩
  have HC := Lib.hid begun_any
  have HB0 := Lib.hid (below1 w (.cells #[.int .i64 node] 3))
  obtain ⟨a, cap, rfl, hcap, hcm, hlen⟩ := hv.shape
  clear hv
  go_enter Try.func7, Try.ntmps7
  go_wp2_with fail
  refine (HC.out _).mono ?_
  rintro e w1 ⟨rfl, hb1⟩
  have HB1 := Lib.hid (HB0.out.trans (hb1.mono HB0.out.size))
  clear hb1
  go_wp2_with fail
  refine (HC.out _).mono ?_
  rintro e w2 ⟨rfl, hb2⟩
  have HB2 := Lib.hid hb2
  clear hb2
  go_wp2
  go_ret
  exact HP.out _ (bt HB1.out HB2.out)
set_option maxRecDepth 100000 in
set_option maxHeartbeats 3200000 in
theorem drops_any (v : Value) (node : Int) (l : List Ev) (w : World) (hv : Rd encE 4 w v l) (hl : l.length ≤ 200) : Calls Try.prog 7 #[v, .int .i64 node] w (True1 w) := by
  have HP : Hid (∀ w', Below w.heap.size w w' → True1 w (.returned (.bool true)) w') := fun w' h => ⟨rfl, h⟩
  have HBG := Lib.hid begun_any
  have HB0 := Lib.hid (below1 w (.cells #[.int .i64 node] 3))
  have HX0 : Hid (Blk (w.alloc (.cells #[.int .i64 node] 3)) w.heap.size 3 #[.int .i64 node]) := Blk.new' rfl
  have HV := Lib.hid hv
  obtain ⟨a, cap, rfl, hcap, hcm, hlen⟩ := hv.shape
  obtain ⟨n, hn⟩ : ∃ n, n = l.length := ⟨_, rfl⟩
  rw [← hn] at hl hcap hlen HV
  rw [← hn]
  have HN := Lib.hid hn
  clear hv hn
  go_enter Try.func7, Try.ntmps7
  go_upto_region 1 with fail
  generalize w.alloc (.cells #[.int .i64 node] 3) = w0 at *
  go_wp2_with fail
  refine (HBG.out _).mono ?_
  rintro e w1 ⟨rfl, hb1⟩
  have HX1 := Lib.hid (HX0.out.keep hb1)
  have HB1 := Lib.hid (HB0.out.trans (hb1.mono HB0.out.size))
  clear hb1 HBG HX0 HB0
  by_cases hbad : l.any badE = true
  · have HNW := Lib.hid (new_bad _ l w1 (HV.out.below HB1.out) (by have := HN.out; omega) hbad)
    have HE : Hid (newE l = 140) := by show _ = _; unfold newE; rw [if_neg (by have := HN.out; omega), if_pos hbad]
    clear hbad
    go_wp2_with fail
    refine HNW.out.mono ?_
    rintro e w2 ⟨rfl, hb2⟩
    rw [HE.out]
    have HB2 := Lib.hid (bt HB1.out hb2)
    clear hb2 HNW
    go_wp2
    go_ret
    exact HP.out _ HB2.out
  · have HNW := Lib.hid (new_good _ l w1 (HV.out.below HB1.out) (by have := HN.out; omega) (by simpa using hbad))
    clear hbad
    go_wp2_with fail
    refine HNW.out.mono ?_
    rintro e w2 ⟨q, sv, rfl, hq, hQ, hb2⟩
    have HX2 := Lib.hid (HX1.out.keep hb2)
    have HB2 := Lib.hid (bt HB1.out hb2)
    have HQ2 := Lib.hid hQ
    have HQL : Hid (w1.heap.size ≤ q) := hq
    have HXL : Hid (w.heap.size < w1.heap.size) := HX1.out.lt
    have HLN : Hid ((newL l).length = n) := by show _ = _; rw [newL_len]; exact HN.out.symm
    clear hq hQ hb2 HNW HB1 HX1
    generalize newL l = h at *
    go_wp2_with fail
    refine (all_any (some ⟨q, 0, none⟩) w2).mono ?_
    rintro e w3 ⟨rfl, hw3⟩
    have B3 : Hid (Below w2.heap.size w2 w3) := by rw [← hw3]; exact below1 _ _
    have X3 : Hid (Blk w3 w2.heap.size 25 #[.pointer (some ⟨q, 0, none⟩)]) := by rw [← hw3]; exact Blk.new' rfl
    clear hw3
    go_wp2_with fail
    refine (told_all w2.heap.size q sv h 0 9999 w3 X3.out (HQ2.out.below B3.out) (by have := HLN.out; omega)).mono ?_
    rintro e w4 ⟨⟨v4, rfl, ho4⟩, hb4⟩
    have HO4 : Hid (w4.ownsRow w3.heap.size 31 4 v4 (sortE h).length ((sortE h).flatMap encE)) := by
      have e0 : (sortE h).take (9999 : Int).toNat = sortE h := List.take_of_length_le (by rw [sortE_len]; have := HLN.out; simp; omega)
      rw [e0] at ho4
      exact ho4
    have B4 := Lib.hid (bt B3.out hb4)
    have HQ4 := Lib.hid (HQ2.out.below B4.out)
    have HX4 := Lib.hid (HX2.out.keep B4.out)
    have HZ3 : Hid (w2.heap.size ≤ w3.heap.size ∧ w3.heap.size ≤ w4.heap.size) := ⟨B3.out.size, hb4.size⟩
    have c4 : w4.cell? ⟨w.heap.size, 0, none⟩ = some (.int .i64 node) := HX4.out.cell 0
    clear ho4 hb4 X3
    go_wp2_with fail
    refine (drop_any q sv h 0 node w4 HQ4.out (by have := HLN.out; omega)).mono ?_
    rintro e w5 ⟨rfl, sv5, hQ5, hk5, hs5⟩
    have HGW : Hid (∀ g, v4.ownBlock = some g → w3.heap.size ≤ g ∧ g < w4.heap.size) := fun g e => HO4.out.lt g e
    have HSV : Hid (∀ g, sv.ownBlock = some g → g < w2.heap.size) := fun g e => (HQ2.out.2.lt g e).2
    have HQZ : Hid (q < w2.heap.size) := HQ2.out.1.lt
    have HO5 : Hid (w5.ownsRow w3.heap.size 31 4 v4 (sortE h).length ((sortE h).flatMap encE)) := by
      refine ⟨HO4.out.1, HO4.out.2.imp id ?_⟩
      rintro ⟨g, cp, cur, he, hg, hh, r⟩
      have hgw := HGW.out g (by rw [he]; rfl)
      have h3 := HZ3.out
      refine ⟨g, cp, cur, he, hg, (hk5.block g hgw.2 ?_ ?_).trans hh, r⟩
      · have := HQZ.out; omega
      · intro e; have := HSV.out g e; omega
    have HX5 : Hid (Blk w5 w.heap.size 3 #[.int .i64 node]) := by
      refine blk_qk hk5 HX4.out ?_ ?_
      · have := HXL.out; have := HQL.out; omega
      · intro e; have := (HQ2.out.2.lt _ e).1; have := HXL.out; have := HQL.out; omega
    have HBW : Hid (Below w.heap.size w w5) := by
      have h2 := HB2.out.trans (B4.out.mono HB2.out.size)
      refine h2.trans ((⟨hk5, .inl rfl⟩ : QS w4 w5 q sv sv).below h2.size ?_ ?_)
      · have := HXL.out; have := HQL.out; omega
      · intro g e; have := (HQ2.out.2.lt _ e).1; have := HXL.out; have := HQL.out; omega
    have HQ5 := Lib.hid hQ5
    have HS5 : Hid (∀ g, sv5.ownBlock = some g → w4.heap.size ≤ g) := hs5
    have HDL : Hid ((dropL h node).length ≤ n) := by show _ ≤ _; rw [drop_len]; have := keep_le (sortE h) node; rw [sortE_len] at this; have := HLN.out; omega
    have HZ5 : Hid (w4.heap.size ≤ w5.heap.size) := hk5.size
    clear hQ5 hk5 hs5 c4 HX4 HO4 HQ4 HX2 HB2 HQ2 B4 B3
    go_wp2_with fail
    refine (all_any (some ⟨q, 0, none⟩) w5).mono ?_
    rintro e w6 ⟨rfl, hw6⟩
    have B6 : Hid (Below w5.heap.size w5 w6) := by rw [← hw6]; exact below1 _ _
    have X6 : Hid (Blk w6 w5.heap.size 25 #[.pointer (some ⟨q, 0, none⟩)]) := by rw [← hw6]; exact Blk.new' rfl
    clear hw6
    go_wp2_with fail
    refine (told_all w5.heap.size q sv5 (dropL h node) 0 9999 w6 X6.out (HQ5.out.below B6.out) (by have := HDL.out; omega)).mono ?_
    rintro e w7 ⟨⟨v7, rfl, ho7⟩, hb7⟩
    have HO7 : Hid (w7.ownsRow w6.heap.size 31 4 v7 (keepL (sortE h) node).length ((keepL (sortE h) node).flatMap encE)) := by
      have e0 : (sortE (dropL h node)).take (9999 : Int).toNat = keepL (sortE h) node := by
        rw [List.take_of_length_le (by rw [sortE_len]; have := HDL.out; simp; omega), drop_sort]
      rw [e0] at ho7
      exact ho7
    have B7 := Lib.hid (bt B6.out hb7)
    have HQ7 := Lib.hid (HQ5.out.below B7.out)
    have HX7 := Lib.hid (HX5.out.keep B7.out)
    have HO47 := Lib.hid (ow_below HO5.out B7.out)
    have HBW7 := Lib.hid (HBW.out.trans (B7.out.mono HBW.out.size))
    have HZ7 : Hid (w5.heap.size ≤ w6.heap.size ∧ w6.heap.size ≤ w7.heap.size) := ⟨B6.out.size, hb7.size⟩
    clear ho7 hb7 X6 HQ5 HX5 HO5 HBW B7 B6
    go_wp2_with fail
    refine (delete_any v4 (sortE h) w3.heap.size w.heap.size node w7 HO47.out (by rw [sortE_len]; have := HLN.out; omega) HX7.out ?_ ?_).mono ?_
    · intro e; have := (HGW.out _ e).1; have := HXL.out; have := HZ3.out; have := HQL.out; have := HQZ.out; omega
    · have := HZ3.out; have := HZ5.out; have := HZ7.out; omega
    rintro e w8 ⟨v8, rfl, ho8, hg8⟩
    have HO78 : Hid (w8.ownsRow w6.heap.size 31 4 v7 (keepL (sortE h) node).length ((keepL (sortE h) node).flatMap encE)) := by
      refine HO7.out.kept hg8 ?_
      by_cases hv : v4.ownBlock = none
      · by_cases hv7 : v7.ownBlock = none
        · rcases HO7.out.2 with ⟨rfl, -⟩ | ⟨g, cp, cur, rfl, -⟩
          · exact .inl rfl
          · simp [Value.ownBlock] at hv7
        · exact .inr (by rw [hv]; exact hv7)
      · refine .inr fun e => ?_
        obtain ⟨g, hg⟩ := Option.ne_none_iff_exists'.1 hv
        rw [hg] at e
        have := (HO7.out.lt g e).1
        have := (HGW.out g hg).2
        have := HZ5.out
        have := HZ7.out
        omega
    have HQ8 : Hid (Qu w8 q sv5 (dropL h node) 0) := by
      refine ⟨HQ7.out.1.kept hg8 (fun e => ?_), HQ7.out.2.kept hg8 ?_⟩
      · have := (HGW.out q e.symm).1; have := HQZ.out; have := HZ3.out; omega
      · rcases HQ7.out.2.2 with ⟨rfl, -⟩ | ⟨g, cp, cur, rfl, -⟩
        · exact .inl rfl
        · refine .inr fun e => ?_
          have h1 := HS5.out g rfl
          have h2 := (HGW.out g e.symm).2
          omega
    have HBW8 : Hid (Below w.heap.size w w8) := HBW7.out.grown hg8 HBW7.out.size (fun k e => by have := (HGW.out k e).1; have := HXL.out; have := HZ3.out; have := HQL.out; have := HQZ.out; omega)
    have hkl : (keepL (sortE h) node).length ≤ n := by rw [← drop_len]; exact HDL.out
    have HR7 := Lib.hid (Rd.of_owns encE_len HO78.out (by omega))
    have HR8 := Lib.hid (Rd.of_owns encE_len ho8 (by omega))
    have HLE := Lib.hid (fun W (hb : Below w8.heap.size w8 W) => len_any q sv5 (dropL h node) 0 W (HQ8.out.below hb))
    rw [drop_len] at HLE ⊢
    rw [HLN.out]
    clear ho8 hg8 HO78 HQ8 HBW7 HO47 HX7 HQ7 HO7
    generalize keepL (sortE h) node = K at *
    obtain ⟨a8, c8, rfl, -⟩ := HR8.out.shape
    obtain ⟨kn, hkn⟩ : ∃ kn, kn = K.length := ⟨_, rfl⟩
    have HKN := Lib.hid hkn
    rw [← hkn] at hkl
    clear hkn
    go_wp2_with fail
    refine (equal_any v7 _ K K w8 HR7.out HR8.out).mono ?_
    rintro e w9 ⟨rfl, hb9⟩
    rw [show decide (K = K) = true by simp]
    have HB9 := Lib.hid (HBW8.out.trans (hb9.mono HBW8.out.size))
    have HL9 : Hid (Calls Try.prog 12 #[.pointer (some ⟨q, 0, none⟩)] w9 fun e w' => e = .returned (.int .i64 kn) ∧ w9 = w') := by have := HLE.out w9 hb9; rw [← HKN.out] at this; exact this
    clear hb9 HLE HR7 HR8
    rw [← HKN.out]
    have e1 : ((n : Int) - (kn : Int) == (n : Int) - (kn : Int)) = true := by simp
    have e2 : ((kn : Int) == (kn : Int)) = true := by simp
    go_wp2_with (go_at_call 12; refine HL9.out.mono ?_; go_must (rintro e w' ⟨rfl, rfl⟩))
    go_ret
    exact HP.out _ HB9.out
end Go.Proofs.Ytbmnecdkjkffdaa
