/- The document's Check of a fault. -/
import Derived.Test.YtmflnbdajaiahaaF4
namespace Go.Proofs.Ytmflnbdajaiahaa
open Go.RowKit Go.Shelf
open Md

/-- Which fields a kind has. -/
def hasL (k : Int) : List Bool :=
  if k = 1 ∨ k = 2 ∨ k = 6 then [true, false, true, false, false]
  else if k = 3 ∨ k = 4 ∨ k = 11 then [true, false, false, false, false]
  else if k = 5 then [false, true, true, false, false]
  else if k = 7 ∨ k = 8 then [true, false, false, true, false]
  else if k = 9 then [true, false, true, true, true]
  else if k = 10 then [true, false, true, true, false]
  else [false, true, false, false, false]
def hb (k : Int) (i : Nat) : Bool := (hasL k).getD i false
theorem below_drewN {B : Nat} {a w : World} (h : Below B a w) (q : Nat) : Below B a (w.drewN q) := ⟨h.os, h.tape, h.output, h.size, h.block⟩
theorem results_tmp5 {fn : Func} {t u v x y : Tmp} (h : fn.results = #[.tmp t, .tmp u, .tmp v, .tmp x, .tmp y]) (tmps : Array Value) (P : Program) (w : World) :
    (results fn tmps).run P w = .ok (.tuple #[tmps.getD t undef, tmps.getD u undef, tmps.getD v undef, tmps.getD x undef, tmps.getD y undef]) w := by
  simp [results, h]
theorem has_any (k : Int) (w : World) (h0 : 1 ≤ k) (h1 : k ≤ 12) : Calls Try.prog 54 #[.int .i64 k] w fun e w' => e = .returned (.tuple #[.bool (hb k 0), .bool (hb k 1), .bool (hb k 2), .bool (hb k 3), .bool (hb k 4)]) ∧ w = w' := by
  have h : k = 1 ∨ k = 2 ∨ k = 3 ∨ k = 4 ∨ k = 5 ∨ k = 6 ∨ k = 7 ∨ k = 8 ∨ k = 9 ∨ k = 10 ∨ k = 11 ∨ k = 12 := by omega
  rcases h with rfl | rfl | rfl | rfl | rfl | rfl | rfl | rfl | rfl | rfl | rfl | rfl
  all_goals (go_enter Try.func54, Try.ntmps54; go_wp2; (try simp only [Exit.inBlock, Exit.then]); refine bodyPost_ret (results_tmp5 rfl _ _ _) rfl ?_; exact ⟨rfl, rfl⟩)
def fieldB (x : Int) (h : Bool) (p q : Int) : Bool := if h then decide (p ≤ x) && decide (x ≤ q) else decide (x = 0)
theorem field_any (x : Int) (h : Bool) (p q : Int) (w : World) : Calls Try.prog 56 #[.int .i64 x, .bool h, .int .i64 p, .int .i64 q] w fun e w' => e = .returned (.bool (fieldB x h p q)) ∧ w = w' := by
  cases h
  · go_enter Try.func56, Try.ntmps56
    go_wp2
    go_ret
    exact ⟨ret_bool (by unfold fieldB; by_cases h : x = 0 <;> simp [h]), rfl⟩
  · by_cases h1 : p ≤ x
    · have HE : Hid (fieldB x true p q = decide (x ≤ q)) := by show _ = _; simp [fieldB, h1]
      rw [HE.out]
      go_enter Try.func56, Try.ntmps56
      go_wp2
      go_ret
      exact ⟨ret_bool (by simp), rfl⟩
    · have HE : Hid (fieldB x true p q = false) := by show _ = _; simp [fieldB, h1]
      rw [HE.out]
      go_enter Try.func56, Try.ntmps56
      go_wp2
      go_ret
      exact ⟨ret_bool (by simp), rfl⟩
def rlim (m : Me) (k : Int) : Int × Int := if k = 7 then (0, 200) else if k = 8 then (-m.gap, m.gap) else if k = 9 then (0, m.slot - 1) else (0, m.nodes - 1)
set_option maxHeartbeats 1600000 in
theorem rlimits_any (m : Me) (k : Int) (w : World) (hd : Bd m) : Calls Try.prog 55 #[mev m, .int .i64 k] w fun e w' => e = .returned (.tuple #[.int .i64 (rlim m k).1, .int .i64 (rlim m k).2]) ∧ Below w.heap.size w w' := by
  have HP : Hid (∀ w' x y, Below w.heap.size w w' → (x, y) = rlim m k → (fun e w' => e = Ending.returned (.tuple #[.int .i64 (rlim m k).1, .int .i64 (rlim m k).2]) ∧ Below w.heap.size w w') (.returned (.tuple #[.int .i64 x, .int .i64 y])) w') := fun w' x y h hb => by rw [← hb]; exact ⟨rfl, h⟩
  generalize (fun e w' => e = Ending.returned (.tuple #[.int .i64 (rlim m k).1, .int .i64 (rlim m k).2]) ∧ Below w.heap.size w w') = R at *
  have hw1 : IntKind.i64.wrap (m.nodes - 1) = m.nodes - 1 := IntWalk.i64_in _ (by have := hd.n0; have := hd.n1; omega)
  have hw2 : IntKind.i64.wrap (-m.gap) = -m.gap := IntWalk.i64_in _ (by have := hd.g0; have := hd.g1; omega)
  have hw3 : IntKind.i64.wrap (m.slot - 1) = m.slot - 1 := IntWalk.i64_in _ (by have := hd.s0; have := hd.s1; omega)
  have HB0 := Lib.hid (below1 w (.cells (encMe m).toArray 25))
  have HM0 : Hid (Blk (w.alloc (.cells (encMe m).toArray 25)) w.heap.size 25 (encMe m).toArray) := Blk.new' rfl
  change Calls Try.prog 55 #[.agg (encMe m).toArray, .int .i64 k] w R
  go_enter Try.func55, Try.ntmps55
  go_upto_region 1 with fail
  change Code.wp _ _ _ _ (w.alloc (.cells (encMe m).toArray 25))
  generalize w.alloc (.cells (encMe m).toArray 25) = W0 at *
  have c0 : W0.cell? ⟨w.heap.size, 0, none⟩ = some (.int .i64 m.nodes) := HM0.out.list0 rfl
  have c1 : W0.cell? ⟨w.heap.size, 1, none⟩ = some (.int .i64 m.slot) := HM0.out.list0 rfl
  have c2 : W0.cell? ⟨w.heap.size, 2, none⟩ = some (.int .i64 m.gap) := HM0.out.list0 rfl
  have HB1 : Hid (∀ nq, Below w.heap.size w (W0.drewN nq)) := fun nq => below_drewN HB0.out nq
  by_cases h7 : k = 7
  · subst h7
    go_wp2
    exact HP.out _ _ _ HB0.out (by simp [rlim])
  · have e7 : (k == 7) = false := by simp [h7]
    by_cases h8 : k = 8
    · subst h8
      go_upto_region 5 with fail
      go_quiet (fail)
      go_wp2
      exact HP.out _ _ _ (HB1.out _) (by simp [rlim])
    · have e8 : (k == 8) = false := by simp [h8]
      by_cases h9 : k = 9
      · subst h9
        go_upto_region 7 with fail
        go_quiet (fail)
        go_wp2
        exact HP.out _ _ _ (HB1.out _) (by simp [rlim])
      · have e9 : (k == 9) = false := by simp [h9]
        have HE : Hid ((0, m.nodes - 1) = rlim m k) := by show _ = _; simp [rlim, h7, h8, h9]
        clear h7 h8 h9
        go_upto_region 8 with fail
        go_quiet (fail)
        go_wp2
        exact HP.out _ _ _ (HB1.out _) HE.out
/-- Whether a fault may be, by the document. -/
def rokF (m : Me) (f : Fa) : Bool := decide (1 ≤ f.k) && decide (f.k ≤ 12) && decide (0 ≤ f.r) && decide (f.r < 16) && fieldB f.n (hb f.k 0) 0 (m.nodes - 1) && fieldB f.c (hb f.k 1) 0 1 && fieldB f.s (hb f.k 2) 0 (m.nodes - 1) &&
  fieldB f.a (hb f.k 3) (rlim m f.k).1 (rlim m f.k).2 && fieldB f.b (hb f.k 4) 1 m.slot && !(decide (f.k = 10) && decide (f.s = f.n))
theorem rok_may (m : Me) (f : Fa) : rokF m f = mayF m f := by
  obtain ⟨k, n, c, r, s, a, b⟩ := f
  by_cases hk : 1 ≤ k ∧ k ≤ 12
  · have h : k = 1 ∨ k = 2 ∨ k = 3 ∨ k = 4 ∨ k = 5 ∨ k = 6 ∨ k = 7 ∨ k = 8 ∨ k = 9 ∨ k = 10 ∨ k = 11 ∨ k = 12 := by omega
    rw [Bool.eq_iff_iff]
    rcases h with rfl | rfl | rfl | rfl | rfl | rfl | rfl | rfl | rfl | rfl | rfl | rfl
    all_goals (simp [rokF, mayF, limP, inAll, limOk, fieldB, hb, hasL, rlim]; omega)
  · have h1 : (decide (1 ≤ k) && decide (k ≤ 12)) = false := by simp; omega
    unfold rokF mayF limOk
    simp only
    rw [h1]
    rfl
def errF (m : Me) (f : Fa) : Int := if okM m then (if mayF m f then 0 else 150) else 70
set_option maxRecDepth 100000 in
set_option maxHeartbeats 3200000 in
theorem rcheck_any (m : Me) (f : Fa) (w : World) (hg : GoodMe w m) : Calls Try.prog 39 #[mev m, .agg (encF f).toArray] w fun e w' => e = .returned (.int .i64 (errF m f)) ∧ Below w.heap.size w w' := by
  have HP0 : Hid (∀ w' x, Below w.heap.size w w' → x = errF m f → (fun e w' => e = Ending.returned (.int .i64 (errF m f)) ∧ Below w.heap.size w w') (.returned (.int .i64 x)) w') := fun w' x h hb => by subst hb; exact ⟨rfl, h⟩
  generalize (fun e w' => e = Ending.returned (.int .i64 (errF m f)) ∧ Below w.heap.size w w') = R at *
  have HB0 := Lib.hid (below2 w (.cells (encMe m).toArray 25) (.cells (encF f).toArray 33))
  have HM0 : Hid (Blk ((w.alloc (.cells (encMe m).toArray 25)).alloc (.cells (encF f).toArray 33)) w.heap.size 25 (encMe m).toArray) := (Blk.new' rfl : Blk _ _ _ _).alloc _
  have HF0 : Hid (Blk ((w.alloc (.cells (encMe m).toArray 25)).alloc (.cells (encF f).toArray 33)) (w.heap.size + 1) 33 (encF f).toArray) := Blk.new' (by simp)
  have HG := Lib.hid hg
  clear hg
  change Calls Try.prog 39 #[.agg (encMe m).toArray, .agg (encF f).toArray] w R
  go_enter Try.func39, Try.ntmps39
  go_upto_region 1 with fail
  change Code.wp _ _ _ _ ((w.alloc (.cells (encMe m).toArray 25)).alloc (.cells (encF f).toArray 33))
  generalize (w.alloc (.cells (encMe m).toArray 25)).alloc (.cells (encF f).toArray 33) = W0 at *
  go_wp2_with ((with_reducible show wpList _ _ _ (Oper.mk (some 13) _ _ _ _ _ :: _) _ _); refine wpList_loadW W25 rfl rfl rfl (encMe m) rfl HM0.out.list ?_)
  refine (rcheck7_any m W0 (HG.out.below HB0.out)).mono ?_
  rintro e W1 ⟨rfl, hb1⟩
  have HB : Hid (Blk W1 w.heap.size 25 (encMe m).toArray ∧ Blk W1 (w.heap.size + 1) 33 (encF f).toArray ∧ Below w.heap.size w W1) := ⟨HM0.out.keep hb1, HF0.out.keep hb1, HB0.out.trans (hb1.mono HB0.out.size)⟩
  clear hb1 HM0 HF0 HB0 HG
  by_cases hm : okM m = true
  · have HD := Lib.hid (okM_bd hm)
    rw [show errM m = 0 from if_pos hm]
    have HP : Hid (∀ w' x, Below w.heap.size w w' → x = (if rokF m f then 0 else 150) → R (.returned (.int .i64 x)) w') := fun w' x h hx => HP0.out w' x h (by unfold errF; rw [if_pos hm, hx, rok_may])
    have HRK : Hid (rokF m f = (decide (1 ≤ f.k) && decide (f.k ≤ 12) && decide (0 ≤ f.r) && decide (f.r < 16) && fieldB f.n (hb f.k 0) 0 (m.nodes - 1) && fieldB f.c (hb f.k 1) 0 1 && fieldB f.s (hb f.k 2) 0 (m.nodes - 1) &&
      fieldB f.a (hb f.k 3) (rlim m f.k).1 (rlim m f.k).2 && fieldB f.b (hb f.k 4) 1 m.slot && !(decide (f.k = 10) && decide (f.s = f.n)))) := rfl
    clear HP0 hm
    have cr : W1.cell? ⟨w.heap.size + 1, 3, none⟩ = some (.int .i64 f.r) := HB.out.2.1.list0 rfl
    have ck : W1.cell? ⟨w.heap.size + 1, 0, none⟩ = some (.int .i64 f.k) := HB.out.2.1.list0 rfl
    obtain ⟨k, n, c, r, s, a, b⟩ := f
    simp only at *
    by_cases h1 : k < 1
    · have HE : Hid (rokF m ⟨k, n, c, r, s, a, b⟩ = false) := by show _ = _; rw [HRK.out]; simp; omega
      go_wp2
      exact HP.out _ 150 HB.out.2.2 (by simp [HE.out])
    · by_cases h2 : 12 < k
      · have HE : Hid (rokF m ⟨k, n, c, r, s, a, b⟩ = false) := by show _ = _; rw [HRK.out]; simp; omega
        go_wp2
        exact HP.out _ 150 HB.out.2.2 (by simp [HE.out])
      · by_cases h3 : r < 0
        · have HE : Hid (rokF m ⟨k, n, c, r, s, a, b⟩ = false) := by show _ = _; rw [HRK.out]; simp; omega
          go_wp2
          exact HP.out _ 150 HB.out.2.2 (by simp [HE.out])
        · by_cases h4 : 16 ≤ r
          · have HE : Hid (rokF m ⟨k, n, c, r, s, a, b⟩ = false) := by show _ = _; rw [HRK.out]; simp; omega
            go_wp2
            exact HP.out _ 150 HB.out.2.2 (by simp [HE.out])
          · have hw1 : IntKind.i64.wrap (m.nodes - 1) = m.nodes - 1 := IntWalk.i64_in _ (by have := HD.out.n0; have := HD.out.n1; omega)
            have HK : Hid (1 ≤ k ∧ k ≤ 12 ∧ 0 ≤ r ∧ r < 16) := ⟨by omega, by omega, by omega, by omega⟩
            go_wp2_with fail
            refine (has_any k W1 HK.out.1 HK.out.2.1).mono ?_
            rintro e w' ⟨rfl, rfl⟩
            go_wp2_with ((with_reducible show wpList _ _ _ (Oper.mk (some 46) _ _ _ _ _ :: _) _ _); refine wpList_loadW W25 rfl rfl rfl (encMe m) rfl HB.out.1.list ?_)
            refine (rlimits_any m k W1 HD.out).mono ?_
            rintro e W2 ⟨rfl, hb2⟩
            replace HB : Hid (Blk W2 w.heap.size 25 (encMe m).toArray ∧ Blk W2 (w.heap.size + 1) 33 (encF ⟨k, n, c, r, s, a, b⟩).toArray ∧ Below w.heap.size w W2) := ⟨HB.out.1.keep hb2, HB.out.2.1.keep hb2, HB.out.2.2.trans (hb2.mono HB.out.2.2.size)⟩
            clear hb2 cr ck
            have ck : W2.cell? ⟨w.heap.size + 1, 0, none⟩ = some (.int .i64 k) := HB.out.2.1.list0 rfl
            have cn : W2.cell? ⟨w.heap.size + 1, 1, none⟩ = some (.int .i64 n) := HB.out.2.1.list0 rfl
            have cc : W2.cell? ⟨w.heap.size + 1, 2, none⟩ = some (.int .i64 c) := HB.out.2.1.list0 rfl
            have cs : W2.cell? ⟨w.heap.size + 1, 4, none⟩ = some (.int .i64 s) := HB.out.2.1.list0 rfl
            have ca : W2.cell? ⟨w.heap.size + 1, 5, none⟩ = some (.int .i64 a) := HB.out.2.1.list0 rfl
            have cb : W2.cell? ⟨w.heap.size + 1, 6, none⟩ = some (.int .i64 b) := HB.out.2.1.list0 rfl
            have c0 : W2.cell? ⟨w.heap.size, 0, none⟩ = some (.int .i64 m.nodes) := HB.out.1.list0 rfl
            have c1 : W2.cell? ⟨w.heap.size, 1, none⟩ = some (.int .i64 m.slot) := HB.out.1.list0 rfl
            have HF1 := Lib.hid (field_any n (hb k 0) 0 (m.nodes - 1) W2)
            have HF2 := Lib.hid (field_any c (hb k 1) 0 1 W2)
            have HF3 := Lib.hid (field_any s (hb k 2) 0 (m.nodes - 1) W2)
            have HF4 := Lib.hid (field_any a (hb k 3) (rlim m k).1 (rlim m k).2 W2)
            have HF5 := Lib.hid (field_any b (hb k 4) 1 m.slot W2)
            generalize fieldB n (hb k 0) 0 (m.nodes - 1) = F1 at *
            generalize fieldB c (hb k 1) 0 1 = F2 at *
            generalize fieldB s (hb k 2) 0 (m.nodes - 1) = F3 at *
            generalize fieldB a (hb k 3) (rlim m k).1 (rlim m k).2 = F4 at *
            generalize fieldB b (hb k 4) 1 m.slot = F5 at *
            generalize hb k 0 = H0 at *
            generalize hb k 1 = H1 at *
            generalize hb k 2 = H2 at *
            generalize hb k 3 = H3 at *
            generalize hb k 4 = H4 at *
            generalize (rlim m k).1 = L0 at *
            generalize (rlim m k).2 = L1 at *
            clear h1 h2 h3 h4 HD
            cases F1
            · have HE : Hid (rokF m ⟨k, n, c, r, s, a, b⟩ = false) := by show _ = _; rw [HRK.out]; simp
              go_wp2_with (first | (go_at_call 56; (with_reducible show Calls _ _ #[.int .i64 n, _, _, _] _ _); refine HF1.out.mono ?_; rintro e w' ⟨rfl, rfl⟩) | (go_at_call 56; (with_reducible show Calls _ _ #[.int .i64 c, _, _, _] _ _); refine HF2.out.mono ?_; rintro e w' ⟨rfl, rfl⟩) | (go_at_call 56; (with_reducible show Calls _ _ #[.int .i64 s, _, _, _] _ _); refine HF3.out.mono ?_; rintro e w' ⟨rfl, rfl⟩) | (go_at_call 56; (with_reducible show Calls _ _ #[.int .i64 a, _, _, _] _ _); refine HF4.out.mono ?_; rintro e w' ⟨rfl, rfl⟩) | (go_at_call 56; (with_reducible show Calls _ _ #[.int .i64 b, _, _, _] _ _); refine HF5.out.mono ?_; rintro e w' ⟨rfl, rfl⟩))
              exact HP.out _ 150 HB.out.2.2 (by simp [HE.out])
            · cases F2
              · have HE : Hid (rokF m ⟨k, n, c, r, s, a, b⟩ = false) := by show _ = _; rw [HRK.out]; simp
                go_wp2_with (first | (go_at_call 56; (with_reducible show Calls _ _ #[.int .i64 n, _, _, _] _ _); refine HF1.out.mono ?_; rintro e w' ⟨rfl, rfl⟩) | (go_at_call 56; (with_reducible show Calls _ _ #[.int .i64 c, _, _, _] _ _); refine HF2.out.mono ?_; rintro e w' ⟨rfl, rfl⟩) | (go_at_call 56; (with_reducible show Calls _ _ #[.int .i64 s, _, _, _] _ _); refine HF3.out.mono ?_; rintro e w' ⟨rfl, rfl⟩) | (go_at_call 56; (with_reducible show Calls _ _ #[.int .i64 a, _, _, _] _ _); refine HF4.out.mono ?_; rintro e w' ⟨rfl, rfl⟩) | (go_at_call 56; (with_reducible show Calls _ _ #[.int .i64 b, _, _, _] _ _); refine HF5.out.mono ?_; rintro e w' ⟨rfl, rfl⟩))
                exact HP.out _ 150 HB.out.2.2 (by simp [HE.out])
              · cases F3
                · have HE : Hid (rokF m ⟨k, n, c, r, s, a, b⟩ = false) := by show _ = _; rw [HRK.out]; simp
                  go_wp2_with (first | (go_at_call 56; (with_reducible show Calls _ _ #[.int .i64 n, _, _, _] _ _); refine HF1.out.mono ?_; rintro e w' ⟨rfl, rfl⟩) | (go_at_call 56; (with_reducible show Calls _ _ #[.int .i64 c, _, _, _] _ _); refine HF2.out.mono ?_; rintro e w' ⟨rfl, rfl⟩) | (go_at_call 56; (with_reducible show Calls _ _ #[.int .i64 s, _, _, _] _ _); refine HF3.out.mono ?_; rintro e w' ⟨rfl, rfl⟩) | (go_at_call 56; (with_reducible show Calls _ _ #[.int .i64 a, _, _, _] _ _); refine HF4.out.mono ?_; rintro e w' ⟨rfl, rfl⟩) | (go_at_call 56; (with_reducible show Calls _ _ #[.int .i64 b, _, _, _] _ _); refine HF5.out.mono ?_; rintro e w' ⟨rfl, rfl⟩))
                  exact HP.out _ 150 HB.out.2.2 (by simp [HE.out])
                · cases F4
                  · have HE : Hid (rokF m ⟨k, n, c, r, s, a, b⟩ = false) := by show _ = _; rw [HRK.out]; simp
                    go_wp2_with (first | (go_at_call 56; (with_reducible show Calls _ _ #[.int .i64 n, _, _, _] _ _); refine HF1.out.mono ?_; rintro e w' ⟨rfl, rfl⟩) | (go_at_call 56; (with_reducible show Calls _ _ #[.int .i64 c, _, _, _] _ _); refine HF2.out.mono ?_; rintro e w' ⟨rfl, rfl⟩) | (go_at_call 56; (with_reducible show Calls _ _ #[.int .i64 s, _, _, _] _ _); refine HF3.out.mono ?_; rintro e w' ⟨rfl, rfl⟩) | (go_at_call 56; (with_reducible show Calls _ _ #[.int .i64 a, _, _, _] _ _); refine HF4.out.mono ?_; rintro e w' ⟨rfl, rfl⟩) | (go_at_call 56; (with_reducible show Calls _ _ #[.int .i64 b, _, _, _] _ _); refine HF5.out.mono ?_; rintro e w' ⟨rfl, rfl⟩))
                    exact HP.out _ 150 HB.out.2.2 (by simp [HE.out])
                  · cases F5
                    · have HE : Hid (rokF m ⟨k, n, c, r, s, a, b⟩ = false) := by show _ = _; rw [HRK.out]; simp
                      go_wp2_with (first | (go_at_call 56; (with_reducible show Calls _ _ #[.int .i64 n, _, _, _] _ _); refine HF1.out.mono ?_; rintro e w' ⟨rfl, rfl⟩) | (go_at_call 56; (with_reducible show Calls _ _ #[.int .i64 c, _, _, _] _ _); refine HF2.out.mono ?_; rintro e w' ⟨rfl, rfl⟩) | (go_at_call 56; (with_reducible show Calls _ _ #[.int .i64 s, _, _, _] _ _); refine HF3.out.mono ?_; rintro e w' ⟨rfl, rfl⟩) | (go_at_call 56; (with_reducible show Calls _ _ #[.int .i64 a, _, _, _] _ _); refine HF4.out.mono ?_; rintro e w' ⟨rfl, rfl⟩) | (go_at_call 56; (with_reducible show Calls _ _ #[.int .i64 b, _, _, _] _ _); refine HF5.out.mono ?_; rintro e w' ⟨rfl, rfl⟩))
                      exact HP.out _ 150 HB.out.2.2 (by simp [HE.out])
                    · by_cases h5 : k = 10
                      · have e5 : (k == 10) = true := by simp [h5]
                        by_cases h6 : s = n
                        · have e6 : (s == n) = true := by simp [h6]
                          have HE : Hid (rokF m ⟨k, n, c, r, s, a, b⟩ = false) := by show _ = _; rw [HRK.out]; simp [h5, h6]
                          clear h5 h6
                          go_wp2_with (first | (go_at_call 56; (with_reducible show Calls _ _ #[.int .i64 n, _, _, _] _ _); refine HF1.out.mono ?_; rintro e w' ⟨rfl, rfl⟩) | (go_at_call 56; (with_reducible show Calls _ _ #[.int .i64 c, _, _, _] _ _); refine HF2.out.mono ?_; rintro e w' ⟨rfl, rfl⟩) | (go_at_call 56; (with_reducible show Calls _ _ #[.int .i64 s, _, _, _] _ _); refine HF3.out.mono ?_; rintro e w' ⟨rfl, rfl⟩) | (go_at_call 56; (with_reducible show Calls _ _ #[.int .i64 a, _, _, _] _ _); refine HF4.out.mono ?_; rintro e w' ⟨rfl, rfl⟩) | (go_at_call 56; (with_reducible show Calls _ _ #[.int .i64 b, _, _, _] _ _); refine HF5.out.mono ?_; rintro e w' ⟨rfl, rfl⟩))
                          exact HP.out _ 150 HB.out.2.2 (by simp [HE.out])
                        · have e6 : (s == n) = false := by simp [h6]
                          have HE : Hid (rokF m ⟨k, n, c, r, s, a, b⟩ = true) := by show _ = _; rw [HRK.out]; simp [h6, HK.out.1, HK.out.2.1, HK.out.2.2.1, HK.out.2.2.2]
                          clear h5 h6
                          go_wp2_with (first | (go_at_call 56; (with_reducible show Calls _ _ #[.int .i64 n, _, _, _] _ _); refine HF1.out.mono ?_; rintro e w' ⟨rfl, rfl⟩) | (go_at_call 56; (with_reducible show Calls _ _ #[.int .i64 c, _, _, _] _ _); refine HF2.out.mono ?_; rintro e w' ⟨rfl, rfl⟩) | (go_at_call 56; (with_reducible show Calls _ _ #[.int .i64 s, _, _, _] _ _); refine HF3.out.mono ?_; rintro e w' ⟨rfl, rfl⟩) | (go_at_call 56; (with_reducible show Calls _ _ #[.int .i64 a, _, _, _] _ _); refine HF4.out.mono ?_; rintro e w' ⟨rfl, rfl⟩) | (go_at_call 56; (with_reducible show Calls _ _ #[.int .i64 b, _, _, _] _ _); refine HF5.out.mono ?_; rintro e w' ⟨rfl, rfl⟩))
                          exact HP.out _ 0 HB.out.2.2 (by simp [HE.out])
                      · have e5 : (k == 10) = false := by simp [h5]
                        have HE : Hid (rokF m ⟨k, n, c, r, s, a, b⟩ = true) := by show _ = _; rw [HRK.out]; simp [h5, HK.out.1, HK.out.2.1, HK.out.2.2.1, HK.out.2.2.2]
                        clear h5
                        go_wp2_with (first | (go_at_call 56; (with_reducible show Calls _ _ #[.int .i64 n, _, _, _] _ _); refine HF1.out.mono ?_; rintro e w' ⟨rfl, rfl⟩) | (go_at_call 56; (with_reducible show Calls _ _ #[.int .i64 c, _, _, _] _ _); refine HF2.out.mono ?_; rintro e w' ⟨rfl, rfl⟩) | (go_at_call 56; (with_reducible show Calls _ _ #[.int .i64 s, _, _, _] _ _); refine HF3.out.mono ?_; rintro e w' ⟨rfl, rfl⟩) | (go_at_call 56; (with_reducible show Calls _ _ #[.int .i64 a, _, _, _] _ _); refine HF4.out.mono ?_; rintro e w' ⟨rfl, rfl⟩) | (go_at_call 56; (with_reducible show Calls _ _ #[.int .i64 b, _, _, _] _ _); refine HF5.out.mono ?_; rintro e w' ⟨rfl, rfl⟩))
                        exact HP.out _ 0 HB.out.2.2 (by simp [HE.out])
  · rw [show errM m = 70 from if_neg hm]
    have HE : Hid (70 = errF m f) := by show _ = _; unfold errF; rw [if_neg hm]
    clear hm
    go_wp2
    exact HP0.out _ _ HB.out.2.2 HE.out
end Go.Proofs.Ytmflnbdajaiahaa
