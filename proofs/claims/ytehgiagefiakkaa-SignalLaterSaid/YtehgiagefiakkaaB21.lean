/- SignalLower: the walk. -/
import Derived.Test.YtehgiagefiakkaaArgs2
import Derived.Test.YtehgiagefiakkaaB10
import Derived.Test.YtehgiagefiakkaaB14
import Derived.Test.YtehgiagefiakkaaB15
import Derived.Test.YtehgiagefiakkaaB19
import Derived.Test.YtehgiagefiakkaaB20
namespace Go.Proofs.Ytehgiagefiakkaa
open Go.RowKit Go.Shelf
open Sched (Sp bad)
open Sig

theorem E37 : Elem Try.prog 37 28 (.agg #[.int .i64 0, .int .i64 0, .int .i64 0, .int .i64 0, .int .i64 0, .slice none 0 0]) 6 64 := ⟨Try.underlying37, by kernel_rfl, rfl, by decide, by decide⟩
theorem ns_of_own {w : World} {base : Nat} {v : Value} {X : List Nat} (h : w.ownsRow base 3 1 v X.length (X.map encI64)) (hl : X.length ≤ 140737488351232) : Ns w v (X.map fun (i : Nat) => (i : Int)) := by
  refine Rd.of_owns (enc := encI .i64) (size := 1) (fun _ => rfl) (base := base) (e := 3) ?_ (by simpa using hl)
  rw [encI_flat, List.map_map, List.length_map]
  exact h
theorem filter_snoc {l : List Sg} {k : Nat} {s : Sg} (p : Sg → Bool) (h : l[k]? = some s) : (l.take (k + 1)).filter p = if p s then (l.take k).filter p ++ [s] else (l.take k).filter p := by
  rw [take_snoc h, List.filter_append]
  cases hp : p s <;> simp [hp]
theorem sgs_of_own {w : World} {base : Nat} {v : Value} {l : List Sg} (h : w.ownsRow base 28 6 v l.length (l.flatMap encSg)) (hl : l.length ≤ 140737488351232) (hg : ∀ s ∈ l, GoodSg w s) : Sgs w v l :=
  ⟨Rd.of_owns (enc := encSg) (size := 6) (fun _ => rfl) h hl, hg⟩
theorem low_of {l : List Sg} {inn : Sp} {t2 : Int} {k n m : Nat} (_ : n = (List.take m (hitsTo l inn t2 k)).length) {Q R : Int → Prop} (H : ∀ t, R t → Q t) (hr : R t2) : Q t2 := H t2 hr
/-- Those of the first k that are strong enough. -/
def flt (th : Int) (l : List Sg) (k : Nat) : List Sg := (l.take k).filter fun s => decide (th ≤ s.lv)
theorem flt_yes {th : Int} {l : List Sg} {k : Nat} {s : Sg} (h : l[k]? = some s) (hl : th ≤ s.lv) : flt th l (k + 1) = flt th l k ++ [s] := by
  unfold flt; rw [filter_snoc _ h, if_pos (by simpa using hl)]
theorem flt_no {th : Int} {l : List Sg} {k : Nat} {s : Sg} (h : l[k]? = some s) (hl : ¬ th ≤ s.lv) : flt th l (k + 1) = flt th l k := by
  unfold flt; rw [filter_snoc _ h, if_neg (by simpa using hl)]
theorem flt_len (th : Int) (l : List Sg) (k : Nat) : (flt th l k).length ≤ k := by
  unfold flt
  exact Nat.le_trans (List.length_filter_le _ _) (List.length_take_le _ _)
theorem blk6 {w : World} {b : Nat} {t : TypeId} {v0 v1 v2 v3 v4 v5 : Value} (h : Blk w b t #[v0, v1, v2, v3, v4, v5]) :
    w.cell? ⟨b, 0, none⟩ = some v0 ∧ w.cell? ⟨b, 1, none⟩ = some v1 ∧ w.cell? ⟨b, 2, none⟩ = some v2 ∧ w.cell? ⟨b, 3, none⟩ = some v3 ∧ w.cell? ⟨b, 4, none⟩ = some v4 ∧ w.cell? ⟨b, 5, none⟩ = some v5 :=
  ⟨h.cell 0, h.cell 1, h.cell 2, h.cell 3, h.cell 4, h.cell 5⟩
/-- The boxes of slot and window. -/
def LB (w W : World) (sf st wf wt : Int) : Prop :=
  Blk W w.heap.size 23 #[.int .i64 sf, .int .i64 st] ∧ Blk W (w.heap.size + 1) 23 #[.int .i64 wf, .int .i64 wt] ∧ Below w.heap.size w W
theorem LB.keep {w W W' : World} {sf st wf wt : Int} (h : LB w W sf st wf wt) (hb : Below W.heap.size W W') : LB w W' sf st wf wt :=
  ⟨h.1.keep' hb, h.2.1.keep' hb, h.2.2.trans (hb.mono h.2.2.size)⟩
theorem LB.cells {w W : World} {sf st wf wt : Int} (h : LB w W sf st wf wt) : W.cell? ⟨w.heap.size, 0, none⟩ = some (.int .i64 sf) ∧ W.cell? ⟨w.heap.size, 1, none⟩ = some (.int .i64 st) ∧ W.cell? ⟨w.heap.size + 1, 0, none⟩ = some (.int .i64 wf) ∧ W.cell? ⟨w.heap.size + 1, 1, none⟩ = some (.int .i64 wt) :=
  ⟨h.1.cell 0, h.1.cell 1, h.2.1.cell 0, h.2.1.cell 1⟩

set_option maxRecDepth 100000 in
set_option maxHeartbeats 6400000 in
theorem lower_walk (l : List Sg) (v : Value) (slot win : Sp) (th less : Int) (hth : -9223372036854775808 ≤ th) (hth' : th ≤ 9223372036854775807) (hl0 : 0 ≤ less) (hl1 : less ≤ 255) (w : World) (h : Sgs w v l) :
    Calls Try.prog 7 #[v, spv slot, spv win, .int .i64 th, .int .u8 less] w fun e w' => e = .returned (.bool true) ∧ Below w.heap.size w w' := by
  have hfew := fun W (hW : Below w.heap.size w W) => few_any l v W (h.below hW)
  have hl60 : (l.take 60).length ≤ 60 := by rw [List.length_take]; omega
  obtain ⟨l', HL'⟩ : ∃ l', Hid (l.take 60 = l') := ⟨_, rfl⟩
  rw [HL'.out] at hfew hl60
  have hj1 := fun W v' (hs : Sgs W v' l') => judge_any l' v' slot win th W hs
  have hj2 := fun W v' (hs : Sgs W v' (l'.filter fun s => decide (th ≤ s.lv))) => judge_any (l'.filter fun s => decide (th ≤ s.lv)) v' slot win th W hs
  have HST := Lib.hid (judge_strong l' slot win th)
  rw [judge_strong] at hj2
  have HLOW : Hid (∀ th', th' ≤ th ∨ th' ≤ 1 → ∀ i ∈ hitsTo l' slot th l'.length, i ∈ hitsTo l' slot th' l'.length) := fun th' hh => hits_lower hh
  have HLEN := Lib.hid (fun th' => hitsTo_len l' slot th' l'.length)
  obtain ⟨sf, st⟩ := slot
  obtain ⟨wf, wt⟩ := win
  unfold JudgePost spv snv at hj1 hj2
  unfold spv
  simp only at hj1 hj2 ⊢
  generalize judge _ _ _ _ = X at *
  obtain ⟨kx, mx, nx, Bx⟩ := X
  simp only at hj1 hj2
  have HSS : Hid (∀ W a1 c1 a2 c2, Byts W (.slice a1 Bx.length c1) Bx → Byts W (.slice a2 Bx.length c2) Bx → Calls Try.prog 21 #[.agg #[.int .i64 kx, .int .i64 mx, .int .i64 nx, .slice a1 Bx.length c1], .agg #[.int .i64 kx, .int .i64 mx, .int .i64 nx, .slice a2 Bx.length c2]] W fun e w' => e = .returned (.bool true) ∧ Below W.heap.size W w') := fun W a1 c1 a2 c2 h1 h2 => by
    have := seensame_any ⟨kx, mx, nx, Bx⟩ ⟨kx, mx, nx, Bx⟩ a1 c1 a2 c2 W h1 h2
    rw [sameSn_self] at this
    exact this
  have HJ : Hid (LB w ((w.alloc (.cells #[.int .i64 sf, .int .i64 st] 23)).alloc (.cells #[.int .i64 wf, .int .i64 wt] 23)) sf st wf wt) :=
    ⟨(Blk.new' rfl).alloc _, Blk.new' (by simp), below2 w _ _⟩
  obtain ⟨a0, c0, rfl, _⟩ := h.1.shape
  clear h HST HL'
  go_enter Try.func7, Try.ntmps7
  go_wp2_with fail
  refine (hfew _ HJ.out.2.2).mono ?_
  rintro e w0 ⟨⟨v', rfl, hs⟩, rfl⟩
  obtain ⟨a, c, rfl, q1, q2, q3⟩ := hs.1.shape
  have HS := Lib.hid hs
  clear hs hfew
  generalize hW0 : (w.alloc (.cells #[.int .i64 sf, .int .i64 st] 23)).alloc (.cells #[.int .i64 wf, .int .i64 wt] 23) = W0 at *
  clear hW0
  obtain ⟨sl0, sl1, wi0, wi1⟩ := HJ.out.cells; have hz1 := HJ.out.2.1.lt; have hz0 := HJ.out.1.lt
  go_wp2_with fail
  refine (heard_any _ _ _ _ _ _ _).mono ?_
  rintro e w9 ⟨rfl, rfl⟩
  go_wp2_with fail
  refine (told_heard l' _ _ _ (by omega) sf st th 99 W0 _ rfl HS.out).mono ?_
  rintro e w1 ⟨⟨a1, c1, n1, rfl, hn1, ho1⟩, hb⟩
  clear hz0 hz1 sl0 sl1 wi0 wi1
  replace HJ := Lib.hid (HJ.out.keep hb)
  replace HS := Lib.hid (HS.out.below hb)
  have HH1 : Hid (Ns w1 (.slice a1 n1 c1) ((hitsTo l' (sf, st) th l'.length).map fun (i : Nat) => (i : Int))) := by
    rw [List.take_of_length_le (by have := HLEN.out th; have : (99 : Int).toNat = 99 := rfl; omega)] at ho1 hn1
    subst hn1
    exact ns_of_own ho1 (by have := HLEN.out th; omega)
  have hn1b : n1 ≤ 60 := by rw [hn1, List.length_take]; have := HLEN.out th; omega
  have HN1 : Hid ((hitsTo l' (sf, st) th l'.length).length = n1) := by
    show _ = _
    rw [hn1, List.take_of_length_le (by have := HLEN.out th; have : (99 : Int).toNat = 99 := rfl; omega)]
  clear hn1 ho1 hb
  obtain ⟨sl0, sl1, wi0, wi1⟩ := HJ.out.cells; have hz1 := HJ.out.2.1.lt; have hz0 := HJ.out.1.lt
  by_cases hbr : th ≤ -1099511627776
  all_goals go_wp2_with fail
  all_goals
    refine (heard_any _ _ _ _ _ _ _).mono ?_
    rintro e w9 ⟨rfl, rfl⟩
    go_wp2_with fail
    refine (told_heard l' _ _ _ (by omega) sf st _ 99 w1 _ rfl HS.out).mono ?_
    rintro e w2 ⟨⟨a2, c2, n2, rfl, hn2, ho2⟩, hb⟩
    clear hz0 hz1 sl0 sl1 wi0 wi1
    have hHL := low_of hn2 HLOW.out (by first | exact Or.inr (by have _h := (hbr : th ≤ -1099511627776); show -1099511627776 - less ≤ 1; omega) | exact Or.inl (show th - less ≤ th by omega))
    have hle := HLEN.out th
    have hL2 := hn2
    rw [List.take_of_length_le (Nat.le_trans (HLEN.out _) (by have : (99 : Int).toNat = 99 := rfl; omega))] at ho2 hn2
    generalize hX1 : hitsTo l' (sf, st) th l'.length = X1 at *
    generalize hX2 : hitsTo l' (sf, st) _ l'.length = X2 at *
    (try rw [hX2] at hHL)
    have hX2l : X2.length ≤ 60 := by rw [← hX2]; exact Nat.le_trans (HLEN.out _) (by omega)
    have hn2b : n2 ≤ 60 := by omega
    have HC : Hid (∀ y ∈ X1.map (fun (i : Nat) => (i : Int)), (X2.map fun (i : Nat) => (i : Int)).contains y = true) := by
      intro y hy
      obtain ⟨i, hi, rfl⟩ := List.mem_map.1 hy
      rw [List.contains_iff_mem]
      exact List.mem_map.2 ⟨i, hHL i hi, rfl⟩
    subst hn2
    have HH2 := Lib.hid (ns_of_own ho2 (by omega))
    replace HH1 := Lib.hid (HH1.out.below (hb.mono (Nat.le_refl _)))
    clear hL2 hX2 ho2 hHL hle hX1 HLOW HLEN
    generalize hn2' : X2.length = n2 at *
    clear hn2'
    replace HJ := Lib.hid (HJ.out.keep hb)
    replace HS := Lib.hid (HS.out.below hb); clear hb
    obtain ⟨sl0, sl1, wi0, wi1⟩ := HJ.out.cells; have hz1 := HJ.out.2.1.lt; have hz0 := HJ.out.1.lt
    go_wp2_with fail
    refine (begun_any _).mono ?_
    rintro e w3 ⟨rfl, hb⟩
    clear hz0 hz1 sl0 sl1 wi0 wi1
    replace HJ := Lib.hid (HJ.out.keep hb)
    replace HS := Lib.hid (HS.out.below hb)
    replace HH1 := Lib.hid (HH1.out.below hb)
    replace HH2 := Lib.hid (HH2.out.below hb); clear hb
    obtain ⟨sl0, sl1, wi0, wi1⟩ := HJ.out.cells; have hz1 := HJ.out.2.1.lt; have hz0 := HJ.out.1.lt
    have hcon := fun y => contains_any (.slice a2 n2 c2) _ y w3 HH2.out
    go_wp2_with fail
    go_loop [38] (fun i => ∃ k : Nat, k ≤ n1 ∧ i = .int .i64 k) (fun i => n1 - (intOf i).toNat)
    case atStart => exact ⟨0, Nat.zero_le _, rfl⟩
    case round =>
      obtain ⟨k, hk, rfl⟩ := hrel
      by_cases hlt : k < n1
      · obtain ⟨y, hy⟩ : ∃ y, (X1.map fun (i : Nat) => (i : Int))[k]? = some y := ⟨_, List.getElem?_eq_getElem (by rw [List.length_map, HN1.out]; exact hlt)⟩
        obtain ⟨b, off, rfl, hbl, hc⟩ := HH1.out.row (by intro h0; rw [h0] at hy; simp at hy)
        have k0 : w3.cell? ⟨b, off + k, none⟩ = some (.int .i64 y) := hc.one (f := fun x => .int .i64 x) hy
        have hcy := hcon y
        rw [HC.out y (List.mem_of_getElem? hy)] at hcy
        have HCY := Lib.hid hcy
        clear hcy hc hcon hy
        go_wp2_with (go_at_call 29; refine HCY.out.mono ?_; rintro e w' ⟨rfl, rfl⟩)
        go_round
        case rel => exact ⟨k + 1, by omega, by go_num⟩
        case measure => simp [intOf]; omega
      · obtain rfl : k = n1 := by omega
        clear hcon
        go_wp2_with fail
        clear hz0 hz1 sl0 sl1 wi0 wi1
        go_loopw [15, 49] (fun v i wr => ∃ k : Nat, k ≤ l'.length ∧ i = .int .i64 k ∧ Hid (wr.ownsRow w3.heap.size 28 6 v (flt th l' k).length ((flt th l' k).flatMap encSg)) ∧ Hid (Below w3.heap.size w3 wr)) (fun _ i _ => l'.length - (intOf i).toNat)
        case atStart => exact ⟨0, Nat.zero_le _, rfl, World.ownsRow_nil _ _ _ _, Below.refl _ _⟩
        case round =>
          obtain ⟨k, hk, rfl, HO, HB⟩ := hrel
          by_cases hlt : k < l'.length
          · obtain ⟨s, hs0⟩ : ∃ s, l'[k]? = some s := ⟨_, List.getElem?_eq_getElem hlt⟩
            have hSg := HS.out.below HB.out
            obtain ⟨b, off, rfl, hbl, hcc⟩ := hSg.1.row (by rintro rfl; simp at hlt)
            obtain ⟨e0, e1, e2, e3, e4, e5⟩ := sg_cells hcc hs0
            have hfl := flt_len th l' k
            have HY := Lib.hid (@flt_yes th l' k s hs0)
            have HN := Lib.hid (@flt_no th l' k s hs0)
            have hbs := HB.out.size
            have hsh := owns_shape HO.out
            obtain ⟨oa, oc, rfl, _, _, _⟩ := hsh
            clear hSg hcc hs0
            obtain ⟨fr, ⟨f, t⟩, lv, n, a, c, Bs⟩ := s
            simp only at e0 e1 e2 e3 e4 e5 HY HN
            generalize hLb : Bs.length = Lb at *
            generalize hFk : flt th l' k = Fk at *
            have HL := Lib.hid hLb
            clear hLb hFk
            go_upto_region 16 with fail
            have D : Blk (wr.alloc (.cells #[.int .i64 fr, .int .i64 f, .int .i64 t, .int .i64 lv, .int .i64 n, .slice a Lb c] 28)) wr.heap.size 28 #[.int .i64 fr, .int .i64 f, .int .i64 t, .int .i64 lv, .int .i64 n, .slice a Lb c] := Blk.new' rfl
            replace HO := Lib.hid (HO.out.alloc (.cells #[.int .i64 fr, .int .i64 f, .int .i64 t, .int .i64 lv, .int .i64 n, .slice a Lb c] 28))
            replace HB := Lib.hid (HB.out.alloc (by omega) (.cells #[.int .i64 fr, .int .i64 f, .int .i64 t, .int .i64 lv, .int .i64 n, .slice a Lb c] 28))
            have hz : wr.heap.size < (wr.alloc (.cells #[.int .i64 fr, .int .i64 f, .int .i64 t, .int .i64 lv, .int .i64 n, .slice a Lb c] 28)).heap.size := by simp
            clear e0 e1 e2 e3 e4 e5 hbs hbl
            generalize wr.heap.size = D0 at *
            generalize wr.alloc (.cells #[.int .i64 fr, .int .i64 f, .int .i64 t, .int .i64 lv, .int .i64 n, .slice a Lb c] 28) = wr1 at *
            have hbs := HB.out.size
            obtain ⟨e0, e1, e2, e3, e4, e5⟩ := blk6 D
            by_cases hlev : th ≤ lv
            · go_wp2_with (at_builtin; refine wpList_app1 E37 rfl (.tmp 57) (.tmp 59) rfl HO.out [.int .i64 fr, .int .i64 f, .int .i64 t, .int .i64 lv, .int .i64 n, .slice a Lb c] rfl (by simp [Value.oneCell']) rfl rfl (by omega) (by omega) ?_; intro v' w1 ho hg; obtain ⟨oa', oc', rfl, _⟩ := owns_shape ho; have HO1 := Lib.hid ho; have HB1 := Lib.hid (below_app HB.out (Nat.le_refl _) HO.out hg hbs); clear ho hg)
              go_roundw
              case rel =>
                refine ⟨k + 1, by omega, by go_num, ?_, HB1.out⟩
                rw [HY.out hlev]
                subst_vars
                show World.ownsRow _ _ _ _ _ _ _
                simpa [encSg] using HO1.out
              case measure => simp [intOf]; omega
            · go_wp2_with fail
              go_roundw
              case rel =>
                refine ⟨k + 1, by omega, by go_num, ?_, HB.out⟩
                rw [HN.out hlev]
                subst_vars
                exact HO.out
              case measure => simp [intOf]; omega
          · obtain rfl : k = l'.length := by omega
            go_wp2_with fail
            have HSF : Hid (Sgs wr u15 (l'.filter fun s => decide (th ≤ s.lv))) := by
              have := HO.out
              unfold flt at this
              rw [List.take_length] at this
              exact sgs_of_own this (Nat.le_trans (List.length_filter_le _ _) (by omega)) (fun s hs => (HS.out.below HB.out).2 s (List.mem_filter.1 hs).1)
            have HS3 := Lib.hid (HS.out.below HB.out)
            replace HJ := Lib.hid (HJ.out.keep HB.out)
            obtain ⟨oa, oc, rfl, _⟩ := owns_shape HO.out
            have H1 : wr.drew.cell? ⟨w.heap.size, 0, none⟩ = some (.int .i64 sf) ∧ wr.drew.cell? ⟨w.heap.size, 1, none⟩ = some (.int .i64 st) ∧ wr.drew.cell? ⟨w.heap.size + 1, 0, none⟩ = some (.int .i64 wf) ∧ wr.drew.cell? ⟨w.heap.size + 1, 1, none⟩ = some (.int .i64 wt) ∧ Below wr.heap.size wr wr.drew := by
              obtain ⟨x0, x1, x2, x3⟩ := HJ.out.cells
              exact ⟨x0, x1, x2, x3, (Below.refl _ _).drew⟩
            have HXA := Lib.hid HJ.out.2.2
            clear HJ HS HO HB
            refine wp_region_held_drew (S := (fun W => W.cell? ⟨w.heap.size, 0, none⟩ = some (.int .i64 sf) ∧ W.cell? ⟨w.heap.size, 1, none⟩ = some (.int .i64 st) ∧ W.cell? ⟨w.heap.size + 1, 0, none⟩ = some (.int .i64 wf) ∧ W.cell? ⟨w.heap.size + 1, 1, none⟩ = some (.int .i64 wt) ∧ Below wr.heap.size wr W)) (by kernel_rfl) (by assumption) (fun hHeld => ?_)
            (refine takeW (i := 0) (v := ?_) rfl (by kernel_rfl) (by kernel_rfl) (by kernel_rfl) (fun _ _ _ h => h) (by rfl) (by assumption) ?_ ?_; rotate_left; (intro W hW; (try dsimp only at hW); go_simp; try with_reducible rfl); (try simp only [Act.put, List.setIfInBounds_toArray, List.set_cons_zero, List.set_cons_succ]))
            (refine takeW (i := 1) (v := ?_) rfl (by kernel_rfl) (by kernel_rfl) (by kernel_rfl) (fun _ _ _ h => h) (by rfl) (by assumption) ?_ ?_; rotate_left; (intro W hW; (try dsimp only at hW); go_simp; try with_reducible rfl); (try simp only [Act.put, List.setIfInBounds_toArray, List.set_cons_zero, List.set_cons_succ]))
            (refine takeW (i := 2) (v := ?_) rfl (by kernel_rfl) (by kernel_rfl) (by kernel_rfl) (fun _ _ _ h => h) (by rfl) (by assumption) ?_ ?_; rotate_left; (intro W hW; (try dsimp only at hW); go_simp; try with_reducible rfl); (try simp only [Act.put, List.setIfInBounds_toArray, List.set_cons_zero, List.set_cons_succ]))
            (refine takeW (i := 3) (v := ?_) rfl (by kernel_rfl) (by kernel_rfl) (by kernel_rfl) (fun _ _ _ h => h) (by rfl) (by assumption) ?_ ?_; rotate_left; (intro W hW; (try dsimp only at hW); go_simp; try with_reducible rfl); (try simp only [Act.put, List.setIfInBounds_toArray, List.set_cons_zero, List.set_cons_succ]))
            (refine takeW (i := 5) (v := ?_) rfl (by kernel_rfl) (by kernel_rfl) (by kernel_rfl) (fun _ _ _ h => h) (by rfl) (by assumption) ?_ ?_; rotate_left; (intro W hW; (try dsimp only at hW); go_simp; try with_reducible rfl); (try simp only [Act.put, List.setIfInBounds_toArray, List.set_cons_zero, List.set_cons_succ]))
            (refine takeW (i := 6) (v := ?_) rfl (by kernel_rfl) (by kernel_rfl) (by kernel_rfl) (fun _ _ _ h => h) (by rfl) (by assumption) ?_ ?_; rotate_left; (intro W hW; (try dsimp only at hW); go_simp; try with_reducible rfl); (try simp only [Act.put, List.setIfInBounds_toArray, List.set_cons_zero, List.set_cons_succ]))
            (refine takeW (i := 7) (v := ?_) rfl (by kernel_rfl) (by kernel_rfl) (by kernel_rfl) (fun _ _ _ h => h) (by rfl) (by assumption) ?_ ?_; rotate_left; (intro W hW; (try dsimp only at hW); go_simp; try with_reducible rfl); (try simp only [Act.put, List.setIfInBounds_toArray, List.set_cons_zero, List.set_cons_succ]))
            (refine takeW (i := 8) (v := ?_) rfl (by kernel_rfl) (by kernel_rfl) (by kernel_rfl) (fun _ _ _ h => h) (by rfl) (by assumption) ?_ ?_; rotate_left; (intro W hW; (try dsimp only at hW); go_simp; try with_reducible rfl); (try simp only [Act.put, List.setIfInBounds_toArray, List.set_cons_zero, List.set_cons_succ]))
            (refine takeC (i := 4) rfl (by kernel_rfl) (by rfl) (fun K hK => ?_); go_simp; (refine (hj1 _ _ (HS3.out.below hHeld.2.2.2.2)).mono ?_; rintro e w4 ⟨a4, c4, rfl, hx1, hb⟩; have hs : w4.cell? ⟨w.heap.size, 0, none⟩ = some (.int .i64 sf) ∧ w4.cell? ⟨w.heap.size, 1, none⟩ = some (.int .i64 st) ∧ w4.cell? ⟨w.heap.size + 1, 0, none⟩ = some (.int .i64 wf) ∧ w4.cell? ⟨w.heap.size + 1, 1, none⟩ = some (.int .i64 wt) ∧ Below wr.heap.size wr w4 := ⟨keepCell hb hHeld.1, keepCell hb hHeld.2.1, keepCell hb hHeld.2.2.1, keepCell hb hHeld.2.2.2.1, hHeld.2.2.2.2.trans (hb.mono hHeld.2.2.2.2.size)⟩; have HX1 := Lib.hid hx1; clear hx1 hb); refine hK.out _ _ hs (fun hHeld => ?_); clear hK K; (try simp only [Act.put, List.setIfInBounds_toArray, List.set_cons_zero, List.set_cons_succ]))
            (refine takeC (i := 9) rfl (by kernel_rfl) (by rfl) (fun K hK => ?_); go_simp; (refine (hj2 _ _ (HSF.out.below hHeld.2.2.2.2)).mono ?_; rintro e w5 ⟨a5, c5, rfl, hx2, hb⟩; have hs : w5.cell? ⟨w.heap.size, 0, none⟩ = some (.int .i64 sf) ∧ w5.cell? ⟨w.heap.size, 1, none⟩ = some (.int .i64 st) ∧ w5.cell? ⟨w.heap.size + 1, 0, none⟩ = some (.int .i64 wf) ∧ w5.cell? ⟨w.heap.size + 1, 1, none⟩ = some (.int .i64 wt) ∧ Below wr.heap.size wr w5 := ⟨keepCell hb hHeld.1, keepCell hb hHeld.2.1, keepCell hb hHeld.2.2.1, keepCell hb hHeld.2.2.2.1, hHeld.2.2.2.2.trans (hb.mono hHeld.2.2.2.2.size)⟩; have HX2 := Lib.hid hx2; replace HX1 := Lib.hid (HX1.out.below hb); clear hx2 hb); refine hK.out _ _ hs (fun hHeld => ?_); clear hK K; (try simp only [Act.put, List.setIfInBounds_toArray, List.set_cons_zero, List.set_cons_succ]))
            (refine takeC (i := 10) rfl (by kernel_rfl) (by rfl) (fun K hK => ?_); go_simp; (refine (HSS.out _ _ _ _ _ HX1.out HX2.out).mono ?_; rintro e w6 ⟨rfl, hb⟩; have hs : w6.cell? ⟨w.heap.size, 0, none⟩ = some (.int .i64 sf) ∧ w6.cell? ⟨w.heap.size, 1, none⟩ = some (.int .i64 st) ∧ w6.cell? ⟨w.heap.size + 1, 0, none⟩ = some (.int .i64 wf) ∧ w6.cell? ⟨w.heap.size + 1, 1, none⟩ = some (.int .i64 wt) ∧ Below wr.heap.size wr w6 := ⟨keepCell hb hHeld.1, keepCell hb hHeld.2.1, keepCell hb hHeld.2.2.1, keepCell hb hHeld.2.2.2.1, hHeld.2.2.2.2.trans (hb.mono hHeld.2.2.2.2.size)⟩; clear hb); refine hK.out _ _ hs (fun hHeld => ?_); clear hK K; (try simp only [Act.put, List.setIfInBounds_toArray, List.set_cons_zero, List.set_cons_succ]))
            (refine takeW (i := 11) (v := ?_) rfl (by kernel_rfl) (by kernel_rfl) (by kernel_rfl) (fun _ _ _ h => h) (by rfl) (by assumption) ?_ ?_; rotate_left; (intro W hW; (try dsimp only at hW); go_simp; try with_reducible rfl); (try simp only [Act.put, List.setIfInBounds_toArray, List.set_cons_zero, List.set_cons_succ]))
            refine wpAnyH_done (by kernel_rfl) ?_ _
            go_wp2
            go_ret
            exact ⟨rfl, HXA.out.trans (hHeld.2.2.2.2.mono HXA.out.size)⟩
end Go.Proofs.Ytehgiagefiakkaa
