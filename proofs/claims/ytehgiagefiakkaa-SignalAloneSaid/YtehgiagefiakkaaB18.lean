/- SignalAlone: the walk. -/
import Derived.Test.YtehgiagefiakkaaArgs2
import Derived.Test.YtehgiagefiakkaaB10
import Derived.Test.YtehgiagefiakkaaB14
import Derived.Test.YtehgiagefiakkaaB15
import Derived.Test.YtehgiagefiakkaaB16
import Derived.Test.YtehgiagefiakkaaB17
namespace Go.Proofs.Ytehgiagefiakkaa
open Go.RowKit Go.Shelf
open Sched (Sp bad)
open Sig

theorem air_pos {n : Int} (h1 : 1 ≤ n) (h2 : n ≤ 4095) : 15 ≤ air n := by
  unfold air; rw [if_neg (by omega)]; omega
theorem whole_hit {s : Sg} {slot : Sp} {th : Int} (hw : whole s = true) (hl : ¬ s.lv < th) (h1 : ¬ s.lv < 1) (hi : within s.sp slot = true) : hit slot th s = true := by
  unfold whole at hw
  unfold within at hi
  unfold hit strong meets
  simp only [Bool.and_eq_true, decide_eq_true_eq, Bool.not_eq_true'] at hw hi ⊢
  have := air_pos hw.1.1.2 hw.1.2
  refine ⟨⟨⟨by omega, by omega⟩, hw.1.1.1⟩, ⟨⟨⟨⟨hi.1.1.1, hi.1.1.2⟩, by omega⟩, by omega⟩, by omega⟩, by omega⟩
theorem hits1 (s : Sg) (slot : Sp) (th : Int) : hitsTo [s] slot th 1 = if hit slot th s then [0] else [] := by
  cases h : hit slot th s <;> simp [hitsTo, hitAt, h, List.range_succ]
theorem hits2 (o s : Sg) (slot : Sp) (th : Int) (hs : hit slot th s = true) : hitsTo [o, s] slot th 2 = if hit slot th o then [0, 1] else [1] := by
  cases h : hit slot th o <;> simp [hitsTo, hitAt, h, hs, List.range_succ]
theorem judge1 {s : Sg} {slot win : Sp} {th : Int} (hh : hit slot th s = true) (hc : clr s slot win = true) : judge [s] slot win th = ⟨2, s.sp.1, s.n, s.b⟩ := by
  unfold judge
  rw [show [s].length = 1 from rfl, hits1, hh]
  simp [judgeOf, hc]
theorem judge2 {o s : Sg} {slot win : Sp} {th : Int} (hh : hit slot th s = true) (hc : clr s slot win = true) : judge [o, s] slot win th = if hit slot th o then ⟨1, 0, 0, []⟩ else ⟨2, s.sp.1, s.n, s.b⟩ := by
  unfold judge
  rw [show [o, s].length = 2 from rfl, hits2 o s slot th hh]
  cases hit slot th o <;> simp [judgeOf, hc]

def AJ (w W : World) (fr f t lv n : Int) (a : Option Addr) (L c : Nat) (fr' f' t' lv' n' : Int) (a' : Option Addr) (L' c' : Nat) (sf st wf wt : Int) : Prop :=
  Blk W w.heap.size 28 #[.int .i64 fr, .int .i64 f, .int .i64 t, .int .i64 lv, .int .i64 n, .slice a L c] ∧ Blk W (w.heap.size + 1) 28 #[.int .i64 fr', .int .i64 f', .int .i64 t', .int .i64 lv', .int .i64 n', .slice a' L' c'] ∧ Blk W (w.heap.size + 1 + 1) 23 #[.int .i64 sf, .int .i64 st] ∧ Blk W (w.heap.size + 1 + 1 + 1) 23 #[.int .i64 wf, .int .i64 wt] ∧ Below w.heap.size w W
section
variable {w W W' : World} {fr f t lv n : Int} {a : Option Addr} {L c : Nat} {fr' f' t' lv' n' : Int} {a' : Option Addr} {L' c' : Nat} {sf st wf wt : Int}
theorem AJ.keep (h : AJ w W fr f t lv n a L c fr' f' t' lv' n' a' L' c' sf st wf wt) (hb : Below W.heap.size W W') : AJ w W' fr f t lv n a L c fr' f' t' lv' n' a' L' c' sf st wf wt :=
  ⟨h.1.keep' hb, h.2.1.keep' hb, h.2.2.1.keep' hb, h.2.2.2.1.keep' hb, h.2.2.2.2.trans (hb.mono h.2.2.2.2.size)⟩
theorem AJ.below (h : AJ w W fr f t lv n a L c fr' f' t' lv' n' a' L' c' sf st wf wt) : Below w.heap.size w W := h.2.2.2.2
theorem AJ.cells (h : AJ w W fr f t lv n a L c fr' f' t' lv' n' a' L' c' sf st wf wt) : W.cell? ⟨w.heap.size, 0, none⟩ = some (.int .i64 fr) ∧ W.cell? ⟨w.heap.size, 1, none⟩ = some (.int .i64 f) ∧ W.cell? ⟨w.heap.size, 2, none⟩ = some (.int .i64 t) ∧ W.cell? ⟨w.heap.size, 3, none⟩ = some (.int .i64 lv) ∧ W.cell? ⟨w.heap.size, 4, none⟩ = some (.int .i64 n) ∧ W.cell? ⟨w.heap.size, 5, none⟩ = some (.slice a L c) ∧ W.cell? ⟨w.heap.size + 1, 0, none⟩ = some (.int .i64 fr') ∧ W.cell? ⟨w.heap.size + 1, 1, none⟩ = some (.int .i64 f') ∧ W.cell? ⟨w.heap.size + 1, 2, none⟩ = some (.int .i64 t') ∧ W.cell? ⟨w.heap.size + 1, 3, none⟩ = some (.int .i64 lv') ∧ W.cell? ⟨w.heap.size + 1, 4, none⟩ = some (.int .i64 n') ∧ W.cell? ⟨w.heap.size + 1, 5, none⟩ = some (.slice a' L' c') ∧ W.cell? ⟨w.heap.size + 1 + 1, 0, none⟩ = some (.int .i64 sf) ∧ W.cell? ⟨w.heap.size + 1 + 1, 1, none⟩ = some (.int .i64 st) ∧ W.cell? ⟨w.heap.size + 1 + 1 + 1, 0, none⟩ = some (.int .i64 wf) ∧ W.cell? ⟨w.heap.size + 1 + 1 + 1, 1, none⟩ = some (.int .i64 wt) :=
  ⟨h.1.cell 0, h.1.cell 1, h.1.cell 2, h.1.cell 3, h.1.cell 4, h.1.cell 5, h.2.1.cell 0, h.2.1.cell 1, h.2.1.cell 2, h.2.1.cell 3, h.2.1.cell 4, h.2.1.cell 5, h.2.2.1.cell 0, h.2.2.1.cell 1, h.2.2.2.1.cell 0, h.2.2.2.1.cell 1⟩
end

set_option maxRecDepth 100000 in
set_option maxHeartbeats 6400000 in
theorem alone_walk (s o : Sg) (slot win : Sp) (th : Int) (w : World) (hs : GoodSg w s) (ho : GoodSg w o) :
    Calls Try.prog 6 #[sgv s, sgv o, spv slot, spv win, .int .i64 th] w fun e w' => e = .returned (.bool true) ∧ Below w.heap.size w w' := by
  have hwh : ∀ W, Below w.heap.size w W → _ := fun W hW => whole_any s W (hs.below hW)
  have hwi := fun W => rwithin_any s.sp.1 s.sp.2 slot.1 slot.2 W
  have hck := fun W => rcheck_any win.1 win.2 W
  have HCH : Hid (chk win = if bad win then 60 else 0) := rfl
  have HH := Lib.hid (@whole_hit s slot th)
  have HCL : Hid (clr s slot win = (whole s && within s.sp slot && !bad win && decide (win.1 ≤ s.sp.1) && decide (s.sp.1 < win.2))) := rfl
  have HJ1 := Lib.hid (@judge1 s slot win th)
  have HJ2 := Lib.hid (@judge2 o s slot win th)
  have HT1 := Lib.hid (hits1 o slot th)
  have hj1 : ∀ W v', Sgs W v' [s] → _ := fun W v' h => judge_any [s] v' slot win th W h
  have hj2 : ∀ W v', Sgs W v' [o, s] → _ := fun W v' h => judge_any [o, s] v' slot win th W h
  have HGS := Lib.hid hs
  have HGO := Lib.hid ho
  have HN1 : Hid (∀ W, Below w.heap.size w W → Sgs (W.alloc (.cells #[.int .i64 s.fr, .int .i64 s.sp.1, .int .i64 s.sp.2, .int .i64 s.lv, .int .i64 s.n, .slice s.ba s.b.length s.bc] 28)) (.slice (some ⟨W.heap.size, 0, none⟩) 1 1) [s]) := fun W hW =>
    ⟨Rd.new (enc := encSg) (size := 6) (fun _ => rfl) [s] (by simp), fun x hx => by
      obtain rfl : x = s := by simpa using hx
      exact hs.below (hW.alloc hW.size _)⟩
  have HN1o : Hid (∀ W, Below w.heap.size w W → Sgs (W.alloc (.cells #[.int .i64 o.fr, .int .i64 o.sp.1, .int .i64 o.sp.2, .int .i64 o.lv, .int .i64 o.n, .slice o.ba o.b.length o.bc] 28)) (.slice (some ⟨W.heap.size, 0, none⟩) 1 1) [o]) := fun W hW =>
    ⟨Rd.new (enc := encSg) (size := 6) (fun _ => rfl) [o] (by simp), fun x hx => by
      obtain rfl : x = o := by simpa using hx
      exact ho.below (hW.alloc hW.size _)⟩
  have HN2 : Hid (∀ W, Below w.heap.size w W → Sgs (W.alloc (.cells #[.int .i64 o.fr, .int .i64 o.sp.1, .int .i64 o.sp.2, .int .i64 o.lv, .int .i64 o.n, .slice o.ba o.b.length o.bc, .int .i64 s.fr, .int .i64 s.sp.1, .int .i64 s.sp.2, .int .i64 s.lv, .int .i64 s.n, .slice s.ba s.b.length s.bc] 28)) (.slice (some ⟨W.heap.size, 0, none⟩) 2 2) [o, s]) := fun W hW =>
    ⟨Rd.new (enc := encSg) (size := 6) (fun _ => rfl) [o, s] (by simp), fun x hx => by
      rcases (by simpa using hx : x = o ∨ x = s) with rfl | rfl
      · exact ho.below (hW.alloc hW.size _)
      · exact hs.below (hW.alloc hW.size _)⟩
  have HBS : Hid (∀ W a1 c1, Below w.heap.size w W → Byts W (.slice a1 s.b.length c1) s.b → Calls Try.prog 26 #[.slice a1 s.b.length c1, .slice s.ba s.b.length s.bc] W fun e w' => e = .returned (.bool true) ∧ Below W.heap.size W w') := fun W a1 c1 hW hy => by
    have := bequal_any a1 c1 s.b s.ba s.bc s.b W hy (hs.below hW).1
    simpa using this
  have HSS : Hid (∀ W a1 c1 a2 c2, Byts W (.slice a1 s.b.length c1) s.b → Byts W (.slice a2 s.b.length c2) s.b → Calls Try.prog 21 #[.agg #[.int .i64 2, .int .i64 s.sp.1, .int .i64 s.n, .slice a1 s.b.length c1], .agg #[.int .i64 2, .int .i64 s.sp.1, .int .i64 s.n, .slice a2 s.b.length c2]] W fun e w' => e = .returned (.bool true) ∧ Below W.heap.size W w') := fun W a1 c1 a2 c2 h1 h2 => by
    have := seensame_any ⟨2, s.sp.1, s.n, s.b⟩ ⟨2, s.sp.1, s.n, s.b⟩ a1 c1 a2 c2 W h1 h2
    rw [sameSn_self] at this
    exact this
  obtain ⟨sf, st⟩ := slot
  obtain ⟨wf, wt⟩ := win
  obtain ⟨fr, ⟨f, t⟩, lv, n, a, c, B⟩ := s
  obtain ⟨fr', ⟨f', t'⟩, lv', n', a', c', B'⟩ := o
  unfold JudgePost spv snv at hj1 hj2
  unfold sgv spv at *
  simp only at hwh hwi hck HH HCL HJ1 HJ2 HN1 HN1o HN2 HBS HSS ⊢
  clear hs ho
  have HL0 : Hid (B.length = B.length) := rfl
  generalize hL : B.length = L at *
  generalize hL' : B'.length = L' at *
  have HL := Lib.hid hL
  clear hL hL' HL0
  have HJ : Hid (AJ w ((((w.alloc (.cells #[.int .i64 fr, .int .i64 f, .int .i64 t, .int .i64 lv, .int .i64 n, .slice a L c] 28)).alloc (.cells #[.int .i64 fr', .int .i64 f', .int .i64 t', .int .i64 lv', .int .i64 n', .slice a' L' c'] 28)).alloc (.cells #[.int .i64 sf, .int .i64 st] 23)).alloc (.cells #[.int .i64 wf, .int .i64 wt] 23)) fr f t lv n a L c fr' f' t' lv' n' a' L' c' sf st wf wt) :=
    ⟨(((Blk.new' rfl).alloc _).alloc _).alloc _, ((Blk.new' (by simp)).alloc _).alloc _, (Blk.new' (by simp)).alloc _, Blk.new' (by simp), (below3 w _ _ _).alloc (by simp; omega) _⟩
  generalize hp : whole _ = p at *
  generalize hq : within _ _ = q at *
  generalize hr : bad (wf, wt) = r at *
  generalize hcl : clr _ _ _ = cl at *
  have HP := Lib.hid hp
  clear hp hq hr hcl
  go_enter Try.func6, Try.ntmps6
  go_wp2_with fail
  refine (begun_any _).mono ?_
  rintro e w1 ⟨rfl, hb⟩
  replace HJ := Lib.hid (HJ.out.keep hb); clear hb
  obtain ⟨so0, so1, so2, so3, so4, so5, oo0, oo1, oo2, oo3, oo4, oo5, sl0, sl1, wi0, wi1⟩ := HJ.out.cells; have hz := HJ.out.2.2.2.1.lt; have hz2 := HJ.out.2.2.1.lt; have hz1 := HJ.out.2.1.lt; have hz0 := HJ.out.1.lt
  go_wp2_with fail
  refine (hwh _ HJ.out.below).mono ?_
  rintro e w2 ⟨rfl, hb⟩
  clear hz hz0 hz1 hz2 so0 so1 so2 so3 so4 so5 oo0 oo1 oo2 oo3 oo4 oo5 sl0 sl1 wi0 wi1
  replace HJ := Lib.hid (HJ.out.keep hb); clear hb
  cases p
  · (obtain ⟨so0, so1, so2, so3, so4, so5, oo0, oo1, oo2, oo3, oo4, oo5, sl0, sl1, wi0, wi1⟩ := HJ.out.cells; have hz := HJ.out.2.2.2.1.lt; have hz2 := HJ.out.2.2.1.lt; have hz1 := HJ.out.2.1.lt; have hz0 := HJ.out.1.lt; go_wp2_with fail; refine (begun_any _).mono ?_; rintro e w9 ⟨rfl, hb9⟩; go_wp2; go_ret; exact ⟨rfl, (HJ.out.keep hb9).below⟩)
  obtain ⟨so0, so1, so2, so3, so4, so5, oo0, oo1, oo2, oo3, oo4, oo5, sl0, sl1, wi0, wi1⟩ := HJ.out.cells; have hz := HJ.out.2.2.2.1.lt; have hz2 := HJ.out.2.2.1.lt; have hz1 := HJ.out.2.1.lt; have hz0 := HJ.out.1.lt
  by_cases h1 : lv < th
  · (go_wp2_with fail; refine (begun_any _).mono ?_; rintro e w9 ⟨rfl, hb9⟩; go_wp2; go_ret; exact ⟨rfl, (HJ.out.keep hb9).below⟩)
  by_cases h2 : lv < 1
  · (go_wp2_with fail; refine (begun_any _).mono ?_; rintro e w9 ⟨rfl, hb9⟩; go_wp2; go_ret; exact ⟨rfl, (HJ.out.keep hb9).below⟩)
  go_wp2_with fail
  refine (hwi _).mono ?_
  rintro e w3 ⟨rfl, hb⟩
  clear hz hz0 hz1 hz2 so0 so1 so2 so3 so4 so5 oo0 oo1 oo2 oo3 oo4 oo5 sl0 sl1 wi0 wi1
  replace HJ := Lib.hid (HJ.out.keep hb); clear hb
  cases q
  · (obtain ⟨so0, so1, so2, so3, so4, so5, oo0, oo1, oo2, oo3, oo4, oo5, sl0, sl1, wi0, wi1⟩ := HJ.out.cells; have hz := HJ.out.2.2.2.1.lt; have hz2 := HJ.out.2.2.1.lt; have hz1 := HJ.out.2.1.lt; have hz0 := HJ.out.1.lt; go_wp2_with fail; refine (begun_any _).mono ?_; rintro e w9 ⟨rfl, hb9⟩; go_wp2; go_ret; exact ⟨rfl, (HJ.out.keep hb9).below⟩)
  obtain ⟨so0, so1, so2, so3, so4, so5, oo0, oo1, oo2, oo3, oo4, oo5, sl0, sl1, wi0, wi1⟩ := HJ.out.cells; have hz := HJ.out.2.2.2.1.lt; have hz2 := HJ.out.2.2.1.lt; have hz1 := HJ.out.2.1.lt; have hz0 := HJ.out.1.lt
  go_wp2_with fail
  refine (hck _).mono ?_
  rintro e w4 ⟨rfl, hb⟩
  clear hz hz0 hz1 hz2 so0 so1 so2 so3 so4 so5 oo0 oo1 oo2 oo3 oo4 oo5 sl0 sl1 wi0 wi1
  replace HJ := Lib.hid (HJ.out.keep hb); clear hb
  cases r
  rotate_left
  · have HC : chk (wf, wt) = 60 := HCH.out
    rw [HC]
    (obtain ⟨so0, so1, so2, so3, so4, so5, oo0, oo1, oo2, oo3, oo4, oo5, sl0, sl1, wi0, wi1⟩ := HJ.out.cells; have hz := HJ.out.2.2.2.1.lt; have hz2 := HJ.out.2.2.1.lt; have hz1 := HJ.out.2.1.lt; have hz0 := HJ.out.1.lt; go_wp2_with fail; refine (begun_any _).mono ?_; rintro e w9 ⟨rfl, hb9⟩; go_wp2; go_ret; exact ⟨rfl, (HJ.out.keep hb9).below⟩)
  have HC : chk (wf, wt) = 0 := HCH.out
  rw [HC]
  clear HC
  obtain ⟨so0, so1, so2, so3, so4, so5, oo0, oo1, oo2, oo3, oo4, oo5, sl0, sl1, wi0, wi1⟩ := HJ.out.cells; have hz := HJ.out.2.2.2.1.lt; have hz2 := HJ.out.2.2.1.lt; have hz1 := HJ.out.2.1.lt; have hz0 := HJ.out.1.lt
  by_cases h3 : f < wf
  · (go_wp2_with fail; refine (begun_any _).mono ?_; rintro e w9 ⟨rfl, hb9⟩; go_wp2; go_ret; exact ⟨rfl, (HJ.out.keep hb9).below⟩)
  by_cases h4 : f ≥ wt
  · (go_wp2_with fail; refine (begun_any _).mono ?_; rintro e w9 ⟨rfl, hb9⟩; go_wp2; go_ret; exact ⟨rfl, (HJ.out.keep hb9).below⟩)
  have hcl : cl = true := by
    rw [HCL.out]
    simp only [Bool.true_and, Bool.not_false, Bool.and_eq_true, decide_eq_true_eq]
    omega
  have hhit := HH.out (by first | trivial | exact HP.out) h1 h2 (by first | rfl | trivial)
  have hX := HJ1.out hhit hcl
  have hY := HJ2.out hhit hcl
  rw [hX] at hj1
  rw [hY] at hj2
  simp only [HL.out] at hj1
  clear hX hY hhit HJ1 HJ2 HH HCL HCH hcl hwh hwi hck
  go_wp2_with fail
  refine (hj1 _ _ (HN1.out _ HJ.out.below)).mono ?_
  rintro e w5 ⟨a1, c1, rfl, hx1, hb⟩
  clear hz hz0 hz1 hz2 so0 so1 so2 so3 so4 so5 oo0 oo1 oo2 oo3 oo4 oo5 sl0 sl1 wi0 wi1
  replace HJ := Lib.hid ((HJ.out.keep (bt (below1 _ _) hb)).keep (below1 w5 (.cells #[.int .i64 2, .int .i64 f, .int .i64 n, .slice a1 L c1] 39))); clear hb hj1
  have HX1 := Lib.hid (hx1.below (below1 w5 (.cells #[.int .i64 2, .int .i64 f, .int .i64 n, .slice a1 L c1] 39))); clear hx1
  have HD : Hid (Blk (w5.alloc (.cells #[.int .i64 2, .int .i64 f, .int .i64 n, .slice a1 L c1] 39)) w5.heap.size 39 #[.int .i64 2, .int .i64 f, .int .i64 n, .slice a1 L c1]) := (Blk.new' rfl : Blk _ _ _ _)
  obtain ⟨so0, so1, so2, so3, so4, so5, oo0, oo1, oo2, oo3, oo4, oo5, sl0, sl1, wi0, wi1⟩ := HJ.out.cells; have hz := HJ.out.2.2.2.1.lt; have hz2 := HJ.out.2.2.1.lt; have hz1 := HJ.out.2.1.lt; have hz0 := HJ.out.1.lt
  go_wp2_with fail
  refine (HBS.out _ _ _ HJ.out.below HX1.out).mono ?_
  rintro e w6 ⟨rfl, hb⟩
  clear hz hz0 hz1 hz2 so0 so1 so2 so3 so4 so5 oo0 oo1 oo2 oo3 oo4 oo5 sl0 sl1 wi0 wi1
  replace HJ := Lib.hid (HJ.out.keep hb)
  replace HX1 := Lib.hid (HX1.out.below hb)
  replace HD := Lib.hid (Blk.keep' HD.out hb); clear hb
  generalize w5.heap.size = D1 at *
  obtain ⟨so0, so1, so2, so3, so4, so5, oo0, oo1, oo2, oo3, oo4, oo5, sl0, sl1, wi0, wi1⟩ := HJ.out.cells; have hz := HJ.out.2.2.2.1.lt; have hz2 := HJ.out.2.2.1.lt; have hz1 := HJ.out.2.1.lt; have hz0 := HJ.out.1.lt
  generalize hho : hit _ _ _ = ho at *
  have hX9 : (hitsTo [(⟨fr', (f', t'), lv', n', a', c', B'⟩ : Sg)] (sf, st) th 1) = if ho then [0] else [] := HT1.out
  have HX9 := Lib.hid hX9
  clear hho hX9 HT1
  have hho9 : ∀ W, Below W.heap.size W W := fun W => Below.refl _ _
  have HTL : Hid (∀ W, Sgs W (.slice (some ⟨W.heap.size - 1, 0, none⟩) 1 1) [(⟨fr', (f', t'), lv', n', a', c', B'⟩ : Sg)] → True) := fun _ _ => trivial
  clear hho9 HTL
  have HTD : Hid (∀ W D, W.heap.size = D → Sgs W (.slice (some ⟨D - 1, 0, none⟩) 1 1) [(⟨fr', (f', t'), lv', n', a', c', B'⟩ : Sg)] → Calls Try.prog 27 #[.func (.func 44) #[] #[.pointer (some ⟨D, 0, none⟩), .pointer (some ⟨D + 1 + 1, 0, none⟩), .pointer (some ⟨D + 1, 0, none⟩)], .int .i64 9]
      (((W.alloc (.cells #[.slice (some ⟨D - 1, 0, none⟩) 1 1] 37)).alloc (.cells #[.int .i64 sf, .int .i64 st] 23)).alloc (.cells #[.int .i64 th] 3)) fun e w' =>
        (∃ a' c', e = .returned (.slice a' (if ho then 1 else 0) c')) ∧ Below W.heap.size W w') := fun W D hD hS => by
    refine (told_heard _ _ _ _ (by simp) sf st th 9 W D hD hS).mono ?_
    rintro e w' ⟨⟨a9, c9, n9, rfl, rfl, _⟩, hb⟩
    refine ⟨⟨a9, c9, ?_⟩, hb⟩
    rw [show [(⟨fr', (f', t'), lv', n', a', c', B'⟩ : Sg)].length = 1 from rfl, HX9.out]
    cases ho <;> rfl
  clear HX9
  cases ho
  · simp only [if_false, Bool.false_eq_true] at hj2
    simp only [HL.out] at hj2
    go_wp2_with fail
    refine (hj2 _ _ (HN2.out _ HJ.out.below)).mono ?_
    rintro e w7 ⟨a2, c2, rfl, hx2, hb⟩
    clear hz hz0 hz1 hz2 so0 so1 so2 so3 so4 so5 oo0 oo1 oo2 oo3 oo4 oo5 sl0 sl1 wi0 wi1
    have hba := bt (below1 w6 (.cells #[.int .i64 fr', .int .i64 f', .int .i64 t', .int .i64 lv', .int .i64 n', .slice a' L' c', .int .i64 fr, .int .i64 f, .int .i64 t, .int .i64 lv, .int .i64 n, .slice a L c] 28)) hb
    replace HJ := Lib.hid ((HJ.out.keep hba).keep (below1 w7 (.cells #[.int .i64 2, .int .i64 f, .int .i64 n, .slice a2 L c2] 39)))
    replace HX1 := Lib.hid ((HX1.out.below hba).below (below1 w7 (.cells #[.int .i64 2, .int .i64 f, .int .i64 n, .slice a2 L c2] 39)))
    replace HD := Lib.hid (Blk.keep' (Blk.keep' HD.out hba) (below1 w7 (.cells #[.int .i64 2, .int .i64 f, .int .i64 n, .slice a2 L c2] 39)))
    have HX2 := Lib.hid (hx2.below (below1 w7 (.cells #[.int .i64 2, .int .i64 f, .int .i64 n, .slice a2 L c2] 39)))
    have HE : Hid (Blk (w7.alloc (.cells #[.int .i64 2, .int .i64 f, .int .i64 n, .slice a2 L c2] 39)) w7.heap.size 39 #[.int .i64 2, .int .i64 f, .int .i64 n, .slice a2 L c2]) := (Blk.new' rfl : Blk _ _ _ _)
    clear hx2 hb hba hj2
    obtain ⟨so0, so1, so2, so3, so4, so5, oo0, oo1, oo2, oo3, oo4, oo5, sl0, sl1, wi0, wi1⟩ := HJ.out.cells; have hz := HJ.out.2.2.2.1.lt; have hz2 := HJ.out.2.2.1.lt; have hz1 := HJ.out.2.1.lt; have hz0 := HJ.out.1.lt
    go_upto_region 7 with fail
    clear hz hz0 hz1 hz2 so0 so1 so2 so3 so4 so5 oo0 oo1 oo2 oo3 oo4 oo5 sl0 sl1 wi0 wi1
    generalize w7.heap.size = D2 at HE ⊢
    generalize w7.alloc (.cells #[.int .i64 2, .int .i64 f, .int .i64 n, .slice a2 L c2] 39) = w8 at *
    obtain ⟨so0, so1, so2, so3, so4, so5, oo0, oo1, oo2, oo3, oo4, oo5, sl0, sl1, wi0, wi1⟩ := HJ.out.cells; have hz := HJ.out.2.2.2.1.lt; have hz2 := HJ.out.2.2.1.lt; have hz1 := HJ.out.2.1.lt; have hz0 := HJ.out.1.lt
    go_wp2_with fail
    refine (heard_any _ _ _ _ _ _ _).mono ?_
    rintro e w9 ⟨rfl, rfl⟩
    go_wp2_with fail
    refine (HTD.out (w8.alloc (.cells #[.int .i64 fr', .int .i64 f', .int .i64 t', .int .i64 lv', .int .i64 n', .slice a' L' c'] 28)) (w8.heap.size + 1) (by simp) (HN1o.out _ HJ.out.below)).mono ?_
    rintro e w9 ⟨⟨a3, c3, rfl⟩, hb⟩
    clear hz hz0 hz1 hz2 so0 so1 so2 so3 so4 so5 oo0 oo1 oo2 oo3 oo4 oo5 sl0 sl1 wi0 wi1
    have hba := bt (below1 w8 _) hb
    have X1 := Blk.keep' HD.out hba
    have X2 := Blk.keep' HE.out hba
    replace HX1 := Lib.hid (HX1.out.below hba)
    replace HX2 := Lib.hid (HX2.out.below hba)
    have HB9 := Lib.hid (HJ.out.keep hba).below
    obtain ⟨x0, x1, x2, x3⟩ := blk4 X1
    obtain ⟨y0, y1, y2, y3⟩ := blk4 X2
    clear hba hb X1 X2 HJ HD HE
    go_wp2_with fail
    refine (HSS.out _ _ _ _ _ HX1.out HX2.out).mono ?_
    rintro e w10 ⟨rfl, hb⟩
    go_wp2
    go_ret
    exact ⟨rfl, bt HB9.out hb⟩
  · simp only [if_true] at hj2
    simp only [List.length_nil] at hj2
    go_wp2_with fail
    refine (hj2 _ _ (HN2.out _ HJ.out.below)).mono ?_
    rintro e w7 ⟨a2, c2, rfl, hx2, hb⟩
    clear hz hz0 hz1 hz2 so0 so1 so2 so3 so4 so5 oo0 oo1 oo2 oo3 oo4 oo5 sl0 sl1 wi0 wi1
    have hba := bt (below1 w6 (.cells #[.int .i64 fr', .int .i64 f', .int .i64 t', .int .i64 lv', .int .i64 n', .slice a' L' c', .int .i64 fr, .int .i64 f, .int .i64 t, .int .i64 lv, .int .i64 n, .slice a L c] 28)) hb
    replace HJ := Lib.hid ((HJ.out.keep hba).keep (below1 w7 (.cells #[.int .i64 1, .int .i64 0, .int .i64 0, .slice a2 0 c2] 39)))
    replace HX1 := Lib.hid ((HX1.out.below hba).below (below1 w7 (.cells #[.int .i64 1, .int .i64 0, .int .i64 0, .slice a2 0 c2] 39)))
    replace HD := Lib.hid (Blk.keep' (Blk.keep' HD.out hba) (below1 w7 (.cells #[.int .i64 1, .int .i64 0, .int .i64 0, .slice a2 0 c2] 39)))
    have HX2 := Lib.hid (hx2.below (below1 w7 (.cells #[.int .i64 1, .int .i64 0, .int .i64 0, .slice a2 0 c2] 39)))
    have HE : Hid (Blk (w7.alloc (.cells #[.int .i64 1, .int .i64 0, .int .i64 0, .slice a2 0 c2] 39)) w7.heap.size 39 #[.int .i64 1, .int .i64 0, .int .i64 0, .slice a2 0 c2]) := (Blk.new' rfl : Blk _ _ _ _)
    clear hx2 hb hba hj2
    obtain ⟨so0, so1, so2, so3, so4, so5, oo0, oo1, oo2, oo3, oo4, oo5, sl0, sl1, wi0, wi1⟩ := HJ.out.cells; have hz := HJ.out.2.2.2.1.lt; have hz2 := HJ.out.2.2.1.lt; have hz1 := HJ.out.2.1.lt; have hz0 := HJ.out.1.lt
    go_upto_region 7 with fail
    clear hz hz0 hz1 hz2 so0 so1 so2 so3 so4 so5 oo0 oo1 oo2 oo3 oo4 oo5 sl0 sl1 wi0 wi1
    generalize w7.heap.size = D2 at HE ⊢
    generalize w7.alloc (.cells #[.int .i64 1, .int .i64 0, .int .i64 0, .slice a2 0 c2] 39) = w8 at *
    obtain ⟨so0, so1, so2, so3, so4, so5, oo0, oo1, oo2, oo3, oo4, oo5, sl0, sl1, wi0, wi1⟩ := HJ.out.cells; have hz := HJ.out.2.2.2.1.lt; have hz2 := HJ.out.2.2.1.lt; have hz1 := HJ.out.2.1.lt; have hz0 := HJ.out.1.lt
    go_wp2_with fail
    refine (heard_any _ _ _ _ _ _ _).mono ?_
    rintro e w9 ⟨rfl, rfl⟩
    go_wp2_with fail
    refine (HTD.out (w8.alloc (.cells #[.int .i64 fr', .int .i64 f', .int .i64 t', .int .i64 lv', .int .i64 n', .slice a' L' c'] 28)) (w8.heap.size + 1) (by simp) (HN1o.out _ HJ.out.below)).mono ?_
    rintro e w9 ⟨⟨a3, c3, rfl⟩, hb⟩
    clear hz hz0 hz1 hz2 so0 so1 so2 so3 so4 so5 oo0 oo1 oo2 oo3 oo4 oo5 sl0 sl1 wi0 wi1
    have hba := bt (below1 w8 _) hb
    have X1 := Blk.keep' HD.out hba
    have X2 := Blk.keep' HE.out hba
    replace HX1 := Lib.hid (HX1.out.below hba)
    replace HX2 := Lib.hid (HX2.out.below hba)
    have HB9 := Lib.hid (HJ.out.keep hba).below
    obtain ⟨x0, x1, x2, x3⟩ := blk4 X1
    obtain ⟨y0, y1, y2, y3⟩ := blk4 X2
    clear hba hb X1 X2 HJ HD HE
    go_wp2
    go_ret
    exact ⟨rfl, HB9.out⟩
end Go.Proofs.Ytehgiagefiakkaa
