/- Make of the program and of the document. -/
import Derived.Test.YtehgiagefiakkaaB7
import Derived.Test.YtehgiagefiakkaaReg
import Derived.Deep.DeepCutAuto
namespace Go.Proofs.Ytehgiagefiakkaa
open Go.RowKit Go.Shelf
open Sched (Sp bad)
open Sig

theorem set6_heap (w : World) (b g : Nat) (v0 v1 v2 v3 v4 v5 : Value) (h : g ≠ b) : ((((((w.setCell ⟨b, 0, none⟩ v0).setCell ⟨b, 1, none⟩ v1).setCell ⟨b, 2, none⟩ v2).setCell ⟨b, 3, none⟩ v3).setCell ⟨b, 4, none⟩ v4).setCell ⟨b, 5, none⟩ v5).heap[g]? = w.heap[g]? := by
  rw [Below.heap_setCell _ _ _ _ h, Below.heap_setCell _ _ _ _ h, Below.heap_setCell _ _ _ _ h, Below.heap_setCell _ _ _ _ h, Below.heap_setCell _ _ _ _ h, Below.heap_setCell _ _ _ _ h]
theorem set6_cell {w : World} {b b' o' : Nat} {v0 v1 v2 v3 v4 v5 : Value} (h : b' ≠ b) : ((((((w.setCell ⟨b, 0, none⟩ v0).setCell ⟨b, 1, none⟩ v1).setCell ⟨b, 2, none⟩ v2).setCell ⟨b, 3, none⟩ v3).setCell ⟨b, 4, none⟩ v4).setCell ⟨b, 5, none⟩ v5).cell? ⟨b', o', none⟩ = w.cell? ⟨b', o', none⟩ :=
  World.cell?_of_block (set6_heap w b b' v0 v1 v2 v3 v4 v5 h)
theorem set6_far {w : World} {b b' : Nat} {t : TypeId} {cs : Array Value} {v0 v1 v2 v3 v4 v5 : Value} (h : b' ≠ b) (hb : Blk w b' t cs) : Blk ((((((w.setCell ⟨b, 0, none⟩ v0).setCell ⟨b, 1, none⟩ v1).setCell ⟨b, 2, none⟩ v2).setCell ⟨b, 3, none⟩ v3).setCell ⟨b, 4, none⟩ v4).setCell ⟨b, 5, none⟩ v5) b' t cs :=
  (set6_heap w b b' v0 v1 v2 v3 v4 v5 h).trans hb
theorem set6_below {B : Nat} {a w : World} (b : Nat) (hb : B ≤ b) (h : Below B a w) (v0 v1 v2 v3 v4 v5 : Value) : Below B a ((((((w.setCell ⟨b, 0, none⟩ v0).setCell ⟨b, 1, none⟩ v1).setCell ⟨b, 2, none⟩ v2).setCell ⟨b, 3, none⟩ v3).setCell ⟨b, 4, none⟩ v4).setCell ⟨b, 5, none⟩ v5) :=
  (((((h.setCell (p := ⟨b, 0, none⟩) hb _).setCell (p := ⟨b, 1, none⟩) hb _).setCell (p := ⟨b, 2, none⟩) hb _).setCell (p := ⟨b, 3, none⟩) hb _).setCell (p := ⟨b, 4, none⟩) hb _).setCell (p := ⟨b, 5, none⟩) hb _
theorem Blk.set6 {w : World} {b : Nat} {t : TypeId} {a0 a1 a2 a3 a4 a5 : Value} (h : Blk w b t #[a0, a1, a2, a3, a4, a5]) (v0 v1 v2 v3 v4 v5 : Value) :
    Blk ((((((w.setCell ⟨b, 0, none⟩ v0).setCell ⟨b, 1, none⟩ v1).setCell ⟨b, 2, none⟩ v2).setCell ⟨b, 3, none⟩ v3).setCell ⟨b, 4, none⟩ v4).setCell ⟨b, 5, none⟩ v5) b t #[v0, v1, v2, v3, v4, v5] := by
  simpa using (((((h.set 0 v0).set 1 v1).set 2 v2).set 3 v3).set 4 v4).set 5 v5
/-- Bytes are as they were behind a store into a block in which none lies. -/
theorem Byts.setB {W : World} {v : Value} {l : List Int} {b : Nat} {t : TypeId} {cs : Array Value} (h : Byts W v l) (hb : Blk W b t cs) (hc : ∀ x, Value.int .u8 x ∉ cs) (i : Nat) (x : Value) : Byts (W.setCell ⟨b, i, none⟩ x) v l :=
  h.far (g := b) (fun o x hx => by rw [hb.cell o] at hx; exact hc x (Array.mem_of_getElem? hx)) (fun b' hb' => Below.heap_setCell W ⟨b, i, none⟩ x b' hb') (by simp [World.setCell])

theorem whole_bd {s : Sg} (h : whole s = true) : I64 s.fr ∧ I64 s.sp.1 ∧ I64 s.sp.2 ∧ I64 s.lv ∧ I64 s.n := by
  unfold whole at h
  simp only [Bool.and_eq_true, decide_eq_true_eq, Bool.not_eq_true'] at h
  obtain ⟨⟨⟨h1, h2⟩, h3⟩, _⟩ := h
  have hb := badS_false h1
  unfold badS at h1
  simp only [Bool.or_eq_false_iff, decide_eq_false_iff_not] at h1
  unfold I64
  omega
def mkOk (fr a lv n : Int) (B : List Int) : Bool := decide (0 ≤ a) && decide (a ≤ 1099511627776) && whole ⟨fr, (a, a + air n), lv, n, none, 0, B⟩
def mkS (ok : Bool) (fr a lv n : Int) (ba : Option Addr) (bc : Nat) (B : List Int) : Sg := if ok then ⟨fr, (a, a + air n), lv, n, ba, bc, B⟩ else ⟨0, (0, 0), 0, 0, none, 0, []⟩
def MakePost (fr a lv n : Int) (B : List Int) (w : World) (e : Ending) (w' : World) : Prop :=
  ∃ ba bc, e = .returned (.tuple #[sgv (mkS (mkOk fr a lv n B) fr a lv n ba bc B), .int .i64 (if mkOk fr a lv n B then 0 else 110)]) ∧ GoodSg w' (mkS (mkOk fr a lv n B) fr a lv n ba bc B) ∧ Below w.heap.size w w'
theorem make_no {fr a lv n : Int} {B : List Int} {w w' : World} (h : mkOk fr a lv n B = false) (hb : Below w.heap.size w w') :
    MakePost fr a lv n B w (.returned (.tuple #[.agg #[.int .i64 0, .int .i64 0, .int .i64 0, .int .i64 0, .int .i64 0, .slice none 0 0], .int .i64 110])) w' := by
  unfold MakePost
  rw [h]
  exact ⟨none, 0, rfl, ⟨Byts.nil _, by unfold mkS I64; simp⟩, hb⟩

set_option maxRecDepth 100000 in
set_option maxHeartbeats 3200000 in
theorem make_any (fr a lv n : Int) (ba : Option Addr) (bc : Nat) (B : List Int) (w : World) (h : Byts w (.slice ba B.length bc) B) (hfr : I64 fr) (hlv : I64 lv) (hn : I64 n) :
    Calls Try.prog 9 #[.int .i64 fr, .int .i64 a, .int .i64 lv, .agg #[.int .i64 n, .slice ba B.length bc]] w (MakePost fr a lv n B w) := by
  have hM : Hid (mkOk fr a lv n B = (decide (0 ≤ a) && decide (a ≤ 1099511627776) && whole ⟨fr, (a, a + air n), lv, n, none, 0, B⟩)) := rfl
  have hal : Below w.heap.size w ((w.alloc (.cells #[.int .i64 n, .slice ba B.length bc] 26)).alloc (.cells #[.int .i64 0, .int .i64 0, .int .i64 0, .int .i64 0, .int .i64 0, .slice none 0 0] 28)) := below2 w _ _
  by_cases h0 : a < 0
  · have HN : Hid (mkOk fr a lv n B = false) := by show _ = _; rw [hM.out]; simp; omega
    clear h hM
    generalize B.length = L at *
    go_enter Try.func9, Try.ntmps9
    go_wp2
    exact bodyPost_ret (v := .tuple #[.agg #[.int .i64 0, .int .i64 0, .int .i64 0, .int .i64 0, .int .i64 0, .slice none 0 0], .int .i64 110]) (by simp [results, Try.f9, go_sem]) rfl (make_no HN.out hal)
  by_cases h1 : 1099511627776 < a
  · have HN : Hid (mkOk fr a lv n B = false) := by show _ = _; rw [hM.out]; simp; omega
    have h0' : 0 ≤ a := by omega
    clear h hM h0
    generalize B.length = L at *
    go_enter Try.func9, Try.ntmps9
    go_wp2
    exact bodyPost_ret (v := .tuple #[.agg #[.int .i64 0, .int .i64 0, .int .i64 0, .int .i64 0, .int .i64 0, .slice none 0 0], .int .i64 110]) (by simp [results, Try.f9, go_sem]) rfl (make_no HN.out hal)
  have h0' : 0 ≤ a := by omega
  have h1' : a ≤ 1099511627776 := by omega
  have hy := air_bd n
  have HG : Hid (∀ W, Below w.heap.size w W → GoodSg W ⟨fr, (a, a + air n), lv, n, ba, bc, B⟩) := fun W hW => ⟨h.below hW, hfr, by show I64 a; unfold I64; omega, by show I64 (a + air n); unfold I64; omega, hlv, hn⟩
  have hwh : ∀ W, Below w.heap.size w W → _ := fun W hW => whole_any ⟨fr, (a, a + air n), lv, n, ba, bc, B⟩ W (HG.out W hW)
  have hmk : mkOk fr a lv n B = whole ⟨fr, (a, a + air n), lv, n, ba, bc, B⟩ := by rw [hM.out]; simp [h0', h1']; rfl
  have HP : Hid (∀ q, mkOk fr a lv n B = q → ∀ e w', (∃ ba' bc', e = .returned (.tuple #[sgv (mkS q fr a lv n ba' bc' B), .int .i64 (if q then 0 else 110)]) ∧ (q = true → Byts w' (.slice ba' B.length bc') B) ∧ Below w.heap.size w w') → MakePost fr a lv n B w e w') := by
    rintro q hq e w' ⟨ba', bc', he, hb, hbl⟩
    subst hq
    refine ⟨ba', bc', he, ?_, hbl⟩
    cases hm : mkOk fr a lv n B
    · exact ⟨Byts.nil _, by unfold mkS I64; simp⟩
    · exact ⟨hb hm, hfr, by show I64 a; unfold I64; omega, by show I64 (a + air n); unfold I64; omega, hlv, hn⟩
  have hw1 : IntKind.i64.wrap (a + air n) = a + air n := IntWalk.i64_in _ (by omega)
  have hair := fun W => (air_any n W).mono (fun e w' h => (⟨h.1, h.2.symm⟩ : _ ∧ W = w'))
  have hcl : ∀ W, Below w.heap.size w W → _ := fun W hW => bclone_any ba bc B W (h.below hW)
  unfold sgv at hwh
  simp only at hwh
  clear h hM hy h0 h1
  generalize whole _ = q at *
  generalize hye : air n = y at *
  have HY := Lib.hid hye
  clear hye
  have HL := Lib.hid (rfl : B.length = B.length)
  generalize hLe : B.length = L at *
  have HH := Lib.hid hfr
  clear hfr hlv hn
  go_enter Try.func9, Try.ntmps9
  go_upto_region 3 with fail
  go_cut [10] (fun s wx => ∃ K, s = .pointer (some ⟨K, 0, none⟩) ∧ w.heap.size + 1 < K ∧ Blk wx K 28 #[.int .i64 fr, .int .i64 a, .int .i64 (a + y), .int .i64 lv, .int .i64 n, .slice ba L bc] ∧ wx.cell? ⟨w.heap.size, 0, none⟩ = some (.int .i64 n) ∧ wx.cell? ⟨w.heap.size, 1, none⟩ = some (.slice ba L bc) ∧ Blk wx (w.heap.size + 1) 28 #[.int .i64 0, .int .i64 0, .int .i64 0, .int .i64 0, .int .i64 0, .slice none 0 0] ∧ w.heap.size + 1 < wx.heap.size ∧ Below w.heap.size w wx)
  case first =>
    have H1 : ((w.alloc (.cells #[.int .i64 n, .slice ba L bc] 26)).alloc (.cells #[.int .i64 0, .int .i64 0, .int .i64 0, .int .i64 0, .int .i64 0, .slice none 0 0] 28)).drew.cell? ⟨w.heap.size, 0, none⟩ = some (.int .i64 n) ∧ ((w.alloc (.cells #[.int .i64 n, .slice ba L bc] 26)).alloc (.cells #[.int .i64 0, .int .i64 0, .int .i64 0, .int .i64 0, .int .i64 0, .slice none 0 0] 28)).drew.cell? ⟨w.heap.size, 1, none⟩ = some (.slice ba L bc) ∧ Blk ((w.alloc (.cells #[.int .i64 n, .slice ba L bc] 26)).alloc (.cells #[.int .i64 0, .int .i64 0, .int .i64 0, .int .i64 0, .int .i64 0, .slice none 0 0] 28)).drew (w.heap.size + 1) 28 #[.int .i64 0, .int .i64 0, .int .i64 0, .int .i64 0, .int .i64 0, .slice none 0 0] ∧ w.heap.size + 1 < ((w.alloc (.cells #[.int .i64 n, .slice ba L bc] 26)).alloc (.cells #[.int .i64 0, .int .i64 0, .int .i64 0, .int .i64 0, .int .i64 0, .slice none 0 0] 28)).drew.heap.size ∧ Below w.heap.size w ((w.alloc (.cells #[.int .i64 n, .slice ba L bc] 26)).alloc (.cells #[.int .i64 0, .int .i64 0, .int .i64 0, .int .i64 0, .int .i64 0, .slice none 0 0] 28)).drew := ⟨by show World.cell? (World.alloc _ _) _ = _; go_simp, by show World.cell? (World.alloc _ _) _ = _; go_simp, Blk.new' (by simp), by simp [World.drew], hal.drew⟩
    generalize (((w.alloc (.cells #[.int .i64 n, .slice ba L bc] 26)).alloc (.cells #[.int .i64 0, .int .i64 0, .int .i64 0, .int .i64 0, .int .i64 0, .slice none 0 0] 28))) = W0 at *
    refine wp_region_held_drew (S := (fun W => W.cell? ⟨w.heap.size, 0, none⟩ = some (.int .i64 n) ∧ W.cell? ⟨w.heap.size, 1, none⟩ = some (.slice ba L bc) ∧ Blk W (w.heap.size + 1) 28 #[.int .i64 0, .int .i64 0, .int .i64 0, .int .i64 0, .int .i64 0, .slice none 0 0] ∧ w.heap.size + 1 < W.heap.size ∧ Below w.heap.size w W)) (by kernel_rfl) (by assumption) (fun hHeld => ?_)
    generalize W0.drew = Wd at *
    (refine takeW (i := 0) (v := ?_) rfl (by kernel_rfl) (by kernel_rfl) (by kernel_rfl) (fun _ _ _ h => h) (by rfl) (by assumption) ?_ ?_; rotate_left; (intro W hW; (try dsimp only at hW); go_simp; try with_reducible rfl); (try simp only [Act.put, List.setIfInBounds_toArray, List.set_cons_zero, List.set_cons_succ]))
    (refine takeW (i := 1) (v := ?_) rfl (by kernel_rfl) (by kernel_rfl) (by kernel_rfl) (fun _ _ _ h => h) (by rfl) (by assumption) ?_ ?_; rotate_left; (intro W hW; (try dsimp only at hW); go_simp; try with_reducible rfl); (try simp only [Act.put, List.setIfInBounds_toArray, List.set_cons_zero, List.set_cons_succ]))
    (refine takeW (i := 2) (v := ?_) rfl (by kernel_rfl) (by kernel_rfl) (by kernel_rfl) (fun _ _ _ h => h) (by rfl) (by assumption) ?_ ?_; rotate_left; (intro W hW; (try dsimp only at hW); go_simp; try with_reducible rfl); (try simp only [Act.put, List.setIfInBounds_toArray, List.set_cons_zero, List.set_cons_succ]))
    (refine takeW (i := 3) (v := ?_) rfl (by kernel_rfl) (by kernel_rfl) (by kernel_rfl) (fun _ _ _ h => h) (by rfl) (by assumption) ?_ ?_; rotate_left; (intro W hW; (try dsimp only at hW); go_simp; try with_reducible rfl); (try simp only [Act.put, List.setIfInBounds_toArray, List.set_cons_zero, List.set_cons_succ]))
    (refine takeW (i := 4) (v := ?_) rfl (by kernel_rfl) (by kernel_rfl) (by kernel_rfl) (fun _ _ _ h => h) (by rfl) (by assumption) ?_ ?_; rotate_left; (intro W hW; (try dsimp only at hW); go_simp; try with_reducible rfl); (try simp only [Act.put, List.setIfInBounds_toArray, List.set_cons_zero, List.set_cons_succ]))
    (refine takeW (i := 8) (v := ?_) rfl (by kernel_rfl) (by kernel_rfl) (by kernel_rfl) (fun _ _ _ h => h) (by rfl) (by assumption) ?_ ?_; rotate_left; (intro W hW; (try dsimp only at hW); go_simp; try with_reducible rfl); (try simp only [Act.put, List.setIfInBounds_toArray, List.set_cons_zero, List.set_cons_succ]))
    (refine takeW (i := 9) (v := ?_) rfl (by kernel_rfl) (by kernel_rfl) (by kernel_rfl) (fun _ _ _ h => h) (by rfl) (by assumption) ?_ ?_; rotate_left; (intro W hW; (try dsimp only at hW); go_simp; try with_reducible rfl); (try simp only [Act.put, List.setIfInBounds_toArray, List.set_cons_zero, List.set_cons_succ]))
    refine takeC2 (i := 5) (j := 11) rfl rfl (by kernel_rfl) (by rfl) (by rfl) (fun K hK => ?_) (fun K hK => ?_)
    · go_simp; (go_at_call 35; with_reducible refine (hair _).mono ?_; rintro e w' ⟨rfl, rfl⟩; have hs := hHeld); refine hK.out _ _ hs (fun hHeld => ?_); clear hK K; (try simp only [Act.put, List.setIfInBounds_toArray, List.set_cons_zero, List.set_cons_succ])
      (refine takeW (i := 6) (v := ?_) rfl (by kernel_rfl) (by kernel_rfl) (by kernel_rfl) (fun _ _ _ h => h) (by rfl) (by assumption) ?_ ?_; rotate_left; (intro W hW; (try dsimp only at hW); go_simp; try with_reducible rfl); (try simp only [Act.put, List.setIfInBounds_toArray, List.set_cons_zero, List.set_cons_succ]))
      (refine takeW (i := 7) (v := ?_) rfl (by kernel_rfl) (by kernel_rfl) (by kernel_rfl) (fun _ _ _ h => h) (by rfl) (by assumption) ?_ ?_; rotate_left; (intro W hW; (try dsimp only at hW); go_simp; try with_reducible rfl); (try simp only [Act.put, List.setIfInBounds_toArray, List.set_cons_zero, List.set_cons_succ]))
      (refine takeW (i := 10) (v := ?_) rfl (by kernel_rfl) (by kernel_rfl) (by kernel_rfl) (fun _ _ _ h => h) (by rfl) (by assumption) ?_ ?_; rotate_left; (intro W hW; (try dsimp only at hW); go_simp; try with_reducible rfl); (try simp only [Act.put, List.setIfInBounds_toArray, List.set_cons_zero, List.set_cons_succ]))
      (refine takeC (i := 11) rfl (by kernel_rfl) (by rfl) (fun K hK => ?_); go_simp; refine hK.out _ _ ⟨keepCell (below1 _ _) hHeld.1, keepCell (below1 _ _) hHeld.2.1, hHeld.2.2.1.alloc _, by simp; omega, hHeld.2.2.2.2.alloc hHeld.2.2.2.2.size _⟩ (fun hHeld => ?_); clear hK K; have D9 : Blk (Wd.alloc (.cells #[.int .i64 0, .int .i64 0, .int .i64 0, .int .i64 0, .int .i64 0, .slice none 0 0] 28)) Wd.heap.size 28 _ := Blk.new' rfl; generalize Wd.alloc (.cells #[.int .i64 0, .int .i64 0, .int .i64 0, .int .i64 0, .int .i64 0, .slice none 0 0] 28) = Wa at *; have r0 := D9.cell 0; have r1 := D9.cell 1; have r2 := D9.cell 2; have r3 := D9.cell 3; have r4 := D9.cell 4; have r5 := D9.cell 5; have g0 := D9.frozen 0; have g1 := D9.frozen 1; have g2 := D9.frozen 2; have g3 := D9.frozen 3; have g4 := D9.frozen 4; have g5 := D9.frozen 5; simp only [List.getElem?_toArray, List.getElem?_cons_zero, List.getElem?_cons_succ] at r0 r1 r2 r3 r4 r5; (try simp only [Act.put, List.setIfInBounds_toArray, List.set_cons_zero, List.set_cons_succ]))
      (refine takeC (i := 12) rfl (by kernel_rfl) (by rfl) (fun K hK => ?_); go_simp; refine hK.out _ _ ⟨(set6_cell (by omega)).trans hHeld.1, (set6_cell (by omega)).trans hHeld.2.1, set6_far (by omega) hHeld.2.2.1, by simp [World.setCell]; omega, set6_below _ (by omega) hHeld.2.2.2.2 _ _ _ _ _ _⟩ (fun hHeld => ?_); clear hK K; (try simp only [Act.put, List.setIfInBounds_toArray, List.set_cons_zero, List.set_cons_succ]))
      refine wpAnyH_done (by kernel_rfl) ?_ _
      go_wp2_with fail; go_meet; exact ⟨Wd.heap.size, rfl, by omega, D9.set6 _ _ _ _ _ _, hHeld⟩
    · go_simp; refine hK.out _ _ ⟨keepCell (below1 _ _) hHeld.1, keepCell (below1 _ _) hHeld.2.1, hHeld.2.2.1.alloc _, by simp; omega, hHeld.2.2.2.2.alloc hHeld.2.2.2.2.size _⟩ (fun hHeld => ?_); clear hK K; have D9 : Blk (Wd.alloc (.cells #[.int .i64 0, .int .i64 0, .int .i64 0, .int .i64 0, .int .i64 0, .slice none 0 0] 28)) Wd.heap.size 28 _ := Blk.new' rfl; generalize Wd.alloc (.cells #[.int .i64 0, .int .i64 0, .int .i64 0, .int .i64 0, .int .i64 0, .slice none 0 0] 28) = Wa at *; have r0 := D9.cell 0; have r1 := D9.cell 1; have r2 := D9.cell 2; have r3 := D9.cell 3; have r4 := D9.cell 4; have r5 := D9.cell 5; have g0 := D9.frozen 0; have g1 := D9.frozen 1; have g2 := D9.frozen 2; have g3 := D9.frozen 3; have g4 := D9.frozen 4; have g5 := D9.frozen 5; simp only [List.getElem?_toArray, List.getElem?_cons_zero, List.getElem?_cons_succ] at r0 r1 r2 r3 r4 r5; (try simp only [Act.put, List.setIfInBounds_toArray, List.set_cons_zero, List.set_cons_succ])
      (refine takeC (i := 5) rfl (by kernel_rfl) (by rfl) (fun K hK => ?_); go_simp; (go_at_call 35; with_reducible refine (hair _).mono ?_; rintro e w' ⟨rfl, rfl⟩; have hs := hHeld); refine hK.out _ _ hs (fun hHeld => ?_); clear hK K; (try simp only [Act.put, List.setIfInBounds_toArray, List.set_cons_zero, List.set_cons_succ]))
      (refine takeW (i := 6) (v := ?_) rfl (by kernel_rfl) (by kernel_rfl) (by kernel_rfl) (fun _ _ _ h => h) (by rfl) (by assumption) ?_ ?_; rotate_left; (intro W hW; (try dsimp only at hW); go_simp; try with_reducible rfl); (try simp only [Act.put, List.setIfInBounds_toArray, List.set_cons_zero, List.set_cons_succ]))
      (refine takeW (i := 7) (v := ?_) rfl (by kernel_rfl) (by kernel_rfl) (by kernel_rfl) (fun _ _ _ h => h) (by rfl) (by assumption) ?_ ?_; rotate_left; (intro W hW; (try dsimp only at hW); go_simp; try with_reducible rfl); (try simp only [Act.put, List.setIfInBounds_toArray, List.set_cons_zero, List.set_cons_succ]))
      (refine takeW (i := 10) (v := ?_) rfl (by kernel_rfl) (by kernel_rfl) (by kernel_rfl) (fun _ _ _ h => h) (by rfl) (by assumption) ?_ ?_; rotate_left; (intro W hW; (try dsimp only at hW); go_simp; try with_reducible rfl); (try simp only [Act.put, List.setIfInBounds_toArray, List.set_cons_zero, List.set_cons_succ]))
      (refine takeC (i := 12) rfl (by kernel_rfl) (by rfl) (fun K hK => ?_); go_simp; refine hK.out _ _ ⟨(set6_cell (by omega)).trans hHeld.1, (set6_cell (by omega)).trans hHeld.2.1, set6_far (by omega) hHeld.2.2.1, by simp [World.setCell]; omega, set6_below _ (by omega) hHeld.2.2.2.2 _ _ _ _ _ _⟩ (fun hHeld => ?_); clear hK K; (try simp only [Act.put, List.setIfInBounds_toArray, List.set_cons_zero, List.set_cons_succ]))
      refine wpAnyH_done (by kernel_rfl) ?_ _
      go_wp2_with fail; go_meet; exact ⟨Wd.heap.size, rfl, by omega, D9.set6 _ _ _ _ _ _, hHeld⟩
  case rest =>
    obtain ⟨K, rfl, hK, DK, s7n, s7s, D8, hsz, hB⟩ := hcut
    have k0 : wc.cell? ⟨K, 0, none⟩ = some (.int .i64 fr) := DK.cell 0
    have k1 : wc.cell? ⟨K, 1, none⟩ = some (.int .i64 a) := DK.cell 1
    have k2 : wc.cell? ⟨K, 2, none⟩ = some (.int .i64 (a + y)) := DK.cell 2
    have k3 : wc.cell? ⟨K, 3, none⟩ = some (.int .i64 lv) := DK.cell 3
    have k4 : wc.cell? ⟨K, 4, none⟩ = some (.int .i64 n) := DK.cell 4
    have k5 : wc.cell? ⟨K, 5, none⟩ = some (.slice ba L bc) := DK.cell 5
    have hb5w := Lib.hid hB
    clear hair hal
    cases q with
    | false =>
      go_wp2_with (go_at_call 14; refine (hwh _ hB).mono ?_; rintro e w5 ⟨rfl, hb5⟩; have D8 : Blk w5 _ _ _ := (hb5.block _ D8.lt).trans D8; have z0 := D8.cell 0; have z1 := D8.cell 1; have z2 := D8.cell 2; have z3 := D8.cell 3; have z4 := D8.cell 4; have z5 := D8.cell 5; have g0 := D8.frozen 0; have g1 := D8.frozen 1; have g2 := D8.frozen 2; have g3 := D8.frozen 3; have g4 := D8.frozen 4; have g5 := D8.frozen 5; simp only [List.getElem?_toArray, List.getElem?_cons_zero, List.getElem?_cons_succ] at z0 z1 z2 z3 z4 z5; have hB5 := Lib.hid (hB.trans (hb5.mono hB.size)); clear k0 k1 k2 k3 k4 k5 s7n s7s hb5 hwh)
      have DF := D8.set6 (.int .i64 0) (.int .i64 0) (.int .i64 0) (.int .i64 0) (.int .i64 0) (.slice none 0 0)
      have BF := set6_below (w.heap.size + 1) (by omega) hB5.out (.int .i64 0) (.int .i64 0) (.int .i64 0) (.int .i64 0) (.int .i64 0) (.slice none 0 0)
      generalize ((((((w5.setCell ⟨w.heap.size + 1, 0, none⟩ (.int .i64 0)).setCell ⟨w.heap.size + 1, 1, none⟩ (.int .i64 0)).setCell ⟨w.heap.size + 1, 2, none⟩ (.int .i64 0)).setCell ⟨w.heap.size + 1, 3, none⟩ (.int .i64 0)).setCell ⟨w.heap.size + 1, 4, none⟩ (.int .i64 0)).setCell ⟨w.heap.size + 1, 5, none⟩ (.slice none 0 0)) = wf at DF BF ⊢
      have e0 := DF.cell 0
      have e1 := DF.cell 1
      have e2 := DF.cell 2
      have e3 := DF.cell 3
      have e4 := DF.cell 4
      have e5 := DF.cell 5
      simp only [List.getElem?_toArray, List.getElem?_cons_zero, List.getElem?_cons_succ] at e0 e1 e2 e3 e4 e5
      exact bodyPost_ret (v := .tuple #[.agg #[.int .i64 0, .int .i64 0, .int .i64 0, .int .i64 0, .int .i64 0, .slice none 0 0], .int .i64 110]) (by simp [results, Try.f9, go_sem, e0, e1, e2, e3, e4, e5]) rfl (HP.out false hmk _ _ ⟨none, 0, rfl, by simp, BF⟩)
    | true =>
      have s7 := (show _ ∧ _ from ⟨s7n, s7s⟩)
      go_wp2_with (first | (go_at_call 14; refine (hwh _ hB).mono ?_; rintro e w5 ⟨rfl, hb5⟩; have D8 : Blk w5 _ _ _ := (hb5.block _ D8.lt).trans D8; have DK : Blk w5 _ _ _ := (hb5.block _ DK.lt).trans DK; have s5 : w5.cell? ⟨w.heap.size, 1, none⟩ = some (.slice ba L bc) := keepCell hb5 s7.2; have hB5 := hB.trans (hb5.mono hB.size); have hb5' := Lib.hid hB5; clear k0 k1 k2 k3 k4 k5 s7n s7s s7 hb5 hwh) | (go_at_call 36; refine (hcl _ hb5'.out).mono ?_; rintro e w6 ⟨⟨a6, c6, rfl, hy6⟩, hb6⟩; have DK0 : Blk w6 K 28 _ := (hb6.block _ DK.lt).trans DK; have D8 : Blk w6 _ _ _ := (hb6.block _ D8.lt).trans D8; have hB6 := hB5.trans (hb6.mono hB5.size); have D8' := D8.far (p := ⟨K, 5, none⟩) (by show w.heap.size + 1 ≠ K; omega) (.slice a6 L c6); clear D8; have D8 := D8'; clear D8'; have k0 := DK0.cell 0; have k1 := DK0.cell 1; have k2 := DK0.cell 2; have k3 := DK0.cell 3; have k4 := DK0.cell 4; have k5 := DK0.cell 5; have q5 := DK0.frozen 5; have z0 := D8.cell 0; have z1 := D8.cell 1; have z2 := D8.cell 2; have z3 := D8.cell 3; have z4 := D8.cell 4; have z5 := D8.cell 5; have g0 := D8.frozen 0; have g1 := D8.frozen 1; have g2 := D8.frozen 2; have g3 := D8.frozen 3; have g4 := D8.frozen 4; have g5 := D8.frozen 5; simp only [List.getElem?_toArray, List.getElem?_cons_zero, List.getElem?_cons_succ] at z0 z1 z2 z3 z4 z5 k0 k1 k2 k3 k4 k5; clear s5))
      have DF := D8.set6 (.int .i64 fr) (.int .i64 a) (.int .i64 (a + y)) (.int .i64 lv) (.int .i64 n) (.slice a6 L c6)
      have BF := set6_below (w.heap.size + 1) (by omega) (hB6.setCell (p := ⟨K, 5, none⟩) (by show w.heap.size ≤ K; omega) (.slice a6 L c6)) (.int .i64 fr) (.int .i64 a) (.int .i64 (a + y)) (.int .i64 lv) (.int .i64 n) (.slice a6 L c6)
      have Y1 := hy6.setB DK0 (by intro x; simp) 5 (.slice a6 L c6)
      have Y2 := Y1.setB D8 (by intro x; simp) 0 (.int .i64 fr)
      have Y3 := Y2.setB (D8.set 0 (.int .i64 fr)) (by intro x; simp) 1 (.int .i64 a)
      have Y4 := Y3.setB ((D8.set 0 (.int .i64 fr)).set 1 (.int .i64 a)) (by intro x; simp) 2 (.int .i64 (a + y))
      have Y5 := Y4.setB (((D8.set 0 (.int .i64 fr)).set 1 (.int .i64 a)).set 2 (.int .i64 (a + y))) (by intro x; simp) 3 (.int .i64 lv)
      have Y6 := Y5.setB ((((D8.set 0 (.int .i64 fr)).set 1 (.int .i64 a)).set 2 (.int .i64 (a + y))).set 3 (.int .i64 lv)) (by intro x; simp) 4 (.int .i64 n)
      have Y7 := Y6.setB (((((D8.set 0 (.int .i64 fr)).set 1 (.int .i64 a)).set 2 (.int .i64 (a + y))).set 3 (.int .i64 lv)).set 4 (.int .i64 n)) (by intro x; simp) 5 (.slice a6 L c6)
      clear Y1 Y2 Y3 Y4 Y5 Y6
      generalize (((((((w6.setCell ⟨K, 5, none⟩ (.slice a6 L c6)).setCell ⟨w.heap.size + 1, 0, none⟩ (.int .i64 fr)).setCell ⟨w.heap.size + 1, 1, none⟩ (.int .i64 a)).setCell ⟨w.heap.size + 1, 2, none⟩ (.int .i64 (a + y))).setCell ⟨w.heap.size + 1, 3, none⟩ (.int .i64 lv)).setCell ⟨w.heap.size + 1, 4, none⟩ (.int .i64 n)).setCell ⟨w.heap.size + 1, 5, none⟩ (.slice a6 L c6)) = wf at DF BF Y7 ⊢
      have e0 := DF.cell 0
      have e1 := DF.cell 1
      have e2 := DF.cell 2
      have e3 := DF.cell 3
      have e4 := DF.cell 4
      have e5 := DF.cell 5
      simp only [List.getElem?_toArray, List.getElem?_cons_zero, List.getElem?_cons_succ] at e0 e1 e2 e3 e4 e5
      exact bodyPost_ret (v := .tuple #[.agg #[.int .i64 fr, .int .i64 a, .int .i64 (a + y), .int .i64 lv, .int .i64 n, .slice a6 L c6], .int .i64 0]) (by simp [results, Try.f9, go_sem, e0, e1, e2, e3, e4, e5]) rfl (HP.out true hmk _ _ ⟨a6, c6, by simp only [mkS, if_true]; unfold sgv; simp only [hLe, HY.out], fun _ => Y7, BF⟩)

set_option maxRecDepth 100000 in
set_option maxHeartbeats 3200000 in
theorem rmake_any (fr a lv n : Int) (ba : Option Addr) (bc : Nat) (B : List Int) (w : World) (h : Byts w (.slice ba B.length bc) B) (hfr : I64 fr) (hlv : I64 lv) (hn : I64 n) :
    Calls Try.prog 10 #[.int .i64 fr, .int .i64 a, .int .i64 lv, .agg #[.int .i64 n, .slice ba B.length bc]] w (MakePost fr a lv n B w) := by
  have hM : Hid (mkOk fr a lv n B = (decide (0 ≤ a) && decide (a ≤ 1099511627776) && whole ⟨fr, (a, a + air n), lv, n, none, 0, B⟩)) := rfl
  have hal : Below w.heap.size w ((w.alloc (.cells #[.int .i64 n, .slice ba B.length bc] 26)).alloc (.cells #[.int .i64 0, .int .i64 0, .int .i64 0, .int .i64 0, .int .i64 0, .slice none 0 0] 28)) := below2 w _ _
  by_cases h0 : a < 0
  · have HN : Hid (mkOk fr a lv n B = false) := by show _ = _; rw [hM.out]; simp; omega
    clear h hM
    generalize B.length = L at *
    go_enter Try.func10, Try.ntmps10
    go_wp2
    exact bodyPost_ret (v := .tuple #[.agg #[.int .i64 0, .int .i64 0, .int .i64 0, .int .i64 0, .int .i64 0, .slice none 0 0], .int .i64 110]) (by simp [results, Try.f10, go_sem]) rfl (make_no HN.out hal)
  by_cases h1 : 1099511627776 < a
  · have HN : Hid (mkOk fr a lv n B = false) := by show _ = _; rw [hM.out]; simp; omega
    have h0' : 0 ≤ a := by omega
    clear h hM h0
    generalize B.length = L at *
    go_enter Try.func10, Try.ntmps10
    go_wp2
    exact bodyPost_ret (v := .tuple #[.agg #[.int .i64 0, .int .i64 0, .int .i64 0, .int .i64 0, .int .i64 0, .slice none 0 0], .int .i64 110]) (by simp [results, Try.f10, go_sem]) rfl (make_no HN.out hal)
  have h0' : 0 ≤ a := by omega
  have h1' : a ≤ 1099511627776 := by omega
  have hy := air_bd n
  have HG : Hid (∀ W, Below w.heap.size w W → GoodSg W ⟨fr, (a, a + air n), lv, n, ba, bc, B⟩) := fun W hW => ⟨h.below hW, hfr, by show I64 a; unfold I64; omega, by show I64 (a + air n); unfold I64; omega, hlv, hn⟩
  have hwh : ∀ W, Below w.heap.size w W → _ := fun W hW => rwhole_any ⟨fr, (a, a + air n), lv, n, ba, bc, B⟩ W (HG.out W hW)
  have hmk : mkOk fr a lv n B = whole ⟨fr, (a, a + air n), lv, n, ba, bc, B⟩ := by rw [hM.out]; simp [h0', h1']; rfl
  have HP : Hid (∀ q, mkOk fr a lv n B = q → ∀ e w', (∃ ba' bc', e = .returned (.tuple #[sgv (mkS q fr a lv n ba' bc' B), .int .i64 (if q then 0 else 110)]) ∧ (q = true → Byts w' (.slice ba' B.length bc') B) ∧ Below w.heap.size w w') → MakePost fr a lv n B w e w') := by
    rintro q hq e w' ⟨ba', bc', he, hb, hbl⟩
    subst hq
    refine ⟨ba', bc', he, ?_, hbl⟩
    cases hm : mkOk fr a lv n B
    · exact ⟨Byts.nil _, by unfold mkS I64; simp⟩
    · exact ⟨hb hm, hfr, by show I64 a; unfold I64; omega, by show I64 (a + air n); unfold I64; omega, hlv, hn⟩
  have hw1 : IntKind.i64.wrap (a + air n) = a + air n := IntWalk.i64_in _ (by omega)
  have hair := fun W => (rair_any n W).mono (fun e w' h => (⟨h.1, h.2.symm⟩ : _ ∧ W = w'))
  have hcl : ∀ W, Below w.heap.size w W → Byts W (.slice ba B.length bc) B := fun W hW => h.below hW
  have hlen := h.1.len
  unfold sgv at hwh
  simp only at hwh
  clear h hM hy h0 h1
  generalize whole _ = q at *
  generalize hye : air n = y at *
  have HY := Lib.hid hye
  clear hye
  have HL := Lib.hid (rfl : B.length = B.length)
  generalize hLe : B.length = L at *
  have HH := Lib.hid hfr
  clear hfr hlv hn
  go_enter Try.func10, Try.ntmps10
  go_upto_region 3 with fail
  go_cut [10] (fun s wx => ∃ K, s = .pointer (some ⟨K, 0, none⟩) ∧ w.heap.size + 1 < K ∧ Blk wx K 28 #[.int .i64 fr, .int .i64 a, .int .i64 (a + y), .int .i64 lv, .int .i64 n, .slice ba L bc] ∧ wx.cell? ⟨w.heap.size, 0, none⟩ = some (.int .i64 n) ∧ wx.cell? ⟨w.heap.size, 1, none⟩ = some (.slice ba L bc) ∧ Blk wx (w.heap.size + 1) 28 #[.int .i64 0, .int .i64 0, .int .i64 0, .int .i64 0, .int .i64 0, .slice none 0 0] ∧ w.heap.size + 1 < wx.heap.size ∧ Below w.heap.size w wx)
  case first =>
    have H1 : ((w.alloc (.cells #[.int .i64 n, .slice ba L bc] 26)).alloc (.cells #[.int .i64 0, .int .i64 0, .int .i64 0, .int .i64 0, .int .i64 0, .slice none 0 0] 28)).drew.cell? ⟨w.heap.size, 0, none⟩ = some (.int .i64 n) ∧ ((w.alloc (.cells #[.int .i64 n, .slice ba L bc] 26)).alloc (.cells #[.int .i64 0, .int .i64 0, .int .i64 0, .int .i64 0, .int .i64 0, .slice none 0 0] 28)).drew.cell? ⟨w.heap.size, 1, none⟩ = some (.slice ba L bc) ∧ Blk ((w.alloc (.cells #[.int .i64 n, .slice ba L bc] 26)).alloc (.cells #[.int .i64 0, .int .i64 0, .int .i64 0, .int .i64 0, .int .i64 0, .slice none 0 0] 28)).drew (w.heap.size + 1) 28 #[.int .i64 0, .int .i64 0, .int .i64 0, .int .i64 0, .int .i64 0, .slice none 0 0] ∧ w.heap.size + 1 < ((w.alloc (.cells #[.int .i64 n, .slice ba L bc] 26)).alloc (.cells #[.int .i64 0, .int .i64 0, .int .i64 0, .int .i64 0, .int .i64 0, .slice none 0 0] 28)).drew.heap.size ∧ Below w.heap.size w ((w.alloc (.cells #[.int .i64 n, .slice ba L bc] 26)).alloc (.cells #[.int .i64 0, .int .i64 0, .int .i64 0, .int .i64 0, .int .i64 0, .slice none 0 0] 28)).drew := ⟨by show World.cell? (World.alloc _ _) _ = _; go_simp, by show World.cell? (World.alloc _ _) _ = _; go_simp, Blk.new' (by simp), by simp [World.drew], hal.drew⟩
    generalize (((w.alloc (.cells #[.int .i64 n, .slice ba L bc] 26)).alloc (.cells #[.int .i64 0, .int .i64 0, .int .i64 0, .int .i64 0, .int .i64 0, .slice none 0 0] 28))) = W0 at *
    refine wp_region_held_drew (S := (fun W => W.cell? ⟨w.heap.size, 0, none⟩ = some (.int .i64 n) ∧ W.cell? ⟨w.heap.size, 1, none⟩ = some (.slice ba L bc) ∧ Blk W (w.heap.size + 1) 28 #[.int .i64 0, .int .i64 0, .int .i64 0, .int .i64 0, .int .i64 0, .slice none 0 0] ∧ w.heap.size + 1 < W.heap.size ∧ Below w.heap.size w W)) (by kernel_rfl) (by assumption) (fun hHeld => ?_)
    generalize W0.drew = Wd at *
    (refine takeW (i := 0) (v := ?_) rfl (by kernel_rfl) (by kernel_rfl) (by kernel_rfl) (fun _ _ _ h => h) (by rfl) (by assumption) ?_ ?_; rotate_left; (intro W hW; (try dsimp only at hW); go_simp; try with_reducible rfl); (try simp only [Act.put, List.setIfInBounds_toArray, List.set_cons_zero, List.set_cons_succ]))
    (refine takeW (i := 1) (v := ?_) rfl (by kernel_rfl) (by kernel_rfl) (by kernel_rfl) (fun _ _ _ h => h) (by rfl) (by assumption) ?_ ?_; rotate_left; (intro W hW; (try dsimp only at hW); go_simp; try with_reducible rfl); (try simp only [Act.put, List.setIfInBounds_toArray, List.set_cons_zero, List.set_cons_succ]))
    (refine takeW (i := 2) (v := ?_) rfl (by kernel_rfl) (by kernel_rfl) (by kernel_rfl) (fun _ _ _ h => h) (by rfl) (by assumption) ?_ ?_; rotate_left; (intro W hW; (try dsimp only at hW); go_simp; try with_reducible rfl); (try simp only [Act.put, List.setIfInBounds_toArray, List.set_cons_zero, List.set_cons_succ]))
    (refine takeW (i := 3) (v := ?_) rfl (by kernel_rfl) (by kernel_rfl) (by kernel_rfl) (fun _ _ _ h => h) (by rfl) (by assumption) ?_ ?_; rotate_left; (intro W hW; (try dsimp only at hW); go_simp; try with_reducible rfl); (try simp only [Act.put, List.setIfInBounds_toArray, List.set_cons_zero, List.set_cons_succ]))
    (refine takeW (i := 4) (v := ?_) rfl (by kernel_rfl) (by kernel_rfl) (by kernel_rfl) (fun _ _ _ h => h) (by rfl) (by assumption) ?_ ?_; rotate_left; (intro W hW; (try dsimp only at hW); go_simp; try with_reducible rfl); (try simp only [Act.put, List.setIfInBounds_toArray, List.set_cons_zero, List.set_cons_succ]))
    (refine takeW (i := 8) (v := ?_) rfl (by kernel_rfl) (by kernel_rfl) (by kernel_rfl) (fun _ _ _ h => h) (by rfl) (by assumption) ?_ ?_; rotate_left; (intro W hW; (try dsimp only at hW); go_simp; try with_reducible rfl); (try simp only [Act.put, List.setIfInBounds_toArray, List.set_cons_zero, List.set_cons_succ]))
    (refine takeW (i := 9) (v := ?_) rfl (by kernel_rfl) (by kernel_rfl) (by kernel_rfl) (fun _ _ _ h => h) (by rfl) (by assumption) ?_ ?_; rotate_left; (intro W hW; (try dsimp only at hW); go_simp; try with_reducible rfl); (try simp only [Act.put, List.setIfInBounds_toArray, List.set_cons_zero, List.set_cons_succ]))
    refine takeC2 (i := 5) (j := 11) rfl rfl (by kernel_rfl) (by rfl) (by rfl) (fun K hK => ?_) (fun K hK => ?_)
    · go_simp; (go_at_call 37; with_reducible refine (hair _).mono ?_; rintro e w' ⟨rfl, rfl⟩; have hs := hHeld); refine hK.out _ _ hs (fun hHeld => ?_); clear hK K; (try simp only [Act.put, List.setIfInBounds_toArray, List.set_cons_zero, List.set_cons_succ])
      (refine takeW (i := 6) (v := ?_) rfl (by kernel_rfl) (by kernel_rfl) (by kernel_rfl) (fun _ _ _ h => h) (by rfl) (by assumption) ?_ ?_; rotate_left; (intro W hW; (try dsimp only at hW); go_simp; try with_reducible rfl); (try simp only [Act.put, List.setIfInBounds_toArray, List.set_cons_zero, List.set_cons_succ]))
      (refine takeW (i := 7) (v := ?_) rfl (by kernel_rfl) (by kernel_rfl) (by kernel_rfl) (fun _ _ _ h => h) (by rfl) (by assumption) ?_ ?_; rotate_left; (intro W hW; (try dsimp only at hW); go_simp; try with_reducible rfl); (try simp only [Act.put, List.setIfInBounds_toArray, List.set_cons_zero, List.set_cons_succ]))
      (refine takeW (i := 10) (v := ?_) rfl (by kernel_rfl) (by kernel_rfl) (by kernel_rfl) (fun _ _ _ h => h) (by rfl) (by assumption) ?_ ?_; rotate_left; (intro W hW; (try dsimp only at hW); go_simp; try with_reducible rfl); (try simp only [Act.put, List.setIfInBounds_toArray, List.set_cons_zero, List.set_cons_succ]))
      (refine takeC (i := 11) rfl (by kernel_rfl) (by rfl) (fun K hK => ?_); go_simp; refine hK.out _ _ ⟨keepCell (below1 _ _) hHeld.1, keepCell (below1 _ _) hHeld.2.1, hHeld.2.2.1.alloc _, by simp; omega, hHeld.2.2.2.2.alloc hHeld.2.2.2.2.size _⟩ (fun hHeld => ?_); clear hK K; have D9 : Blk (Wd.alloc (.cells #[.int .i64 0, .int .i64 0, .int .i64 0, .int .i64 0, .int .i64 0, .slice none 0 0] 28)) Wd.heap.size 28 _ := Blk.new' rfl; generalize Wd.alloc (.cells #[.int .i64 0, .int .i64 0, .int .i64 0, .int .i64 0, .int .i64 0, .slice none 0 0] 28) = Wa at *; have r0 := D9.cell 0; have r1 := D9.cell 1; have r2 := D9.cell 2; have r3 := D9.cell 3; have r4 := D9.cell 4; have r5 := D9.cell 5; have g0 := D9.frozen 0; have g1 := D9.frozen 1; have g2 := D9.frozen 2; have g3 := D9.frozen 3; have g4 := D9.frozen 4; have g5 := D9.frozen 5; simp only [List.getElem?_toArray, List.getElem?_cons_zero, List.getElem?_cons_succ] at r0 r1 r2 r3 r4 r5; (try simp only [Act.put, List.setIfInBounds_toArray, List.set_cons_zero, List.set_cons_succ]))
      (refine takeC (i := 12) rfl (by kernel_rfl) (by rfl) (fun K hK => ?_); go_simp; refine hK.out _ _ ⟨(set6_cell (by omega)).trans hHeld.1, (set6_cell (by omega)).trans hHeld.2.1, set6_far (by omega) hHeld.2.2.1, by simp [World.setCell]; omega, set6_below _ (by omega) hHeld.2.2.2.2 _ _ _ _ _ _⟩ (fun hHeld => ?_); clear hK K; (try simp only [Act.put, List.setIfInBounds_toArray, List.set_cons_zero, List.set_cons_succ]))
      refine wpAnyH_done (by kernel_rfl) ?_ _
      go_wp2_with fail; go_meet; exact ⟨Wd.heap.size, rfl, by omega, D9.set6 _ _ _ _ _ _, hHeld⟩
    · go_simp; refine hK.out _ _ ⟨keepCell (below1 _ _) hHeld.1, keepCell (below1 _ _) hHeld.2.1, hHeld.2.2.1.alloc _, by simp; omega, hHeld.2.2.2.2.alloc hHeld.2.2.2.2.size _⟩ (fun hHeld => ?_); clear hK K; have D9 : Blk (Wd.alloc (.cells #[.int .i64 0, .int .i64 0, .int .i64 0, .int .i64 0, .int .i64 0, .slice none 0 0] 28)) Wd.heap.size 28 _ := Blk.new' rfl; generalize Wd.alloc (.cells #[.int .i64 0, .int .i64 0, .int .i64 0, .int .i64 0, .int .i64 0, .slice none 0 0] 28) = Wa at *; have r0 := D9.cell 0; have r1 := D9.cell 1; have r2 := D9.cell 2; have r3 := D9.cell 3; have r4 := D9.cell 4; have r5 := D9.cell 5; have g0 := D9.frozen 0; have g1 := D9.frozen 1; have g2 := D9.frozen 2; have g3 := D9.frozen 3; have g4 := D9.frozen 4; have g5 := D9.frozen 5; simp only [List.getElem?_toArray, List.getElem?_cons_zero, List.getElem?_cons_succ] at r0 r1 r2 r3 r4 r5; (try simp only [Act.put, List.setIfInBounds_toArray, List.set_cons_zero, List.set_cons_succ])
      (refine takeC (i := 5) rfl (by kernel_rfl) (by rfl) (fun K hK => ?_); go_simp; (go_at_call 37; with_reducible refine (hair _).mono ?_; rintro e w' ⟨rfl, rfl⟩; have hs := hHeld); refine hK.out _ _ hs (fun hHeld => ?_); clear hK K; (try simp only [Act.put, List.setIfInBounds_toArray, List.set_cons_zero, List.set_cons_succ]))
      (refine takeW (i := 6) (v := ?_) rfl (by kernel_rfl) (by kernel_rfl) (by kernel_rfl) (fun _ _ _ h => h) (by rfl) (by assumption) ?_ ?_; rotate_left; (intro W hW; (try dsimp only at hW); go_simp; try with_reducible rfl); (try simp only [Act.put, List.setIfInBounds_toArray, List.set_cons_zero, List.set_cons_succ]))
      (refine takeW (i := 7) (v := ?_) rfl (by kernel_rfl) (by kernel_rfl) (by kernel_rfl) (fun _ _ _ h => h) (by rfl) (by assumption) ?_ ?_; rotate_left; (intro W hW; (try dsimp only at hW); go_simp; try with_reducible rfl); (try simp only [Act.put, List.setIfInBounds_toArray, List.set_cons_zero, List.set_cons_succ]))
      (refine takeW (i := 10) (v := ?_) rfl (by kernel_rfl) (by kernel_rfl) (by kernel_rfl) (fun _ _ _ h => h) (by rfl) (by assumption) ?_ ?_; rotate_left; (intro W hW; (try dsimp only at hW); go_simp; try with_reducible rfl); (try simp only [Act.put, List.setIfInBounds_toArray, List.set_cons_zero, List.set_cons_succ]))
      (refine takeC (i := 12) rfl (by kernel_rfl) (by rfl) (fun K hK => ?_); go_simp; refine hK.out _ _ ⟨(set6_cell (by omega)).trans hHeld.1, (set6_cell (by omega)).trans hHeld.2.1, set6_far (by omega) hHeld.2.2.1, by simp [World.setCell]; omega, set6_below _ (by omega) hHeld.2.2.2.2 _ _ _ _ _ _⟩ (fun hHeld => ?_); clear hK K; (try simp only [Act.put, List.setIfInBounds_toArray, List.set_cons_zero, List.set_cons_succ]))
      refine wpAnyH_done (by kernel_rfl) ?_ _
      go_wp2_with fail; go_meet; exact ⟨Wd.heap.size, rfl, by omega, D9.set6 _ _ _ _ _ _, hHeld⟩
  case rest =>
    obtain ⟨K, rfl, hK, DK, s7n, s7s, D8, hsz, hB⟩ := hcut
    have k0 : wc.cell? ⟨K, 0, none⟩ = some (.int .i64 fr) := DK.cell 0
    have k1 : wc.cell? ⟨K, 1, none⟩ = some (.int .i64 a) := DK.cell 1
    have k2 : wc.cell? ⟨K, 2, none⟩ = some (.int .i64 (a + y)) := DK.cell 2
    have k3 : wc.cell? ⟨K, 3, none⟩ = some (.int .i64 lv) := DK.cell 3
    have k4 : wc.cell? ⟨K, 4, none⟩ = some (.int .i64 n) := DK.cell 4
    have k5 : wc.cell? ⟨K, 5, none⟩ = some (.slice ba L bc) := DK.cell 5
    have hb5w := Lib.hid hB
    clear hair hal
    cases q with
    | false =>
      go_wp2_with (go_at_call 15; refine (hwh _ hB).mono ?_; rintro e w5 ⟨rfl, hb5⟩; have D8 : Blk w5 _ _ _ := (hb5.block _ D8.lt).trans D8; have z0 := D8.cell 0; have z1 := D8.cell 1; have z2 := D8.cell 2; have z3 := D8.cell 3; have z4 := D8.cell 4; have z5 := D8.cell 5; have g0 := D8.frozen 0; have g1 := D8.frozen 1; have g2 := D8.frozen 2; have g3 := D8.frozen 3; have g4 := D8.frozen 4; have g5 := D8.frozen 5; simp only [List.getElem?_toArray, List.getElem?_cons_zero, List.getElem?_cons_succ] at z0 z1 z2 z3 z4 z5; have hB5 := Lib.hid (hB.trans (hb5.mono hB.size)); clear k0 k1 k2 k3 k4 k5 s7n s7s hb5 hwh)
      have DF := D8.set6 (.int .i64 0) (.int .i64 0) (.int .i64 0) (.int .i64 0) (.int .i64 0) (.slice none 0 0)
      have BF := set6_below (w.heap.size + 1) (by omega) hB5.out (.int .i64 0) (.int .i64 0) (.int .i64 0) (.int .i64 0) (.int .i64 0) (.slice none 0 0)
      generalize ((((((w5.setCell ⟨w.heap.size + 1, 0, none⟩ (.int .i64 0)).setCell ⟨w.heap.size + 1, 1, none⟩ (.int .i64 0)).setCell ⟨w.heap.size + 1, 2, none⟩ (.int .i64 0)).setCell ⟨w.heap.size + 1, 3, none⟩ (.int .i64 0)).setCell ⟨w.heap.size + 1, 4, none⟩ (.int .i64 0)).setCell ⟨w.heap.size + 1, 5, none⟩ (.slice none 0 0)) = wf at DF BF ⊢
      have e0 := DF.cell 0
      have e1 := DF.cell 1
      have e2 := DF.cell 2
      have e3 := DF.cell 3
      have e4 := DF.cell 4
      have e5 := DF.cell 5
      simp only [List.getElem?_toArray, List.getElem?_cons_zero, List.getElem?_cons_succ] at e0 e1 e2 e3 e4 e5
      exact bodyPost_ret (v := .tuple #[.agg #[.int .i64 0, .int .i64 0, .int .i64 0, .int .i64 0, .int .i64 0, .slice none 0 0], .int .i64 110]) (by simp [results, Try.f10, go_sem, e0, e1, e2, e3, e4, e5]) rfl (HP.out false hmk _ _ ⟨none, 0, rfl, by simp, BF⟩)
    | true =>
      have s7 := (show _ ∧ _ from ⟨s7n, s7s⟩)
      go_wp2_with (first | (go_at_call 15; refine (hwh _ hB).mono ?_; rintro e w5 ⟨rfl, hb5⟩; have D8 : Blk w5 _ _ _ := (hb5.block _ D8.lt).trans D8; have DK : Blk w5 _ _ _ := (hb5.block _ DK.lt).trans DK; have s5 : w5.cell? ⟨w.heap.size, 1, none⟩ = some (.slice ba L bc) := keepCell hb5 s7.2; have hB5 := hB.trans (hb5.mono hB.size); have hb5' := Lib.hid hB5; clear k0 k1 k2 k3 k4 k5 s7n s7s s7 hb5 hwh) | (at_builtin; refine wpList_app E24 rfl _ _ rfl (World.ownsRow_nil w5 w5.heap.size 5 1) (hcl _ hb5'.out).src rfl rfl (by omega) (Nat.le_refl _) ?_; intro v6 w6 hown6 hgrow6 _; have hb6 := below_app (Below.refl _ _) (Nat.le_refl _) (World.ownsRow_nil w5 w5.heap.size 5 1) hgrow6 (Nat.le_refl _); have hy6' := Byts.of_owns (v := v6) (l := B) (by simpa using hown6) (by omega) (hcl _ hb5'.out).2; obtain ⟨a6, c6, e6, _⟩ := hy6'.1.shape; subst e6; have hy6 : Byts w6 (.slice a6 L c6) B := hLe ▸ hy6'; clear hy6'; have DK0 : Blk w6 K 28 _ := (hb6.block _ DK.lt).trans DK; have D8 : Blk w6 _ _ _ := (hb6.block _ D8.lt).trans D8; have hB6 := hB5.trans (hb6.mono hB5.size); have D8' := D8.far (p := ⟨K, 5, none⟩) (by show w.heap.size + 1 ≠ K; omega) (.slice a6 L c6); clear D8; have D8 := D8'; clear D8'; have k0 := DK0.cell 0; have k1 := DK0.cell 1; have k2 := DK0.cell 2; have k3 := DK0.cell 3; have k4 := DK0.cell 4; have k5 := DK0.cell 5; have q5 := DK0.frozen 5; have z0 := D8.cell 0; have z1 := D8.cell 1; have z2 := D8.cell 2; have z3 := D8.cell 3; have z4 := D8.cell 4; have z5 := D8.cell 5; have g0 := D8.frozen 0; have g1 := D8.frozen 1; have g2 := D8.frozen 2; have g3 := D8.frozen 3; have g4 := D8.frozen 4; have g5 := D8.frozen 5; simp only [List.getElem?_toArray, List.getElem?_cons_zero, List.getElem?_cons_succ] at z0 z1 z2 z3 z4 z5 k0 k1 k2 k3 k4 k5; clear s5))
      have DF := D8.set6 (.int .i64 fr) (.int .i64 a) (.int .i64 (a + y)) (.int .i64 lv) (.int .i64 n) (.slice a6 L c6)
      have BF := set6_below (w.heap.size + 1) (by omega) (hB6.setCell (p := ⟨K, 5, none⟩) (by show w.heap.size ≤ K; omega) (.slice a6 L c6)) (.int .i64 fr) (.int .i64 a) (.int .i64 (a + y)) (.int .i64 lv) (.int .i64 n) (.slice a6 L c6)
      have Y1 := hy6.setB DK0 (by intro x; simp) 5 (.slice a6 L c6)
      have Y2 := Y1.setB D8 (by intro x; simp) 0 (.int .i64 fr)
      have Y3 := Y2.setB (D8.set 0 (.int .i64 fr)) (by intro x; simp) 1 (.int .i64 a)
      have Y4 := Y3.setB ((D8.set 0 (.int .i64 fr)).set 1 (.int .i64 a)) (by intro x; simp) 2 (.int .i64 (a + y))
      have Y5 := Y4.setB (((D8.set 0 (.int .i64 fr)).set 1 (.int .i64 a)).set 2 (.int .i64 (a + y))) (by intro x; simp) 3 (.int .i64 lv)
      have Y6 := Y5.setB ((((D8.set 0 (.int .i64 fr)).set 1 (.int .i64 a)).set 2 (.int .i64 (a + y))).set 3 (.int .i64 lv)) (by intro x; simp) 4 (.int .i64 n)
      have Y7 := Y6.setB (((((D8.set 0 (.int .i64 fr)).set 1 (.int .i64 a)).set 2 (.int .i64 (a + y))).set 3 (.int .i64 lv)).set 4 (.int .i64 n)) (by intro x; simp) 5 (.slice a6 L c6)
      clear Y1 Y2 Y3 Y4 Y5 Y6
      generalize (((((((w6.setCell ⟨K, 5, none⟩ (.slice a6 L c6)).setCell ⟨w.heap.size + 1, 0, none⟩ (.int .i64 fr)).setCell ⟨w.heap.size + 1, 1, none⟩ (.int .i64 a)).setCell ⟨w.heap.size + 1, 2, none⟩ (.int .i64 (a + y))).setCell ⟨w.heap.size + 1, 3, none⟩ (.int .i64 lv)).setCell ⟨w.heap.size + 1, 4, none⟩ (.int .i64 n)).setCell ⟨w.heap.size + 1, 5, none⟩ (.slice a6 L c6)) = wf at DF BF Y7 ⊢
      have e0 := DF.cell 0
      have e1 := DF.cell 1
      have e2 := DF.cell 2
      have e3 := DF.cell 3
      have e4 := DF.cell 4
      have e5 := DF.cell 5
      simp only [List.getElem?_toArray, List.getElem?_cons_zero, List.getElem?_cons_succ] at e0 e1 e2 e3 e4 e5
      exact bodyPost_ret (v := .tuple #[.agg #[.int .i64 fr, .int .i64 a, .int .i64 (a + y), .int .i64 lv, .int .i64 n, .slice a6 L c6], .int .i64 0]) (by simp [results, Try.f10, go_sem, e0, e1, e2, e3, e4, e5]) rfl (HP.out true hmk _ _ ⟨a6, c6, by simp only [mkS, if_true]; unfold sgv; simp only [hLe, HY.out], fun _ => Y7, BF⟩)

end Go.Proofs.Ytehgiagefiakkaa
