/- New: a queue of events. -/
import Derived.Test.YtbmnecdkjkffdaaE9
namespace Go.Proofs.Ytbmnecdkjkffdaa
open Go.RowKit

def badE (x : Ev) : Bool := decide (x.a < 0 ∨ 1099511627776 < x.a)
/-- What New answers. -/
def newE (l : List Ev) : Int := if 16384 < l.length then 3 else if l.any badE = true then 140 else 0
def addL (h : List Ev) (x : Ev) : List Ev := riseL (h ++ [x]) h.length
/-- The heap that New makes. -/
def newL (l : List Ev) : List Ev := l.foldl addL []
theorem newL_snoc (l : List Ev) (x : Ev) : newL (l ++ [x]) = addL (newL l) x := by unfold newL; rw [List.foldl_append]; rfl
theorem addL_len (h : List Ev) (x : Ev) : (addL h x).length = h.length + 1 := by unfold addL; rw [riseL_len]; simp
theorem newL_len (l : List Ev) : (newL l).length = l.length := by
  have h : ∀ (l h : List Ev), (l.foldl addL h).length = h.length + l.length := by
    intro l
    induction l with
    | nil => intro h; simp
    | cons x l ih => intro h; rw [List.foldl_cons, ih, addL_len]; simp; omega
  have := h l []
  unfold newL
  simpa using this
def NewNone (l : List Ev) (w : World) (e : Ending) (w' : World) : Prop := e = .returned (.tuple #[.pointer none, .int .i64 (newE l)]) ∧ Below w.heap.size w w'
def NewSome (l : List Ev) (w : World) (e : Ending) (w' : World) : Prop :=
  ∃ q sv, e = .returned (.tuple #[.pointer (some ⟨q, 0, none⟩), .int .i64 0]) ∧ w.heap.size ≤ q ∧ Qu w' q sv (newL l) 0 ∧ Below w.heap.size w w'
/-- How far the second loop has come. -/
def NewJ (l : List Ev) (q : Nat) (w : World) (k : Nat) (W : World) : Prop := ∃ sv, Qu W q sv (newL (l.take k)) 0 ∧ Below w.heap.size w W
set_option maxRecDepth 100000 in
set_option maxHeartbeats 1600000 in
theorem new_long (v : Value) (l : List Ev) (w : World) (h : Rd encE 4 w v l) (hl : 16384 < l.length) : Calls Try.prog 9 #[v] w (NewNone l w) := by
  have HP : Hid (NewNone l w (.returned (.tuple #[.pointer none, .int .i64 3])) w) := ⟨by unfold newE; rw [if_pos hl], Below.refl _ _⟩
  obtain ⟨a, cap, rfl, hcap, hcm, hlen⟩ := h.shape
  clear h
  go_enter Try.func9, Try.ntmps9
  go_wp2
  go_ret2
  exact HP.out
set_option maxRecDepth 100000 in
set_option maxHeartbeats 1600000 in
theorem new_any (v : Value) (l : List Ev) (w : World) (h : Rd encE 4 w v l) (hl : l.length ≤ 16384) : Calls Try.prog 9 #[v] w (fun e w' => if l.any badE = true then NewNone l w e w' else NewSome l w e w') := by
  have HBAD : Hid (∀ w', l.any badE = true → Below w.heap.size w w' → (if l.any badE = true then NewNone l w (.returned (.tuple #[.pointer none, .int .i64 140])) w' else NewSome l w (.returned (.tuple #[.pointer none, .int .i64 140])) w')) := fun w' hb hbel => by
    rw [if_pos hb]
    exact ⟨by unfold newE; rw [if_neg (by omega), if_pos hb], hbel⟩
  have HGOOD : Hid (∀ w' q sv, l.any badE = false → w.heap.size ≤ q → Qu w' q sv (newL l) 0 → Below w.heap.size w w' → (if l.any badE = true then NewNone l w (.returned (.tuple #[.pointer (some ⟨q, 0, none⟩), .int .i64 0])) w' else NewSome l w (.returned (.tuple #[.pointer (some ⟨q, 0, none⟩), .int .i64 0])) w')) := fun w' q sv hb h1 h2 h3 => by
    rw [if_neg (by simp [hb])]
    exact ⟨q, sv, rfl, h1, h2, h3⟩
  generalize hR : (fun e w' => if l.any badE = true then NewNone l w e w' else NewSome l w e w') = R
  have HBAD' : Hid (∀ w', l.any badE = true → Below w.heap.size w w' → R (.returned (.tuple #[.pointer none, .int .i64 140])) w') := by rw [← hR]; exact HBAD.out
  have HGOOD' : Hid (∀ w' q sv, l.any badE = false → w.heap.size ≤ q → Qu w' q sv (newL l) 0 → Below w.heap.size w w' → R (.returned (.tuple #[.pointer (some ⟨q, 0, none⟩), .int .i64 0])) w') := by rw [← hR]; exact HGOOD.out
  clear HBAD HGOOD hR
  have HRD := Lib.hid h
  obtain ⟨a, cap, rfl, hcap, hcm, hlen⟩ := h.shape
  clear h
  obtain ⟨n, hn⟩ : ∃ n, n = l.length := ⟨_, rfl⟩
  rw [← hn] at hl hcap hlen HRD
  rw [← hn]
  have HN := Lib.hid hn
  clear hn
  have HQ0 : Hid (Qu (w.alloc (.cells #[.bool true, .slice none 0 0, .int .i64 0] 47)) w.heap.size (.slice none 0 0) [] 0) := ⟨Blk.new' rfl, World.ownsRow_nil _ _ _ _⟩
  have HW0 : Hid (Below w.heap.size w (w.alloc (.cells #[.bool true, .slice none 0 0, .int .i64 0] 47))) := below1 _ _
  have HZ0 : Hid ((w.alloc (.cells #[.bool true, .slice none 0 0, .int .i64 0] 47)).heap.size = w.heap.size + 1) := by show _ = _; simp
  go_enter Try.func9, Try.ntmps9
  go_upto_region 4 with fail
  generalize w.alloc (.cells #[.bool true, .slice none 0 0, .int .i64 0] 47) = W0 at *
  obtain ⟨q, hq⟩ : ∃ q, w.heap.size = q := ⟨_, rfl⟩
  rw [hq]
  have HQB := Lib.hid hq
  rw [hq] at HQ0 HZ0
  clear hq
  go_wp2_with fail
  go_loopw [16] (fun i wr => ∃ k : Nat, k ≤ n ∧ i = .int .i64 k ∧ Hid ((l.take k).any badE = false) ∧ Hid (Below W0.heap.size W0 wr)) (fun i _ => n - (intOf i).toNat)
  case atStart => exact ⟨0, by omega, rfl, rfl, Below.refl _ _⟩
  case round =>
    obtain ⟨k, hk, rfl, HA, HW⟩ := hrel
    obtain ⟨W1, rfl⟩ : ∃ W1 : World, W1 = wr := ⟨_, rfl⟩
    have HW1 : Hid (Below w.heap.size w W1) := HW0.out.trans (HW.out.mono HW0.out.size)
    by_cases hlt : k < n
    · obtain ⟨x, hx⟩ : ∃ x, l[k]? = some x := ⟨_, List.getElem?_eq_getElem (by have := HN.out; omega)⟩
      have HSN := Lib.hid (any_snoc badE hx)
      have HMEM : Hid (badE x = true → l.any badE = true) := fun h => List.any_eq_true.2 ⟨x, List.mem_of_getElem? hx, h⟩
      obtain ⟨bl, off, rfl, hbl, hc⟩ := (HRD.out.below HW1.out).row (by rintro rfl; simp at hx)
      have HC := Lib.hid (hc k x hx)
      clear hx hc
      have hb1 : W1.heap.size < W1.heap.size + 1 := by omega
      by_cases h1 : x.a < 0
      · have hd1 : decide (x.a < 0) = true := decide_eq_true h1
        have HB : Hid (l.any badE = true) := HMEM.out (by unfold badE; exact decide_eq_true (.inl h1))
        go_wp2_with (first | (refine wpList_loadW W31 rfl rfl rfl (encE x) rfl HC.out ?_) | (refine wpList_boxW W31 rfl rfl rfl (encE x) rfl rfl (encE_one x) rfl ?_; intro W2 hbx hbel hsz; have HBX := Lib.hid hbx; have HE := Lib.hid hbel; clear hbx hbel hsz; have c0 : W2.cell? ⟨W1.heap.size, 0, none⟩ = some (.int .i64 x.a) := HBX.out.list0 rfl))
        exact HBAD'.out _ HB.out (HW1.out.trans (HE.out.mono HW1.out.size))
      · have hd1 : decide (x.a < 0) = false := decide_eq_false h1
        by_cases h2 : 1099511627776 < x.a
        · have hd2 : decide (1099511627776 < x.a) = true := decide_eq_true h2
          have HB : Hid (l.any badE = true) := HMEM.out (by unfold badE; exact decide_eq_true (.inr h2))
          go_wp2_with (first | (refine wpList_loadW W31 rfl rfl rfl (encE x) rfl HC.out ?_) | (refine wpList_boxW W31 rfl rfl rfl (encE x) rfl rfl (encE_one x) rfl ?_; intro W2 hbx hbel hsz; have HBX := Lib.hid hbx; have HE := Lib.hid hbel; clear hbx hbel hsz; have c0 : W2.cell? ⟨W1.heap.size, 0, none⟩ = some (.int .i64 x.a) := HBX.out.list0 rfl))
          exact HBAD'.out _ HB.out (HW1.out.trans (HE.out.mono HW1.out.size))
        · have hd2 : decide (1099511627776 < x.a) = false := decide_eq_false h2
          have HA2 : Hid ((l.take (k + 1)).any badE = false) := by
            show _ = _
            rw [HSN.out, HA.out]
            unfold badE
            simp only [Bool.false_or]
            exact decide_eq_false (by omega)
          clear HSN
          go_wp2_with (first | (refine wpList_loadW W31 rfl rfl rfl (encE x) rfl HC.out ?_) | (refine wpList_boxW W31 rfl rfl rfl (encE x) rfl rfl (encE_one x) rfl ?_; intro W2 hbx hbel hsz; have HBX := Lib.hid hbx; have HE := Lib.hid hbel; clear hbx hbel hsz; have c0 : W2.cell? ⟨W1.heap.size, 0, none⟩ = some (.int .i64 x.a) := HBX.out.list0 rfl))
          go_roundw
          case rel => exact ⟨k + 1, by omega, by go_num, HA2, HW.out.trans (HE.out.mono HW.out.size)⟩
          case measure => simp [intOf]; omega
    · obtain rfl : k = n := by omega
      have HG : Hid (l.any badE = false) := by
        show _ = _
        have h := HA.out
        rw [HN.out, List.take_length] at h
        exact h
      have HQ1 : Hid (NewJ l q w 0 W1) := ⟨_, HQ0.out.below HW.out, HW1.out⟩
      have HQW : Hid (w.heap.size ≤ q) := by show _ ≤ _; have := HQB.out; omega
      clear hlt hk HA HW HW1 HQ0 HZ0 HW0
      go_wp2_with fail
      go_loopw [31] (fun i wr => ∃ j : Nat, j ≤ k ∧ i = .int .i64 j ∧ Hid (NewJ l q w j wr)) (fun i _ => k - (intOf i).toNat)
      case atStart => exact ⟨0, by omega, rfl, HQ1⟩
      case round =>
        obtain ⟨j, hj, rfl, HJ⟩ := hrel
        obtain ⟨W1, rfl⟩ : ∃ W1 : World, W1 = wr := ⟨_, rfl⟩
        obtain ⟨sv, hQ, hB⟩ := HJ.out
        by_cases hlt : j < k
        · obtain ⟨x, hx⟩ : ∃ x, l[j]? = some x := ⟨_, List.getElem?_eq_getElem (by have := HN.out; omega)⟩
          have HSN : Hid (newL (l.take (j + 1)) = addL (newL (l.take j)) x) := by show _ = _; rw [take_snoc hx, newL_snoc]
          obtain ⟨bl, off, rfl, hbl, hc⟩ := (HRD.out.below hB).row (by rintro rfl; simp at hx)
          have HC := Lib.hid (hc j x hx)
          have HLEN : Hid ((newL (l.take j)).length ≤ 16383) := by show _ ≤ _; rw [newL_len]; simp; omega
          obtain ⟨m, hm⟩ : ∃ m, m = newL (l.take j) := ⟨_, rfl⟩
          rw [← hm] at hQ HSN HLEN
          have HR : Hid (∀ W' sv', Qu W' q sv' (riseL (m ++ [x]) m.length) 0 → QS W1 W' q sv sv' → NewJ l q w (j + 1) W') := fun W' sv' g1 g2 => by
            refine ⟨sv', by rw [HSN.out]; exact g1, hB.trans (g2.below hB.size HQW.out (fun g e => ?_))⟩
            have := (hQ.2.lt g e).1
            have := HQW.out
            omega
          have HQ := Lib.hid hQ
          have HB := Lib.hid hB
          have hml : m.length ≤ 16383 := HLEN.out
          obtain ⟨sa, sc, rfl, hsc, hscm, -⟩ := owns_shape hQ.2
          have HSB : Hid (∀ g, (Value.slice sa m.length sc).ownBlock = some g → g < W1.heap.size) := fun g e => (hQ.2.lt g e).2
          have hqz : q < W1.heap.size := hQ.1.lt
          clear hx hc hQ hB HSN HLEN hm HJ
          go_upto_region 13 with (first | (refine wpList_loadW W31 rfl rfl rfl (encE x) rfl HC.out ?_) | (refine wpList_boxW W31 rfl rfl rfl (encE x) rfl rfl (encE_one x) rfl ?_; intro W2 hbx hbel hsz; have HBX := Lib.hid hbx; have HE := Lib.hid hbel; clear hbx hbel hsz))
          have HE2 : Hid (Below W1.heap.size W1 W2.drew) := HE.out.drew
          have hqq : Qu W2.drew q (.slice sa m.length sc) m 0 := HQ.out.below HE2.out
          have HQS2 : Hid (QS W1 W2.drew q (.slice sa m.length sc) (.slice sa m.length sc)) := QS.of_below HE2.out
          have hS : Hid (Blk W2.drew W1.heap.size 31 (encE x).toArray) := HBX.out.keep (Below.refl _ _).drew
          have HNE0 : Hid (some W1.heap.size ≠ (Value.slice sa m.length sc).ownBlock) := by
            show some W1.heap.size ≠ _
            intro e
            have := HSB.out _ e.symm
            omega
          obtain ⟨b, hb⟩ : ∃ b, W1.heap.size = b := ⟨_, rfl⟩
          rw [hb] at hS HNE0 hqz
          rw [hb]
          have HNE := HNE0
          have HBQ : Hid (b ≠ q) := by show _ ≠ _; omega
          have HB2 : Hid (Blk W2.drew q 47 #[.bool true, (.slice sa m.length sc), .int .i64 0]) := hqq.1
          have HO : Hid (W2.drew.ownsRow (q + 1) 31 4 (.slice sa m.length sc) m.length (m.flatMap encE)) := hqq.2
          have hqs : q + 1 ≤ W2.drew.heap.size := hqq.1.lt
          clear hqq hb HNE0 HBX HE HE2 HC HSB
          clear HB
          have HB := HB2
          refine wp_region_held_drew (S := fun X => Hid (Blk X b 31 (encE x).toArray)) (by kernel_rfl) hS (fun hHeld => ?_)
          (refine takeW (i := 0) (v := ?_) rfl (by kernel_rfl) (by kernel_rfl) (by kernel_rfl) (fun _ _ _ h => h) (by rfl) (by assumption) ?_ ?_; rotate_left; (intro W hW; (try dsimp only at hW); go_simp; try with_reducible rfl); (try simp only [Act.put, List.setIfInBounds_toArray, List.set_cons_zero, List.set_cons_succ]))
          (refine takeW (i := 1) (v := ?_) rfl (by kernel_rfl) (by kernel_rfl) (by kernel_rfl) (fun _ _ _ h => h) (by rfl) (by assumption) ?_ ?_; rotate_left; (intro W hW; (try dsimp only at hW); go_simp; try with_reducible rfl); (try simp only [Act.put, List.setIfInBounds_toArray, List.set_cons_zero, List.set_cons_succ]))
          (refine takeW (i := 2) (v := ?_) rfl (by kernel_rfl) (by kernel_rfl) (by kernel_rfl) (fun _ _ _ h => h) (by rfl) (by assumption) ?_ ?_; rotate_left; (intro W hW; (try dsimp only at hW); go_simp; try with_reducible rfl); (try simp only [Act.put, List.setIfInBounds_toArray, List.set_cons_zero, List.set_cons_succ]))
          (refine takeW (i := 3) (v := ?_) rfl (by kernel_rfl) (by kernel_rfl) (by kernel_rfl) (fun _ _ _ h => h) (by rfl) (by assumption) ?_ ?_; rotate_left; (intro W hW; (try dsimp only at hW); go_simp; try with_reducible rfl); (try simp only [Act.put, List.setIfInBounds_toArray, List.set_cons_zero, List.set_cons_succ]))
          (refine takeW (i := 5) rfl (by kernel_rfl) (by kernel_rfl) (by kernel_rfl) (fun _ _ _ h => h) (by rfl) (by assumption) (fun W hW => exec_loadW W31 rfl rfl (cs := encE x) rfl hW.out.list) ?_; (try simp only [Act.put, List.setIfInBounds_toArray, List.set_cons_zero, List.set_cons_succ]))
          refine takeV2 (i := 4) (j := 6) rfl rfl (by kernel_rfl) (by rfl) (by rfl) (exec_load1 (v := (.slice sa m.length sc)) F22 rfl rfl (by first | exact HB.out.cell 1 | exact (HB.out.alloc _).cell 1)) (hHeld) (exec_sliceW E22 (by decide) rfl rfl rfl) (Lib.hid (hHeld.out.alloc _)) ?_ ?_
          · (try simp only [Act.put, List.setIfInBounds_toArray, List.set_cons_zero, List.set_cons_succ])
            have hHeld : Hid (Blk W2.drew b 31 (encE x).toArray) := hHeld
            refine takeV (i := 6) rfl (by kernel_rfl) (by rfl) (exec_sliceW E22 (by decide) rfl rfl rfl) (Lib.hid (hHeld.out.alloc _)) ?_
            (try simp only [Act.put, List.setIfInBounds_toArray, List.set_cons_zero, List.set_cons_succ])
            have hHeld : Hid (Blk (W2.drew.alloc (.cells (encE x).toArray 31)) b 31 (encE x).toArray) := Lib.hid (hHeld.out.alloc _)
            refine takeApp (i := 7) E22 rfl (by kernel_rfl) (by rfl) rfl (HO.out.alloc _) (m := 1) (news := encE x) rfl (cells_new _ _ _) (encE_one x) rfl rfl (by omega) (by have := hqs; simp at this ⊢; omega) ?_
            intro v1 W4 ho hg hown
            have hb := Lib.hid (hHeld.out.kept hg HNE.out)
            refine ⟨hb, ?_⟩
            clear hHeld
            have hHeld := hb
            clear hb
            have hQ4 := Lib.hid (qu_app HB.out HO.out ho hg hown)
            have hc4 : W4.cell? ⟨q, 1, none⟩ = some (.slice sa m.length sc) := hQ4.out.1.cell 1
            have hf4 : W4.frozen? ⟨q, 1, none⟩ = false := hQ4.out.1.frozen 1
            clear ho hg hown
            obtain ⟨a1, cap1, rfl, hcap1, hcm1, -⟩ := owns_shape hQ4.out.2.1
            try simp only [Act.put, List.setIfInBounds_toArray, List.set_cons_zero, List.set_cons_succ]
            (refine takeW (i := 8) (v := ?_) rfl (by kernel_rfl) (by kernel_rfl) (by kernel_rfl) (fun _ _ _ h => h) (by rfl) (by assumption) ?_ ?_; rotate_left; (intro W hW; (try dsimp only at hW); go_simp; try with_reducible rfl); (try simp only [Act.put, List.setIfInBounds_toArray, List.set_cons_zero, List.set_cons_succ]))
            (refine takeW (i := 9) (v := ?_) rfl (by kernel_rfl) (by kernel_rfl) (by kernel_rfl) (fun _ _ _ h => h) (by rfl) (by assumption) ?_ ?_; rotate_left; (intro W hW; (try dsimp only at hW); go_simp; try with_reducible rfl); (try simp only [Act.put, List.setIfInBounds_toArray, List.set_cons_zero, List.set_cons_succ]))
            refine takeVs (i := 10) rfl (by kernel_rfl) (by rfl) (exec_store1 (p := ⟨q, 1, none⟩) (v := .slice a1 (m.length + 1) cap1) F22 rfl rfl rfl rfl rfl hc4 hf4) (Lib.hid (hHeld.out.far (by simpa using HBQ.out) _)) ?_
            have hHeld : Hid (Blk (W4.setCell ⟨q, 1, none⟩ (.slice a1 (m.length + 1) cap1)) b 31 (encE x).toArray) := Lib.hid (hHeld.out.far (by simpa using HBQ.out) _)
            refine wpAnyH_done (by kernel_rfl) ?_ _
            have hQ5 := Lib.hid (qu_app_set hQ4.out)
            clear hQ4 hc4 hf4
            generalize W4.setCell ⟨q, 1, none⟩ (.slice a1 (m.length + 1) cap1) = W5 at *
            have c51 : W5.cell? ⟨q, 1, none⟩ = some (.slice a1 (m.length + 1) cap1) := hQ5.out.1.1.cell 1
            go_wp2_with (go_at_call 26; refine (rise_any q _ (m ++ [x]) 0 m.length W5 hQ5.out.1 (by simp) (by simp; omega)).mono ?_; go_must (rintro e w6 ⟨rfl, hq6, hk6⟩; have HQ6 := Lib.hid hq6; have HK6 := Lib.hid hk6; clear hq6 hk6 c51))
            go_roundw
            case rel => exact ⟨j + 1, by omega, by go_num, HR.out _ _ HQ6.out (HQS2.out.trans (qs_push (Gw.refl _) hQ5.out HK6.out))⟩
            case measure => simp [intOf]; omega
          · (try simp only [Act.put, List.setIfInBounds_toArray, List.set_cons_zero, List.set_cons_succ])
            have hHeld : Hid (Blk (W2.drew.alloc (.cells (encE x).toArray 31)) b 31 (encE x).toArray) := Lib.hid (hHeld.out.alloc _)
            refine takeV (i := 4) rfl (by kernel_rfl) (by rfl) (exec_load1 (v := (.slice sa m.length sc)) F22 rfl rfl (by first | exact HB.out.cell 1 | exact (HB.out.alloc _).cell 1)) (hHeld) ?_
            (try simp only [Act.put, List.setIfInBounds_toArray, List.set_cons_zero, List.set_cons_succ])
            have hHeld : Hid (Blk (W2.drew.alloc (.cells (encE x).toArray 31)) b 31 (encE x).toArray) := hHeld
            refine takeApp (i := 7) E22 rfl (by kernel_rfl) (by rfl) rfl (HO.out.alloc _) (m := 1) (news := encE x) rfl (cells_new _ _ _) (encE_one x) rfl rfl (by omega) (by have := hqs; simp at this ⊢; omega) ?_
            intro v1 W4 ho hg hown
            have hb := Lib.hid (hHeld.out.kept hg HNE.out)
            refine ⟨hb, ?_⟩
            clear hHeld
            have hHeld := hb
            clear hb
            have hQ4 := Lib.hid (qu_app HB.out HO.out ho hg hown)
            have hc4 : W4.cell? ⟨q, 1, none⟩ = some (.slice sa m.length sc) := hQ4.out.1.cell 1
            have hf4 : W4.frozen? ⟨q, 1, none⟩ = false := hQ4.out.1.frozen 1
            clear ho hg hown
            obtain ⟨a1, cap1, rfl, hcap1, hcm1, -⟩ := owns_shape hQ4.out.2.1
            try simp only [Act.put, List.setIfInBounds_toArray, List.set_cons_zero, List.set_cons_succ]
            (refine takeW (i := 8) (v := ?_) rfl (by kernel_rfl) (by kernel_rfl) (by kernel_rfl) (fun _ _ _ h => h) (by rfl) (by assumption) ?_ ?_; rotate_left; (intro W hW; (try dsimp only at hW); go_simp; try with_reducible rfl); (try simp only [Act.put, List.setIfInBounds_toArray, List.set_cons_zero, List.set_cons_succ]))
            (refine takeW (i := 9) (v := ?_) rfl (by kernel_rfl) (by kernel_rfl) (by kernel_rfl) (fun _ _ _ h => h) (by rfl) (by assumption) ?_ ?_; rotate_left; (intro W hW; (try dsimp only at hW); go_simp; try with_reducible rfl); (try simp only [Act.put, List.setIfInBounds_toArray, List.set_cons_zero, List.set_cons_succ]))
            refine takeVs (i := 10) rfl (by kernel_rfl) (by rfl) (exec_store1 (p := ⟨q, 1, none⟩) (v := .slice a1 (m.length + 1) cap1) F22 rfl rfl rfl rfl rfl hc4 hf4) (Lib.hid (hHeld.out.far (by simpa using HBQ.out) _)) ?_
            have hHeld : Hid (Blk (W4.setCell ⟨q, 1, none⟩ (.slice a1 (m.length + 1) cap1)) b 31 (encE x).toArray) := Lib.hid (hHeld.out.far (by simpa using HBQ.out) _)
            refine wpAnyH_done (by kernel_rfl) ?_ _
            have hQ5 := Lib.hid (qu_app_set hQ4.out)
            clear hQ4 hc4 hf4
            generalize W4.setCell ⟨q, 1, none⟩ (.slice a1 (m.length + 1) cap1) = W5 at *
            have c51 : W5.cell? ⟨q, 1, none⟩ = some (.slice a1 (m.length + 1) cap1) := hQ5.out.1.1.cell 1
            go_wp2_with (go_at_call 26; refine (rise_any q _ (m ++ [x]) 0 m.length W5 hQ5.out.1 (by simp) (by simp; omega)).mono ?_; go_must (rintro e w6 ⟨rfl, hq6, hk6⟩; have HQ6 := Lib.hid hq6; have HK6 := Lib.hid hk6; clear hq6 hk6 c51))
            go_roundw
            case rel => exact ⟨j + 1, by omega, by go_num, HR.out _ _ HQ6.out (HQS2.out.trans (qs_push (Gw.refl _) hQ5.out HK6.out))⟩
            case measure => simp [intOf]; omega
        · obtain rfl : j = k := by omega
          have HFIN : Hid (Qu W1 q sv (newL l) 0 ∧ Below w.heap.size w W1) := ⟨by have h := hQ; rw [HN.out, List.take_length] at h; exact h, hB⟩
          clear hQ hB HJ hlt
          go_wp2
          exact HGOOD'.out _ q sv HG.out HQW.out HFIN.out.1 HFIN.out.2
end Go.Proofs.Ytbmnecdkjkffdaa
