/- sink: an event goes down to its place. -/
import Derived.Test.YtbmnecdkjkffdaaE5
import Derived.Test.YtbmnecdkjkffdaaP3
namespace Go.Proofs.Ytbmnecdkjkffdaa
open Go.RowKit

/-- A scope with a label behind some first code, and in which the run jumps back to it: one walk. -/
theorem wp_scope_again1 {P : Program} {a : Act} {w : World} {Q : Exit → Act → World → Prop} {pre rest c' : Code} (l : Nat) (J : Act → World → Prop) (μ : Act → World → Nat) (hf : findLabel (pre.seq ((Code.label l).seq rest)) l = some c')
    (hc : ∀ Q' a w, rest.wp P Q' a w → c'.wp P Q' a w) (h0 : pre.wp P (fun e a w => e = .normal ∧ J a w) a w)
    (pass : ∀ a w, J a w → rest.wp P (Exit.jump l (fun a' w' => J a' w' ∧ μ a' w' < μ a w) Q) a w) : (Code.scope (pre.seq ((Code.label l).seq rest))).wp P Q a w := by
  refine wp_scope_jumps l J μ hf ?_ (fun a w h => hc _ _ _ (pass a w h))
  apply wp_seq
  refine wp_mono h0 ?_
  rintro e a w ⟨rfl, hJ⟩
  show ((Code.label l).seq rest).wp P _ a w
  apply wp_seq
  apply wp_label
  refine wp_mono (pass a w hJ) ?_
  intro e a w h
  cases e <;> first | exact h | exact ⟨h.1, h.2.1⟩
def SinkJ (w : World) (q : Nat) (sv : Value) (l : List Ev) (now : Int) (i : Nat) (a' : Act) (W : World) : Prop := ∃ (i' : Nat) (l' : List Ev) (U : Nat → Value), a' = { tmps := #[.pointer (some ⟨q, 0, none⟩), U 1, U 2, U 3, .int .i64 (i' : Nat), U 5, U 6, U 7, U 8, U 9, U 10, U 11, U 12, U 13, U 14, U 15, U 16, U 17, U 18, U 19, U 20, U 21, U 22, U 23, U 24, U 25, U 26, U 27, U 28, U 29, U 30, U 31, U 32, U 33, U 34, U 35, U 36, U 37, U 38, U 39, U 40, U 41, U 42, U 43, U 44, U 45, U 46, U 47, U 48, U 49, U 50, U 51, U 52, U 53, U 54, U 55, U 56, U 57, U 58, U 59, U 60, U 61, U 62, U 63, U 64, U 65, U 66, U 67, U 68, U 69, U 70, U 71, U 72, U 73], defers := [] } ∧ Hid (Qu W q sv l' now) ∧ Hid (QK w W q sv) ∧ Hid (sinkL l' i' = sinkL l i) ∧ i' ≤ 16384 ∧ Hid (l'.length = l.length)
theorem SinkJ.mk {w : World} {q : Nat} {sv : Value} {l : List Ev} {now : Int} {i : Nat} {a' : Act} {W : World} (i' : Nat) (l' : List Ev) (h : a' = { tmps := #[.pointer (some ⟨q, 0, none⟩), a'.tmps.getD 1 undef, a'.tmps.getD 2 undef, a'.tmps.getD 3 undef, .int .i64 (i' : Nat), a'.tmps.getD 5 undef, a'.tmps.getD 6 undef, a'.tmps.getD 7 undef, a'.tmps.getD 8 undef, a'.tmps.getD 9 undef, a'.tmps.getD 10 undef, a'.tmps.getD 11 undef, a'.tmps.getD 12 undef, a'.tmps.getD 13 undef, a'.tmps.getD 14 undef, a'.tmps.getD 15 undef, a'.tmps.getD 16 undef, a'.tmps.getD 17 undef, a'.tmps.getD 18 undef, a'.tmps.getD 19 undef, a'.tmps.getD 20 undef, a'.tmps.getD 21 undef, a'.tmps.getD 22 undef, a'.tmps.getD 23 undef, a'.tmps.getD 24 undef, a'.tmps.getD 25 undef, a'.tmps.getD 26 undef, a'.tmps.getD 27 undef, a'.tmps.getD 28 undef, a'.tmps.getD 29 undef, a'.tmps.getD 30 undef, a'.tmps.getD 31 undef, a'.tmps.getD 32 undef, a'.tmps.getD 33 undef, a'.tmps.getD 34 undef, a'.tmps.getD 35 undef, a'.tmps.getD 36 undef, a'.tmps.getD 37 undef, a'.tmps.getD 38 undef, a'.tmps.getD 39 undef, a'.tmps.getD 40 undef, a'.tmps.getD 41 undef, a'.tmps.getD 42 undef, a'.tmps.getD 43 undef, a'.tmps.getD 44 undef, a'.tmps.getD 45 undef, a'.tmps.getD 46 undef, a'.tmps.getD 47 undef, a'.tmps.getD 48 undef, a'.tmps.getD 49 undef, a'.tmps.getD 50 undef, a'.tmps.getD 51 undef, a'.tmps.getD 52 undef, a'.tmps.getD 53 undef, a'.tmps.getD 54 undef, a'.tmps.getD 55 undef, a'.tmps.getD 56 undef, a'.tmps.getD 57 undef, a'.tmps.getD 58 undef, a'.tmps.getD 59 undef, a'.tmps.getD 60 undef, a'.tmps.getD 61 undef, a'.tmps.getD 62 undef, a'.tmps.getD 63 undef, a'.tmps.getD 64 undef, a'.tmps.getD 65 undef, a'.tmps.getD 66 undef, a'.tmps.getD 67 undef, a'.tmps.getD 68 undef, a'.tmps.getD 69 undef, a'.tmps.getD 70 undef, a'.tmps.getD 71 undef, a'.tmps.getD 72 undef, a'.tmps.getD 73 undef], defers := [] })
    (h1 : Hid (Qu W q sv l' now)) (h2 : Hid (QK w W q sv)) (h3 : Hid (sinkL l' i' = sinkL l i)) (h4 : i' ≤ 16384) (h5 : Hid (l'.length = l.length)) : SinkJ w q sv l now i a' W := ⟨i', l', fun k => a'.tmps.getD k undef, h, h1, h2, h3, h4, h5⟩
/-- How far the choice of the first one has come. -/
def pickTo (l : List Ev) (j : Nat) : Nat → Nat
  | 0 => j
  | 1 => pickL l (2 * j + 1) j
  | _ => firstL l j
theorem pickTo_succ (l : List Ev) (j r : Nat) (hr : r < 2) : pickTo l j (r + 1) = pickL l (2 * j + 1 + r) (pickTo l j r) := by
  match r with
  | 0 => rfl
  | 1 => rfl
  | k + 2 => omega
theorem pickTo_lt (l : List Ev) (j r : Nat) (hr : r ≤ 2) (hj : j ≤ 16384) (hl : l.length ≤ 16384) : pickTo l j r ≤ 16384 ∧ j ≤ pickTo l j r ∧ (pickTo l j r = j ∨ pickTo l j r < l.length) := by
  have hp : ∀ k f, pickL l k f = f ∨ (pickL l k f = k ∧ k < l.length) := by
    intro k f
    unfold pickL
    split
    · rename_i h; exact .inr ⟨rfl, h.1⟩
    · exact .inl rfl
  match r with
  | 0 => exact ⟨hj, Nat.le_refl _, .inl rfl⟩
  | 1 =>
    show pickL l (2 * j + 1) j ≤ 16384 ∧ j ≤ pickL l (2 * j + 1) j ∧ (pickL l (2 * j + 1) j = j ∨ pickL l (2 * j + 1) j < l.length)
    have := hp (2 * j + 1) j
    omega
  | 2 =>
    show firstL l j ≤ 16384 ∧ j ≤ firstL l j ∧ (firstL l j = j ∨ firstL l j < l.length)
    have := firstL_or l j
    omega
  | k + 3 => omega
theorem idx69 (x y : Int) (r : Nat) (hr : r < 2) (w : World) : (Instr.index 69 (.agg #[.int .i64 x, .int .i64 y]) (.int .i64 r)).run Try.prog w = .ok (.int .i64 (if r = 0 then x else y)) w := by
  match r with
  | 0 => rfl
  | 1 => rfl
  | k + 2 => omega
set_option maxRecDepth 100000 in
set_option maxHeartbeats 1600000 in
theorem sink_any (q : Nat) (sv : Value) (l : List Ev) (now : Int) (i : Nat) (w : World) (h : Qu w q sv l now) (hi : i ≤ 16384) (hl : l.length ≤ 16384) :
    Calls Try.prog 28 #[.pointer (some ⟨q, 0, none⟩), .int .i64 i] w fun e w' => e = .returned (.tuple #[]) ∧ Qu w' q sv (sinkL l i) now ∧ QK w w' q sv := by
  have HQ := Lib.hid h
  have HLL : Hid (l.length ≤ 16384) := hl
  clear h hl
  go_enter Try.func28, Try.ntmps28
  go_wp2
  refine wp_scope_again1 0 (SinkJ w q sv l now i) (fun a' _ => (match a'.tmps.getD 4 undef with | .int _ n => 16384 - n.toNat | _ => 0)) rfl (fun _ _ _ h => by apply wp_seq; apply wp_skip; exact h) ?_ ?_
  · go_wp2
    exact SinkJ.mk i l rfl HQ (QK.refl _ _ _) rfl hi rfl
  · rintro a W ⟨j, l', U, rfl, HQU, HQK, HR, hj, HL⟩
    clear hi
    go_upto_region 2 with fail
    trace "A"
    go_wp2_with fail
    trace "B"
    go_loopw [4, 6, 16] (fun f x k wr => ∃ r : Nat, r ≤ 2 ∧ k = .int .i64 r ∧ f = .int .i64 (pickTo l' j r) ∧ Hid (Qu wr q sv l' now) ∧ Hid (QK w wr q sv)) (fun _ _ k _ => 2 - (intOf k).toNat)
    case atStart => exact ⟨0, by omega, rfl, rfl, HQU, HQK⟩
    case round =>
      obtain ⟨r, hr, rfl, rfl, HQ1, HK1⟩ := hrel
      obtain ⟨W1, rfl⟩ : ∃ W1 : World, W1 = wr := ⟨_, rfl⟩
      have hpl := pickTo_lt l' j r hr hj (by have := HL.out; have := HLL.out; omega)
      by_cases hr2 : r < 2
      · have HS := Lib.hid (pickTo_succ l' j r hr2)
        have hix := idx69 (2 * (j : Int) + 1) (2 * (j : Int) + 2) r hr2
        rw [show (if r = 0 then 2 * (j : Int) + 1 else 2 * (j : Int) + 2) = ((2 * j + 1 + r : Nat) : Int) by split <;> omega] at hix
        obtain ⟨c, hc⟩ : ∃ c, c = 2 * j + 1 + r := ⟨_, rfl⟩
        rw [← hc] at hix
        rw [← hc] at HS
        have hcb : c ≤ 40000 := by omega
        have hjc : j < c := by omega
        clear hc
        obtain ⟨f, hf⟩ : ∃ f, f = pickTo l' j r := ⟨_, rfl⟩
        rw [← hf] at HS hpl
        rw [← hf]
        have hf1 : f ≤ 16384 := hpl.1
        have HPL := Lib.hid hpl
        clear hf hpl
        have hS : Hid (Qu W1.drew q sv l' now) ∧ Hid (QK w W1.drew q sv) := ⟨HQ1.out.gw (Gw.refl _).drew, HK1.out.gw (Gw.refl _).drew⟩
        have HLN : Hid (l'.length = l'.length) := rfl
        by_cases hcl : c < l'.length
        · have hfl : f < l'.length := by rcases HPL.out.2.2 with h | h <;> omega
          obtain ⟨x, hx⟩ : ∃ x, l'[c]? = some x := ⟨_, List.getElem?_eq_getElem hcl⟩
          obtain ⟨y, hy⟩ : ∃ y, l'[f]? = some y := ⟨_, List.getElem?_eq_getElem hfl⟩
          have HLE := Lib.hid (less_any x y)
          have HSN : Hid (pickTo l' j (r + 1) = if ltE x y = true then c else f) := by
            show _ = _
            rw [HS.out]
            unfold pickL
            simp only [lessAt, hx, hy, hcl, true_and]
          clear HS
          obtain ⟨g, cap, n, rfl, hcap, hcm, hn⟩ := qu_shape HQ1.out (by omega : 0 < l'.length)
          have HX := Lib.hid (fun X hX => qu_at (by have := HL.out; have := HLL.out; omega) (w := X) (q := q) (g := g) (n := n) (cap := cap) (now := now) hX hx)
          have HY := Lib.hid (fun X hX => qu_at (by have := HL.out; have := HLL.out; omega) (w := X) (q := q) (g := g) (n := n) (cap := cap) (now := now) hX hy)
          rw [hn] at hcl hfl
          have hcn : decide (c < n) = true := decide_eq_true hcl
          clear hx hy hn HLN
          generalize ltE x y = b at *
          go_upto_region 5 with fail
          refine wp_region_held_drew (S := fun X => Hid (Qu X q (.slice (some ⟨g, 0, none⟩) n cap) l' now) ∧ Hid (QK w X q (.slice (some ⟨g, 0, none⟩) n cap))) (by kernel_rfl) hS (fun hHeld => ?_)
          (refine takeW (i := 0) (v := ?_) rfl (by kernel_rfl) (by kernel_rfl) (by kernel_rfl) (fun _ _ _ h => h) (by rfl) (by assumption) ?_ ?_; rotate_left; (intro W hW; (try dsimp only at hW); go_simp; try with_reducible rfl); (try simp only [Act.put, List.setIfInBounds_toArray, List.set_cons_zero, List.set_cons_succ]))
          (refine takeW (i := 1) (v := ?_) rfl (by kernel_rfl) (by kernel_rfl) (by kernel_rfl) (fun _ _ _ h => h) (by rfl) (by assumption) ?_ ?_; rotate_left; (intro W hW; (try dsimp only at hW); go_simp; try with_reducible rfl); (try simp only [Act.put, List.setIfInBounds_toArray, List.set_cons_zero, List.set_cons_succ]))
          (refine takeW (i := 2) (v := ?_) rfl (by kernel_rfl) (by kernel_rfl) (by kernel_rfl) (fun _ _ _ h => h) (by rfl) (by assumption) ?_ ?_; rotate_left; (intro W hW; (try dsimp only at hW); go_simp; try with_reducible rfl); (try simp only [Act.put, List.setIfInBounds_toArray, List.set_cons_zero, List.set_cons_succ]))
          (refine takeW (i := 3) (v := ?_) rfl (by kernel_rfl) (by kernel_rfl) (by kernel_rfl) (fun _ _ _ h => h) (by rfl) (by assumption) ?_ ?_; rotate_left; (intro W hW; (try dsimp only at hW); go_simp; try with_reducible rfl); (try simp only [Act.put, List.setIfInBounds_toArray, List.set_cons_zero, List.set_cons_succ]))
          (refine takeW (i := 4) rfl (by kernel_rfl) (by kernel_rfl) (by kernel_rfl) (fun _ _ _ h => h) (by rfl) (by assumption) (fun W hW => exec_load1 (v := (.slice (some ⟨g, 0, none⟩) n cap)) F22 rfl rfl (hW.1.out.1.cell 1)) ?_; (try simp only [Act.put, List.setIfInBounds_toArray, List.set_cons_zero, List.set_cons_succ]))
          (refine takeW (i := 5) (v := ?_) rfl (by kernel_rfl) (by kernel_rfl) (by kernel_rfl) (fun _ _ _ h => h) (by rfl) (by assumption) ?_ ?_; rotate_left; (intro W hW; (try dsimp only at hW); go_simp; try with_reducible rfl); (try simp only [Act.put, List.setIfInBounds_toArray, List.set_cons_zero, List.set_cons_succ]))
          (refine takeW (i := 6) (v := ?_) rfl (by kernel_rfl) (by kernel_rfl) (by kernel_rfl) (fun _ _ _ h => h) (by rfl) (by assumption) ?_ ?_; rotate_left; (intro W hW; (try dsimp only at hW); go_simp; try with_reducible rfl); (try simp only [Act.put, List.setIfInBounds_toArray, List.set_cons_zero, List.set_cons_succ]))
          (refine takeW (i := 7) (v := ?_) rfl (by kernel_rfl) (by kernel_rfl) (by kernel_rfl) (fun _ _ _ h => h) (by rfl) (by assumption) ?_ ?_; rotate_left; (intro W hW; (try dsimp only at hW); go_simp; try with_reducible rfl); (try simp only [Act.put, List.setIfInBounds_toArray, List.set_cons_zero, List.set_cons_succ]))
          first
            | (refine takeW (i := 8) (v := ?_) rfl (by kernel_rfl) (by kernel_rfl) (by kernel_rfl) (fun _ _ _ h => h) (by rfl) (by assumption) ?_ ?_; rotate_left; (intro W hW; (try dsimp only at hW); go_simp; try with_reducible rfl); (try simp only [Act.put, List.setIfInBounds_toArray, List.set_cons_zero, List.set_cons_succ]))
            | (refine takeU (i := 8) rfl (by kernel_rfl) (by kernel_rfl) (by kernel_rfl) (fun _ _ _ h => h) (by rfl) (by assumption) ?_; (try simp only [Act.put, List.setIfInBounds_toArray, List.set_cons_zero, List.set_cons_succ]))
          first
            | (refine takeW (i := 9) (v := ?_) rfl (by kernel_rfl) (by kernel_rfl) (by kernel_rfl) (fun _ _ _ h => h) (by rfl) (by assumption) ?_ ?_; rotate_left; (intro W hW; (try dsimp only at hW); go_simp; try with_reducible rfl); (try simp only [Act.put, List.setIfInBounds_toArray, List.set_cons_zero, List.set_cons_succ]))
            | (refine takeU (i := 9) rfl (by kernel_rfl) (by kernel_rfl) (by kernel_rfl) (fun _ _ _ h => h) (by rfl) (by assumption) ?_; (try simp only [Act.put, List.setIfInBounds_toArray, List.set_cons_zero, List.set_cons_succ]))
          first
            | (refine takeW (i := 10) (v := ?_) rfl (by kernel_rfl) (by kernel_rfl) (by kernel_rfl) (fun _ _ _ h => h) (by rfl) (by assumption) ?_ ?_; rotate_left; (intro W hW; (try dsimp only at hW); go_simp; try with_reducible rfl); (try simp only [Act.put, List.setIfInBounds_toArray, List.set_cons_zero, List.set_cons_succ]))
            | (refine takeU (i := 10) rfl (by kernel_rfl) (by kernel_rfl) (by kernel_rfl) (fun _ _ _ h => h) (by rfl) (by assumption) ?_; (try simp only [Act.put, List.setIfInBounds_toArray, List.set_cons_zero, List.set_cons_succ]))
          (refine takeW (i := 11) rfl (by kernel_rfl) (by kernel_rfl) (by kernel_rfl) (fun _ _ _ h => h) (by rfl) (by assumption) (fun W hW => exec_load1 (v := (.slice (some ⟨g, 0, none⟩) n cap)) F22 rfl rfl (hW.1.out.1.cell 1)) ?_; (try simp only [Act.put, List.setIfInBounds_toArray, List.set_cons_zero, List.set_cons_succ]))
          first
            | (refine takeW (i := 12) (v := ?_) rfl (by kernel_rfl) (by kernel_rfl) (by kernel_rfl) (fun _ _ _ h => h) (by rfl) (by assumption) ?_ ?_; rotate_left; (intro W hW; (try dsimp only at hW); go_simp; try with_reducible rfl); (try simp only [Act.put, List.setIfInBounds_toArray, List.set_cons_zero, List.set_cons_succ]))
            | (refine takeU (i := 12) rfl (by kernel_rfl) (by kernel_rfl) (by kernel_rfl) (fun _ _ _ h => h) (by rfl) (by assumption) ?_; (try simp only [Act.put, List.setIfInBounds_toArray, List.set_cons_zero, List.set_cons_succ]))
          first
            | (refine takeW (i := 13) (v := ?_) rfl (by kernel_rfl) (by kernel_rfl) (by kernel_rfl) (fun _ _ _ h => h) (by rfl) (by assumption) ?_ ?_; rotate_left; (intro W hW; (try dsimp only at hW); go_simp; try with_reducible rfl); (try simp only [Act.put, List.setIfInBounds_toArray, List.set_cons_zero, List.set_cons_succ]))
            | (refine takeU (i := 13) rfl (by kernel_rfl) (by kernel_rfl) (by kernel_rfl) (fun _ _ _ h => h) (by rfl) (by assumption) ?_; (try simp only [Act.put, List.setIfInBounds_toArray, List.set_cons_zero, List.set_cons_succ]))
          (refine takeW (i := 14) rfl (by kernel_rfl) (by kernel_rfl) (by kernel_rfl) (fun _ _ _ h => h) (by rfl) (by assumption) (fun W hW => exec_loadW W31 rfl rfl (cs := encE x) rfl (HX.out W hW.1.out)) ?_; (try simp only [Act.put, List.setIfInBounds_toArray, List.set_cons_zero, List.set_cons_succ]))
          first
            | (refine takeW (i := 15) (v := ?_) rfl (by kernel_rfl) (by kernel_rfl) (by kernel_rfl) (fun _ _ _ h => h) (by rfl) (by assumption) ?_ ?_; rotate_left; (intro W hW; (try dsimp only at hW); go_simp; try with_reducible rfl); (try simp only [Act.put, List.setIfInBounds_toArray, List.set_cons_zero, List.set_cons_succ]))
            | (refine takeU (i := 15) rfl (by kernel_rfl) (by kernel_rfl) (by kernel_rfl) (fun _ _ _ h => h) (by rfl) (by assumption) ?_; (try simp only [Act.put, List.setIfInBounds_toArray, List.set_cons_zero, List.set_cons_succ]))
          first
            | (refine takeW (i := 16) (v := ?_) rfl (by kernel_rfl) (by kernel_rfl) (by kernel_rfl) (fun _ _ _ h => h) (by rfl) (by assumption) ?_ ?_; rotate_left; (intro W hW; (try dsimp only at hW); go_simp; try with_reducible rfl); (try simp only [Act.put, List.setIfInBounds_toArray, List.set_cons_zero, List.set_cons_succ]))
            | (refine takeU (i := 16) rfl (by kernel_rfl) (by kernel_rfl) (by kernel_rfl) (fun _ _ _ h => h) (by rfl) (by assumption) ?_; (try simp only [Act.put, List.setIfInBounds_toArray, List.set_cons_zero, List.set_cons_succ]))
          first
            | (refine takeW (i := 17) (v := ?_) rfl (by kernel_rfl) (by kernel_rfl) (by kernel_rfl) (fun _ _ _ h => h) (by rfl) (by assumption) ?_ ?_; rotate_left; (intro W hW; (try dsimp only at hW); go_simp; try with_reducible rfl); (try simp only [Act.put, List.setIfInBounds_toArray, List.set_cons_zero, List.set_cons_succ]))
            | (refine takeU (i := 17) rfl (by kernel_rfl) (by kernel_rfl) (by kernel_rfl) (fun _ _ _ h => h) (by rfl) (by assumption) ?_; (try simp only [Act.put, List.setIfInBounds_toArray, List.set_cons_zero, List.set_cons_succ]))
          (refine takeW (i := 18) rfl (by kernel_rfl) (by kernel_rfl) (by kernel_rfl) (fun _ _ _ h => h) (by rfl) (by assumption) (fun W hW => exec_load1 (v := (.slice (some ⟨g, 0, none⟩) n cap)) F22 rfl rfl (hW.1.out.1.cell 1)) ?_; (try simp only [Act.put, List.setIfInBounds_toArray, List.set_cons_zero, List.set_cons_succ]))
          first
            | (refine takeW (i := 19) (v := ?_) rfl (by kernel_rfl) (by kernel_rfl) (by kernel_rfl) (fun _ _ _ h => h) (by rfl) (by assumption) ?_ ?_; rotate_left; (intro W hW; (try dsimp only at hW); go_simp; try with_reducible rfl); (try simp only [Act.put, List.setIfInBounds_toArray, List.set_cons_zero, List.set_cons_succ]))
            | (refine takeU (i := 19) rfl (by kernel_rfl) (by kernel_rfl) (by kernel_rfl) (fun _ _ _ h => h) (by rfl) (by assumption) ?_; (try simp only [Act.put, List.setIfInBounds_toArray, List.set_cons_zero, List.set_cons_succ]))
          first
            | (refine takeW (i := 20) (v := ?_) rfl (by kernel_rfl) (by kernel_rfl) (by kernel_rfl) (fun _ _ _ h => h) (by rfl) (by assumption) ?_ ?_; rotate_left; (intro W hW; (try dsimp only at hW); go_simp; try with_reducible rfl); (try simp only [Act.put, List.setIfInBounds_toArray, List.set_cons_zero, List.set_cons_succ]))
            | (refine takeU (i := 20) rfl (by kernel_rfl) (by kernel_rfl) (by kernel_rfl) (fun _ _ _ h => h) (by rfl) (by assumption) ?_; (try simp only [Act.put, List.setIfInBounds_toArray, List.set_cons_zero, List.set_cons_succ]))
          (refine takeW (i := 21) rfl (by kernel_rfl) (by kernel_rfl) (by kernel_rfl) (fun _ _ _ h => h) (by rfl) (by assumption) (fun W hW => exec_loadW W31 rfl rfl (cs := encE y) rfl (HY.out W hW.1.out)) ?_; (try simp only [Act.put, List.setIfInBounds_toArray, List.set_cons_zero, List.set_cons_succ]))
          refine takeC (i := 22) rfl (by kernel_rfl) (by rfl) (fun K hK => ?_)
          go_simp
          refine (HLE.out _).mono ?_
          rintro e W2 ⟨rfl, hg⟩
          refine hK.out _ _ ⟨Lib.hid (hHeld.1.out.gw hg), Lib.hid (hHeld.2.out.gw hg)⟩ (fun hHeld => ?_)
          clear hK K
          try simp only [Act.put, List.setIfInBounds_toArray, List.set_cons_zero, List.set_cons_succ]
          (refine takeW (i := 23) (v := ?_) rfl (by kernel_rfl) (by kernel_rfl) (by kernel_rfl) (fun _ _ _ h => h) (by rfl) (by assumption) ?_ ?_; rotate_left; (intro W hW; (try dsimp only at hW); go_simp; try with_reducible rfl); (try simp only [Act.put, List.setIfInBounds_toArray, List.set_cons_zero, List.set_cons_succ]))
          refine wpAnyH_done (by kernel_rfl) ?_ _
          have HQ2 := hHeld.1
          have HK2 := hHeld.2
          clear hHeld
          cases b with
          | false =>
            have HSM : Hid (pickTo l' j (r + 1) = f) := by show _ = _; rw [HSN.out]; simp
            clear HSN
            go_wp2
            go_roundw
            case rel => exact ⟨r + 1, by omega, by go_num, by rw [HSM.out], HQ2, HK2⟩
            case measure => simp [intOf]; omega
          | true =>
            have HSM : Hid (pickTo l' j (r + 1) = c) := by show _ = _; rw [HSN.out]; simp
            clear HSN
            go_wp2
            go_roundw
            case rel => exact ⟨r + 1, by omega, by go_num, by rw [HSM.out], HQ2, HK2⟩
            case measure => simp [intOf]; omega
        · obtain ⟨a, cap, hsv, hcap, hcm, -⟩ := owns_shape HQ1.out.2
          obtain ⟨n, hn⟩ : ∃ n, n = l'.length := ⟨_, rfl⟩
          rw [← hn] at hsv hcap hcl
          subst hsv
          have hcn : decide (c < n) = false := decide_eq_false hcl
          have HSN : Hid (pickTo l' j (r + 1) = f) := by
            show _ = _
            rw [HS.out]
            unfold pickL
            rw [if_neg (fun h => hcl (by rw [hn]; exact h.1))]
          clear HS hcl hn HLN
          go_upto_region 5 with fail
          refine wp_region_held_drew (S := fun X => Hid (Qu X q (.slice a n cap) l' now) ∧ Hid (QK w X q (.slice a n cap))) (by kernel_rfl) hS (fun hHeld => ?_)
          (refine takeW (i := 0) (v := ?_) rfl (by kernel_rfl) (by kernel_rfl) (by kernel_rfl) (fun _ _ _ h => h) (by rfl) (by assumption) ?_ ?_; rotate_left; (intro W hW; (try dsimp only at hW); go_simp; try with_reducible rfl); (try simp only [Act.put, List.setIfInBounds_toArray, List.set_cons_zero, List.set_cons_succ]))
          (refine takeW (i := 1) (v := ?_) rfl (by kernel_rfl) (by kernel_rfl) (by kernel_rfl) (fun _ _ _ h => h) (by rfl) (by assumption) ?_ ?_; rotate_left; (intro W hW; (try dsimp only at hW); go_simp; try with_reducible rfl); (try simp only [Act.put, List.setIfInBounds_toArray, List.set_cons_zero, List.set_cons_succ]))
          (refine takeW (i := 2) (v := ?_) rfl (by kernel_rfl) (by kernel_rfl) (by kernel_rfl) (fun _ _ _ h => h) (by rfl) (by assumption) ?_ ?_; rotate_left; (intro W hW; (try dsimp only at hW); go_simp; try with_reducible rfl); (try simp only [Act.put, List.setIfInBounds_toArray, List.set_cons_zero, List.set_cons_succ]))
          (refine takeW (i := 3) (v := ?_) rfl (by kernel_rfl) (by kernel_rfl) (by kernel_rfl) (fun _ _ _ h => h) (by rfl) (by assumption) ?_ ?_; rotate_left; (intro W hW; (try dsimp only at hW); go_simp; try with_reducible rfl); (try simp only [Act.put, List.setIfInBounds_toArray, List.set_cons_zero, List.set_cons_succ]))
          (refine takeW (i := 4) rfl (by kernel_rfl) (by kernel_rfl) (by kernel_rfl) (fun _ _ _ h => h) (by rfl) (by assumption) (fun W hW => exec_load1 (v := (.slice a n cap)) F22 rfl rfl (hW.1.out.1.cell 1)) ?_; (try simp only [Act.put, List.setIfInBounds_toArray, List.set_cons_zero, List.set_cons_succ]))
          (refine takeW (i := 5) (v := ?_) rfl (by kernel_rfl) (by kernel_rfl) (by kernel_rfl) (fun _ _ _ h => h) (by rfl) (by assumption) ?_ ?_; rotate_left; (intro W hW; (try dsimp only at hW); go_simp; try with_reducible rfl); (try simp only [Act.put, List.setIfInBounds_toArray, List.set_cons_zero, List.set_cons_succ]))
          (refine takeW (i := 6) (v := ?_) rfl (by kernel_rfl) (by kernel_rfl) (by kernel_rfl) (fun _ _ _ h => h) (by rfl) (by assumption) ?_ ?_; rotate_left; (intro W hW; (try dsimp only at hW); go_simp; try with_reducible rfl); (try simp only [Act.put, List.setIfInBounds_toArray, List.set_cons_zero, List.set_cons_succ]))
          (refine takeW (i := 7) (v := ?_) rfl (by kernel_rfl) (by kernel_rfl) (by kernel_rfl) (fun _ _ _ h => h) (by rfl) (by assumption) ?_ ?_; rotate_left; (intro W hW; (try dsimp only at hW); go_simp; try with_reducible rfl); (try simp only [Act.put, List.setIfInBounds_toArray, List.set_cons_zero, List.set_cons_succ]))
          first
            | (refine takeW (i := 8) (v := ?_) rfl (by kernel_rfl) (by kernel_rfl) (by kernel_rfl) (fun _ _ _ h => h) (by rfl) (by assumption) ?_ ?_; rotate_left; (intro W hW; (try dsimp only at hW); go_simp; try with_reducible rfl); (try simp only [Act.put, List.setIfInBounds_toArray, List.set_cons_zero, List.set_cons_succ]))
            | (refine takeU (i := 8) rfl (by kernel_rfl) (by kernel_rfl) (by kernel_rfl) (fun _ _ _ h => h) (by rfl) (by assumption) ?_; (try simp only [Act.put, List.setIfInBounds_toArray, List.set_cons_zero, List.set_cons_succ]))
          first
            | (refine takeW (i := 9) (v := ?_) rfl (by kernel_rfl) (by kernel_rfl) (by kernel_rfl) (fun _ _ _ h => h) (by rfl) (by assumption) ?_ ?_; rotate_left; (intro W hW; (try dsimp only at hW); go_simp; try with_reducible rfl); (try simp only [Act.put, List.setIfInBounds_toArray, List.set_cons_zero, List.set_cons_succ]))
            | (refine takeU (i := 9) rfl (by kernel_rfl) (by kernel_rfl) (by kernel_rfl) (fun _ _ _ h => h) (by rfl) (by assumption) ?_; (try simp only [Act.put, List.setIfInBounds_toArray, List.set_cons_zero, List.set_cons_succ]))
          first
            | (refine takeW (i := 10) (v := ?_) rfl (by kernel_rfl) (by kernel_rfl) (by kernel_rfl) (fun _ _ _ h => h) (by rfl) (by assumption) ?_ ?_; rotate_left; (intro W hW; (try dsimp only at hW); go_simp; try with_reducible rfl); (try simp only [Act.put, List.setIfInBounds_toArray, List.set_cons_zero, List.set_cons_succ]))
            | (refine takeU (i := 10) rfl (by kernel_rfl) (by kernel_rfl) (by kernel_rfl) (fun _ _ _ h => h) (by rfl) (by assumption) ?_; (try simp only [Act.put, List.setIfInBounds_toArray, List.set_cons_zero, List.set_cons_succ]))
          first
            | (refine takeW (i := 11) (v := ?_) rfl (by kernel_rfl) (by kernel_rfl) (by kernel_rfl) (fun _ _ _ h => h) (by rfl) (by assumption) ?_ ?_; rotate_left; (intro W hW; (try dsimp only at hW); go_simp; try with_reducible rfl); (try simp only [Act.put, List.setIfInBounds_toArray, List.set_cons_zero, List.set_cons_succ]))
            | (refine takeU (i := 11) rfl (by kernel_rfl) (by kernel_rfl) (by kernel_rfl) (fun _ _ _ h => h) (by rfl) (by assumption) ?_; (try simp only [Act.put, List.setIfInBounds_toArray, List.set_cons_zero, List.set_cons_succ]))
          first
            | (refine takeW (i := 12) (v := ?_) rfl (by kernel_rfl) (by kernel_rfl) (by kernel_rfl) (fun _ _ _ h => h) (by rfl) (by assumption) ?_ ?_; rotate_left; (intro W hW; (try dsimp only at hW); go_simp; try with_reducible rfl); (try simp only [Act.put, List.setIfInBounds_toArray, List.set_cons_zero, List.set_cons_succ]))
            | (refine takeU (i := 12) rfl (by kernel_rfl) (by kernel_rfl) (by kernel_rfl) (fun _ _ _ h => h) (by rfl) (by assumption) ?_; (try simp only [Act.put, List.setIfInBounds_toArray, List.set_cons_zero, List.set_cons_succ]))
          first
            | (refine takeW (i := 13) (v := ?_) rfl (by kernel_rfl) (by kernel_rfl) (by kernel_rfl) (fun _ _ _ h => h) (by rfl) (by assumption) ?_ ?_; rotate_left; (intro W hW; (try dsimp only at hW); go_simp; try with_reducible rfl); (try simp only [Act.put, List.setIfInBounds_toArray, List.set_cons_zero, List.set_cons_succ]))
            | (refine takeU (i := 13) rfl (by kernel_rfl) (by kernel_rfl) (by kernel_rfl) (fun _ _ _ h => h) (by rfl) (by assumption) ?_; (try simp only [Act.put, List.setIfInBounds_toArray, List.set_cons_zero, List.set_cons_succ]))
          first
            | (refine takeW (i := 14) (v := ?_) rfl (by kernel_rfl) (by kernel_rfl) (by kernel_rfl) (fun _ _ _ h => h) (by rfl) (by assumption) ?_ ?_; rotate_left; (intro W hW; (try dsimp only at hW); go_simp; try with_reducible rfl); (try simp only [Act.put, List.setIfInBounds_toArray, List.set_cons_zero, List.set_cons_succ]))
            | (refine takeU (i := 14) rfl (by kernel_rfl) (by kernel_rfl) (by kernel_rfl) (fun _ _ _ h => h) (by rfl) (by assumption) ?_; (try simp only [Act.put, List.setIfInBounds_toArray, List.set_cons_zero, List.set_cons_succ]))
          first
            | (refine takeW (i := 15) (v := ?_) rfl (by kernel_rfl) (by kernel_rfl) (by kernel_rfl) (fun _ _ _ h => h) (by rfl) (by assumption) ?_ ?_; rotate_left; (intro W hW; (try dsimp only at hW); go_simp; try with_reducible rfl); (try simp only [Act.put, List.setIfInBounds_toArray, List.set_cons_zero, List.set_cons_succ]))
            | (refine takeU (i := 15) rfl (by kernel_rfl) (by kernel_rfl) (by kernel_rfl) (fun _ _ _ h => h) (by rfl) (by assumption) ?_; (try simp only [Act.put, List.setIfInBounds_toArray, List.set_cons_zero, List.set_cons_succ]))
          first
            | (refine takeW (i := 16) (v := ?_) rfl (by kernel_rfl) (by kernel_rfl) (by kernel_rfl) (fun _ _ _ h => h) (by rfl) (by assumption) ?_ ?_; rotate_left; (intro W hW; (try dsimp only at hW); go_simp; try with_reducible rfl); (try simp only [Act.put, List.setIfInBounds_toArray, List.set_cons_zero, List.set_cons_succ]))
            | (refine takeU (i := 16) rfl (by kernel_rfl) (by kernel_rfl) (by kernel_rfl) (fun _ _ _ h => h) (by rfl) (by assumption) ?_; (try simp only [Act.put, List.setIfInBounds_toArray, List.set_cons_zero, List.set_cons_succ]))
          first
            | (refine takeW (i := 17) (v := ?_) rfl (by kernel_rfl) (by kernel_rfl) (by kernel_rfl) (fun _ _ _ h => h) (by rfl) (by assumption) ?_ ?_; rotate_left; (intro W hW; (try dsimp only at hW); go_simp; try with_reducible rfl); (try simp only [Act.put, List.setIfInBounds_toArray, List.set_cons_zero, List.set_cons_succ]))
            | (refine takeU (i := 17) rfl (by kernel_rfl) (by kernel_rfl) (by kernel_rfl) (fun _ _ _ h => h) (by rfl) (by assumption) ?_; (try simp only [Act.put, List.setIfInBounds_toArray, List.set_cons_zero, List.set_cons_succ]))
          first
            | (refine takeW (i := 18) (v := ?_) rfl (by kernel_rfl) (by kernel_rfl) (by kernel_rfl) (fun _ _ _ h => h) (by rfl) (by assumption) ?_ ?_; rotate_left; (intro W hW; (try dsimp only at hW); go_simp; try with_reducible rfl); (try simp only [Act.put, List.setIfInBounds_toArray, List.set_cons_zero, List.set_cons_succ]))
            | (refine takeU (i := 18) rfl (by kernel_rfl) (by kernel_rfl) (by kernel_rfl) (fun _ _ _ h => h) (by rfl) (by assumption) ?_; (try simp only [Act.put, List.setIfInBounds_toArray, List.set_cons_zero, List.set_cons_succ]))
          first
            | (refine takeW (i := 19) (v := ?_) rfl (by kernel_rfl) (by kernel_rfl) (by kernel_rfl) (fun _ _ _ h => h) (by rfl) (by assumption) ?_ ?_; rotate_left; (intro W hW; (try dsimp only at hW); go_simp; try with_reducible rfl); (try simp only [Act.put, List.setIfInBounds_toArray, List.set_cons_zero, List.set_cons_succ]))
            | (refine takeU (i := 19) rfl (by kernel_rfl) (by kernel_rfl) (by kernel_rfl) (fun _ _ _ h => h) (by rfl) (by assumption) ?_; (try simp only [Act.put, List.setIfInBounds_toArray, List.set_cons_zero, List.set_cons_succ]))
          first
            | (refine takeW (i := 20) (v := ?_) rfl (by kernel_rfl) (by kernel_rfl) (by kernel_rfl) (fun _ _ _ h => h) (by rfl) (by assumption) ?_ ?_; rotate_left; (intro W hW; (try dsimp only at hW); go_simp; try with_reducible rfl); (try simp only [Act.put, List.setIfInBounds_toArray, List.set_cons_zero, List.set_cons_succ]))
            | (refine takeU (i := 20) rfl (by kernel_rfl) (by kernel_rfl) (by kernel_rfl) (fun _ _ _ h => h) (by rfl) (by assumption) ?_; (try simp only [Act.put, List.setIfInBounds_toArray, List.set_cons_zero, List.set_cons_succ]))
          first
            | (refine takeW (i := 21) (v := ?_) rfl (by kernel_rfl) (by kernel_rfl) (by kernel_rfl) (fun _ _ _ h => h) (by rfl) (by assumption) ?_ ?_; rotate_left; (intro W hW; (try dsimp only at hW); go_simp; try with_reducible rfl); (try simp only [Act.put, List.setIfInBounds_toArray, List.set_cons_zero, List.set_cons_succ]))
            | (refine takeU (i := 21) rfl (by kernel_rfl) (by kernel_rfl) (by kernel_rfl) (fun _ _ _ h => h) (by rfl) (by assumption) ?_; (try simp only [Act.put, List.setIfInBounds_toArray, List.set_cons_zero, List.set_cons_succ]))
          first
            | (refine takeW (i := 22) (v := ?_) rfl (by kernel_rfl) (by kernel_rfl) (by kernel_rfl) (fun _ _ _ h => h) (by rfl) (by assumption) ?_ ?_; rotate_left; (intro W hW; (try dsimp only at hW); go_simp; try with_reducible rfl); (try simp only [Act.put, List.setIfInBounds_toArray, List.set_cons_zero, List.set_cons_succ]))
            | (refine takeU (i := 22) rfl (by kernel_rfl) (by kernel_rfl) (by kernel_rfl) (fun _ _ _ h => h) (by rfl) (by assumption) ?_; (try simp only [Act.put, List.setIfInBounds_toArray, List.set_cons_zero, List.set_cons_succ]))
          (refine takeW (i := 23) (v := ?_) rfl (by kernel_rfl) (by kernel_rfl) (by kernel_rfl) (fun _ _ _ h => h) (by rfl) (by assumption) ?_ ?_; rotate_left; (intro W hW; (try dsimp only at hW); go_simp; try with_reducible rfl); (try simp only [Act.put, List.setIfInBounds_toArray, List.set_cons_zero, List.set_cons_succ]))
          refine wpAnyH_done (by kernel_rfl) ?_ _
          have HQ2 := hHeld.1
          have HK2 := hHeld.2
          clear hHeld
          go_wp2
          go_roundw
          case rel => exact ⟨r + 1, by omega, by go_num, by rw [HSN.out], HQ2, HK2⟩
          case measure => simp [intOf]; omega
      · obtain rfl : r = 2 := by omega
        clear hr2 hr
        change pickTo l' j 2 ≤ 16384 ∧ _ at hpl
        have HS2 : Hid (sinkL l' j = if firstL l' j ≠ j then sinkL (swapL l' j (firstL l' j)) (firstL l' j) else l') := by show _ = _; rw [sinkL]
        rw [show firstL l' j = pickTo l' j 2 from rfl] at HS2
        obtain ⟨f, hf⟩ : ∃ f, f = pickTo l' j 2 := ⟨_, rfl⟩
        rw [← hf] at HS2 hpl
        rw [← hf]
        have hf1 : f ≤ 16384 := hpl.1
        obtain ⟨-, hf2, hf3⟩ := hpl
        clear hf
        by_cases hfj : f = j
        · have HE : Hid (sinkL l i = l') := by show _ = _; rw [← HR.out, HS2.out, if_neg (by simpa using hfj)]
          subst hfj
          clear HS2 hf3
          go_wp2
          simp only [Exit.jump]
          go_end0
          exact ⟨rfl, by rw [HE.out]; exact HQ1.out, HK1.out⟩
        · have HE : Hid (sinkL (swapL l' j f) f = sinkL l i) := by show _ = _; rw [← HR.out, HS2.out, if_pos (by simpa using hfj)]
          have hjf : j < f := by omega
          have hfl : f < l'.length := by rcases hf3 with h | h <;> omega
          have hjl : j < l'.length := by omega
          have hne : decide ((f : Int) ≠ (j : Int)) = true := decide_eq_true (by omega)
          have hne2 : decide (f = j) = false := decide_eq_false hfj
          obtain ⟨g, cap, n, rfl, hcap, hcm, hn⟩ := qu_shape HQ1.out (by omega : 0 < l'.length)
          obtain ⟨x, hx⟩ : ∃ x, l'[j]? = some x := ⟨_, List.getElem?_eq_getElem hjl⟩
          obtain ⟨y, hy⟩ : ∃ y, l'[f]? = some y := ⟨_, List.getElem?_eq_getElem hfl⟩
          have hQ3 : Qu W1.drew q (.slice (some ⟨g, 0, none⟩) n cap) l' now := HQ1.out.gw (Gw.refl _).drew
          have hS2 : Hid (Blk W1.drew q 47 #[.bool true, (.slice (some ⟨g, 0, none⟩) n cap), .int .i64 now]) := hQ3.1
          have HK3 := Lib.hid (HK1.out.gw (Gw.refl _).drew)
          have HXW := Lib.hid (qu_at (by have := HL.out; have := HLL.out; omega) hQ3 hx)
          have HYW := Lib.hid (qu_at (by have := HL.out; have := HLL.out; omega) hQ3 hy)
          have HSW : Hid (swapL l' j f = (l'.set j y).set f x) := by show _ = _; unfold swapL; rw [hx, hy]
          have HN := Lib.hid hn
          have HO : Hid (W1.drew.ownsRow (q + 1) 31 4 (.slice (some ⟨g, 0, none⟩) n cap) n (l'.flatMap encE)) := by have := hQ3.2; rw [HN.out] at this; exact this
          have hgq : q + 1 ≤ g := by
            obtain ⟨a, c, he, -, -, h3⟩ := owns_shape HO.out
            cases he
            obtain ⟨g', he, h4, -⟩ := h3 (by omega)
            cases he
            exact h4
          rw [hn] at hfl hjl
          have hjn : j < n := hjl
          have hfn : f < n := hfl
          clear hx hy hn hQ3 HS2 hf3 hfl hjl
          go_upto_region 9 with fail
          refine wp_region_held_drew (S := fun X => Hid (Blk X q 47 #[.bool true, (.slice (some ⟨g, 0, none⟩) n cap), .int .i64 now])) (by kernel_rfl) hS2 (fun hHeld => ?_)
          (refine takeW (i := 0) (v := ?_) rfl (by kernel_rfl) (by kernel_rfl) (by kernel_rfl) (fun _ _ _ h => h) (by rfl) (by assumption) ?_ ?_; rotate_left; (intro W hW; (try dsimp only at hW); go_simp; try with_reducible rfl); (try simp only [Act.put, List.setIfInBounds_toArray, List.set_cons_zero, List.set_cons_succ]))
          (refine takeW (i := 1) (v := ?_) rfl (by kernel_rfl) (by kernel_rfl) (by kernel_rfl) (fun _ _ _ h => h) (by rfl) (by assumption) ?_ ?_; rotate_left; (intro W hW; (try dsimp only at hW); go_simp; try with_reducible rfl); (try simp only [Act.put, List.setIfInBounds_toArray, List.set_cons_zero, List.set_cons_succ]))
          (refine takeW (i := 2) (v := ?_) rfl (by kernel_rfl) (by kernel_rfl) (by kernel_rfl) (fun _ _ _ h => h) (by rfl) (by assumption) ?_ ?_; rotate_left; (intro W hW; (try dsimp only at hW); go_simp; try with_reducible rfl); (try simp only [Act.put, List.setIfInBounds_toArray, List.set_cons_zero, List.set_cons_succ]))
          (refine takeW (i := 3) rfl (by kernel_rfl) (by kernel_rfl) (by kernel_rfl) (fun _ _ _ h => h) (by rfl) (by assumption) (fun W hW => exec_load1 (v := (.slice (some ⟨g, 0, none⟩) n cap)) F22 rfl rfl (hW.out.cell 1)) ?_; (try simp only [Act.put, List.setIfInBounds_toArray, List.set_cons_zero, List.set_cons_succ]))
          (refine takeW (i := 4) (v := ?_) rfl (by kernel_rfl) (by kernel_rfl) (by kernel_rfl) (fun _ _ _ h => h) (by rfl) (by assumption) ?_ ?_; rotate_left; (intro W hW; (try dsimp only at hW); go_simp; try with_reducible rfl); (try simp only [Act.put, List.setIfInBounds_toArray, List.set_cons_zero, List.set_cons_succ]))
          (refine takeW (i := 5) (v := ?_) rfl (by kernel_rfl) (by kernel_rfl) (by kernel_rfl) (fun _ _ _ h => h) (by rfl) (by assumption) ?_ ?_; rotate_left; (intro W hW; (try dsimp only at hW); go_simp; try with_reducible rfl); (try simp only [Act.put, List.setIfInBounds_toArray, List.set_cons_zero, List.set_cons_succ]))
          (refine takeW (i := 6) (v := ?_) rfl (by kernel_rfl) (by kernel_rfl) (by kernel_rfl) (fun _ _ _ h => h) (by rfl) (by assumption) ?_ ?_; rotate_left; (intro W hW; (try dsimp only at hW); go_simp; try with_reducible rfl); (try simp only [Act.put, List.setIfInBounds_toArray, List.set_cons_zero, List.set_cons_succ]))
          (refine takeW (i := 7) (v := ?_) rfl (by kernel_rfl) (by kernel_rfl) (by kernel_rfl) (fun _ _ _ h => h) (by rfl) (by assumption) ?_ ?_; rotate_left; (intro W hW; (try dsimp only at hW); go_simp; try with_reducible rfl); (try simp only [Act.put, List.setIfInBounds_toArray, List.set_cons_zero, List.set_cons_succ]))
          (refine takeW (i := 8) rfl (by kernel_rfl) (by kernel_rfl) (by kernel_rfl) (fun _ _ _ h => h) (by rfl) (by assumption) (fun W hW => exec_load1 (v := (.slice (some ⟨g, 0, none⟩) n cap)) F22 rfl rfl (hW.out.cell 1)) ?_; (try simp only [Act.put, List.setIfInBounds_toArray, List.set_cons_zero, List.set_cons_succ]))
          (refine takeW (i := 9) (v := ?_) rfl (by kernel_rfl) (by kernel_rfl) (by kernel_rfl) (fun _ _ _ h => h) (by rfl) (by assumption) ?_ ?_; rotate_left; (intro W hW; (try dsimp only at hW); go_simp; try with_reducible rfl); (try simp only [Act.put, List.setIfInBounds_toArray, List.set_cons_zero, List.set_cons_succ]))
          (refine takeW (i := 10) (v := ?_) rfl (by kernel_rfl) (by kernel_rfl) (by kernel_rfl) (fun _ _ _ h => h) (by rfl) (by assumption) ?_ ?_; rotate_left; (intro W hW; (try dsimp only at hW); go_simp; try with_reducible rfl); (try simp only [Act.put, List.setIfInBounds_toArray, List.set_cons_zero, List.set_cons_succ]))
          (refine takeW (i := 11) (v := ?_) rfl (by kernel_rfl) (by kernel_rfl) (by kernel_rfl) (fun _ _ _ h => h) (by rfl) (by assumption) ?_ ?_; rotate_left; (intro W hW; (try dsimp only at hW); go_simp; try with_reducible rfl); (try simp only [Act.put, List.setIfInBounds_toArray, List.set_cons_zero, List.set_cons_succ]))
          (refine takeW (i := 12) (v := ?_) rfl (by kernel_rfl) (by kernel_rfl) (by kernel_rfl) (fun _ _ _ h => h) (by rfl) (by assumption) ?_ ?_; rotate_left; (intro W hW; (try dsimp only at hW); go_simp; try with_reducible rfl); (try simp only [Act.put, List.setIfInBounds_toArray, List.set_cons_zero, List.set_cons_succ]))
          (refine takeW (i := 13) rfl (by kernel_rfl) (by kernel_rfl) (by kernel_rfl) (fun _ _ _ h => h) (by rfl) (by assumption) (fun W hW => exec_load1 (v := (.slice (some ⟨g, 0, none⟩) n cap)) F22 rfl rfl (hW.out.cell 1)) ?_; (try simp only [Act.put, List.setIfInBounds_toArray, List.set_cons_zero, List.set_cons_succ]))
          (refine takeW (i := 14) (v := ?_) rfl (by kernel_rfl) (by kernel_rfl) (by kernel_rfl) (fun _ _ _ h => h) (by rfl) (by assumption) ?_ ?_; rotate_left; (intro W hW; (try dsimp only at hW); go_simp; try with_reducible rfl); (try simp only [Act.put, List.setIfInBounds_toArray, List.set_cons_zero, List.set_cons_succ]))
          (refine takeW (i := 15) (v := ?_) rfl (by kernel_rfl) (by kernel_rfl) (by kernel_rfl) (fun _ _ _ h => h) (by rfl) (by assumption) ?_ ?_; rotate_left; (intro W hW; (try dsimp only at hW); go_simp; try with_reducible rfl); (try simp only [Act.put, List.setIfInBounds_toArray, List.set_cons_zero, List.set_cons_succ]))
          (refine takeW (i := 17) (v := ?_) rfl (by kernel_rfl) (by kernel_rfl) (by kernel_rfl) (fun _ _ _ h => h) (by rfl) (by assumption) ?_ ?_; rotate_left; (intro W hW; (try dsimp only at hW); go_simp; try with_reducible rfl); (try simp only [Act.put, List.setIfInBounds_toArray, List.set_cons_zero, List.set_cons_succ]))
          (refine takeW (i := 18) (v := ?_) rfl (by kernel_rfl) (by kernel_rfl) (by kernel_rfl) (fun _ _ _ h => h) (by rfl) (by assumption) ?_ ?_; rotate_left; (intro W hW; (try dsimp only at hW); go_simp; try with_reducible rfl); (try simp only [Act.put, List.setIfInBounds_toArray, List.set_cons_zero, List.set_cons_succ]))
          (refine takeW (i := 19) (v := ?_) rfl (by kernel_rfl) (by kernel_rfl) (by kernel_rfl) (fun _ _ _ h => h) (by rfl) (by assumption) ?_ ?_; rotate_left; (intro W hW; (try dsimp only at hW); go_simp; try with_reducible rfl); (try simp only [Act.put, List.setIfInBounds_toArray, List.set_cons_zero, List.set_cons_succ]))
          (refine takeW (i := 20) rfl (by kernel_rfl) (by kernel_rfl) (by kernel_rfl) (fun _ _ _ h => h) (by rfl) (by assumption) (fun W hW => exec_load1 (v := (.slice (some ⟨g, 0, none⟩) n cap)) F22 rfl rfl (hW.out.cell 1)) ?_; (try simp only [Act.put, List.setIfInBounds_toArray, List.set_cons_zero, List.set_cons_succ]))
          (refine takeW (i := 21) (v := ?_) rfl (by kernel_rfl) (by kernel_rfl) (by kernel_rfl) (fun _ _ _ h => h) (by rfl) (by assumption) ?_ ?_; rotate_left; (intro W hW; (try dsimp only at hW); go_simp; try with_reducible rfl); (try simp only [Act.put, List.setIfInBounds_toArray, List.set_cons_zero, List.set_cons_succ]))
          (refine takeW (i := 22) (v := ?_) rfl (by kernel_rfl) (by kernel_rfl) (by kernel_rfl) (fun _ _ _ h => h) (by rfl) (by assumption) ?_ ?_; rotate_left; (intro W hW; (try dsimp only at hW); go_simp; try with_reducible rfl); (try simp only [Act.put, List.setIfInBounds_toArray, List.set_cons_zero, List.set_cons_succ]))
          refine takeV2 (i := 16) (j := 23) rfl rfl (by kernel_rfl) (by rfl) (by rfl) (exec_loadW W31 rfl rfl (cs := encE y) rfl HYW.out) (hHeld) (exec_loadW W31 rfl rfl (cs := encE x) rfl HXW.out) (hHeld) ?_ ?_
          · (try simp only [Act.put, List.setIfInBounds_toArray, List.set_cons_zero, List.set_cons_succ])
            have hHeld : Hid (Blk W1.drew q 47 #[.bool true, (.slice (some ⟨g, 0, none⟩) n cap), .int .i64 now]) := hHeld
            refine takeV (i := 23) rfl (by kernel_rfl) (by rfl) (exec_loadW W31 rfl rfl (cs := encE x) rfl HXW.out) (hHeld) ?_
            (try simp only [Act.put, List.setIfInBounds_toArray, List.set_cons_zero, List.set_cons_succ])
            have hHeld : Hid (Blk W1.drew q 47 #[.bool true, (.slice (some ⟨g, 0, none⟩) n cap), .int .i64 now]) := hHeld
            (refine takeW (i := 24) (v := ?_) rfl (by kernel_rfl) (by kernel_rfl) (by kernel_rfl) (fun _ _ _ h => h) (by rfl) (by assumption) ?_ ?_; rotate_left; (intro W hW; (try dsimp only at hW); go_simp; try with_reducible rfl); (try simp only [Act.put, List.setIfInBounds_toArray, List.set_cons_zero, List.set_cons_succ]))
            refine takeStoreOwn (i := 25) W31 encE_len encE_one rfl (by kernel_rfl) (by rfl) rfl (L := l') HN.out HO.out rfl rfl hjn ?_
            intro W4 ho hgW4
            have hb := Lib.hid (hHeld.out.kept hgW4 (by simp; omega))
            refine ⟨hb, ?_⟩
            clear hHeld
            have hHeld := hb
            clear hb
            have HOW4 := Lib.hid ho
            clear ho
            try simp only [Act.put]
            (refine takeW (i := 26) (v := ?_) rfl (by kernel_rfl) (by kernel_rfl) (by kernel_rfl) (fun _ _ _ h => h) (by rfl) (by assumption) ?_ ?_; rotate_left; (intro W hW; (try dsimp only at hW); go_simp; try with_reducible rfl); (try simp only [Act.put, List.setIfInBounds_toArray, List.set_cons_zero, List.set_cons_succ]))
            refine takeStoreOwn (i := 27) W31 encE_len encE_one rfl (by kernel_rfl) (by rfl) rfl (L := l'.set j y) (by rw [List.length_set]; exact HN.out) HOW4.out rfl rfl hfn ?_
            intro W5 ho hgW5
            have hb := Lib.hid (hHeld.out.kept hgW5 (by simp; omega))
            refine ⟨hb, ?_⟩
            clear hHeld
            have hHeld := hb
            clear hb
            have HOW5 := Lib.hid ho
            clear ho
            try simp only [Act.put]
            refine wpAnyH_done (by kernel_rfl) ?_ _
            go_wp2
            go_step3
            have HK5 := Lib.hid ((HK3.out.row hgW4 (.inl rfl)).row hgW5 (.inl rfl))
            have HQ5 : Hid (Qu W5 q (.slice (some ⟨g, 0, none⟩) n cap) (swapL l' j f) now) := by
              refine ⟨hHeld.out, ?_⟩
              have := HOW5.out
              rw [HSW.out]
              simpa [HN.out] using this
            have HL5 : Hid ((swapL l' j f).length = l.length) := (swapL_len _ _ _).trans HL.out
            refine (show (0 : Nat) = 0 ∧ _ from ⟨rfl, ?_⟩)
            refine ⟨SinkJ.mk f _ rfl HQ5 HK5 HE hf1 HL5, ?_⟩
            show 16384 - (f : Int).toNat < 16384 - (j : Int).toNat
            omega
          · (try simp only [Act.put, List.setIfInBounds_toArray, List.set_cons_zero, List.set_cons_succ])
            have hHeld : Hid (Blk W1.drew q 47 #[.bool true, (.slice (some ⟨g, 0, none⟩) n cap), .int .i64 now]) := hHeld
            refine takeV (i := 16) rfl (by kernel_rfl) (by rfl) (exec_loadW W31 rfl rfl (cs := encE y) rfl HYW.out) (hHeld) ?_
            (try simp only [Act.put, List.setIfInBounds_toArray, List.set_cons_zero, List.set_cons_succ])
            have hHeld : Hid (Blk W1.drew q 47 #[.bool true, (.slice (some ⟨g, 0, none⟩) n cap), .int .i64 now]) := hHeld
            (refine takeW (i := 24) (v := ?_) rfl (by kernel_rfl) (by kernel_rfl) (by kernel_rfl) (fun _ _ _ h => h) (by rfl) (by assumption) ?_ ?_; rotate_left; (intro W hW; (try dsimp only at hW); go_simp; try with_reducible rfl); (try simp only [Act.put, List.setIfInBounds_toArray, List.set_cons_zero, List.set_cons_succ]))
            refine takeStoreOwn (i := 25) W31 encE_len encE_one rfl (by kernel_rfl) (by rfl) rfl (L := l') HN.out HO.out rfl rfl hjn ?_
            intro W4 ho hgW4
            have hb := Lib.hid (hHeld.out.kept hgW4 (by simp; omega))
            refine ⟨hb, ?_⟩
            clear hHeld
            have hHeld := hb
            clear hb
            have HOW4 := Lib.hid ho
            clear ho
            try simp only [Act.put]
            (refine takeW (i := 26) (v := ?_) rfl (by kernel_rfl) (by kernel_rfl) (by kernel_rfl) (fun _ _ _ h => h) (by rfl) (by assumption) ?_ ?_; rotate_left; (intro W hW; (try dsimp only at hW); go_simp; try with_reducible rfl); (try simp only [Act.put, List.setIfInBounds_toArray, List.set_cons_zero, List.set_cons_succ]))
            refine takeStoreOwn (i := 27) W31 encE_len encE_one rfl (by kernel_rfl) (by rfl) rfl (L := l'.set j y) (by rw [List.length_set]; exact HN.out) HOW4.out rfl rfl hfn ?_
            intro W5 ho hgW5
            have hb := Lib.hid (hHeld.out.kept hgW5 (by simp; omega))
            refine ⟨hb, ?_⟩
            clear hHeld
            have hHeld := hb
            clear hb
            have HOW5 := Lib.hid ho
            clear ho
            try simp only [Act.put]
            refine wpAnyH_done (by kernel_rfl) ?_ _
            go_wp2
            go_step3
            have HK5 := Lib.hid ((HK3.out.row hgW4 (.inl rfl)).row hgW5 (.inl rfl))
            have HQ5 : Hid (Qu W5 q (.slice (some ⟨g, 0, none⟩) n cap) (swapL l' j f) now) := by
              refine ⟨hHeld.out, ?_⟩
              have := HOW5.out
              rw [HSW.out]
              simpa [HN.out] using this
            have HL5 : Hid ((swapL l' j f).length = l.length) := (swapL_len _ _ _).trans HL.out
            refine (show (0 : Nat) = 0 ∧ _ from ⟨rfl, ?_⟩)
            refine ⟨SinkJ.mk f _ rfl HQ5 HK5 HE hf1 HL5, ?_⟩
            show 16384 - (f : Int).toNat < 16384 - (j : Int).toNat
            omega
end Go.Proofs.Ytbmnecdkjkffdaa
