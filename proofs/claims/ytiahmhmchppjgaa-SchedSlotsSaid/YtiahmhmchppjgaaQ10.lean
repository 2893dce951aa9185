/- The walk of SchedSlots. -/
import Derived.Test.YtiahmhmchppjgaaQ9
import Derived.Test.YtiahmhmchppjgaaW5
namespace Go.Proofs.Ytiahmhmchppjgaa
open Go.RowKit Go.Shelf
open Sched (Sp bad)

theorem Bx.init {w W : World} {l : List (Nat × TypeId × Array Value)} {x : Nat × TypeId × Array Value} (h : Bx w W (l ++ [x])) : Bx w W l := ⟨fun y hy => h.1 y (List.mem_append_left _ hy), h.2⟩
def toldL (s l n f t : Int) (M : Nat) : List (Int × Sp) := (slotsS s l n f t).take M
theorem told_slots (s l n f t : Int) (M : Nat) (hM : M ≤ 255) (W : World) :
    Calls Try.prog 31 #[.func (.func 43) #[] #[.pointer (some ⟨W.heap.size, 0, none⟩), .pointer (some ⟨W.heap.size + 1, 0, none⟩)], .int .i64 M]
      ((W.alloc (.cells #[.int .i64 s, .int .i64 l, .int .i64 n] 40)).alloc (.cells #[.int .i64 f, .int .i64 t] 23)) fun e w' =>
        ∃ v, e = .returned (.tuple #[.int .i64 (stP (toldL s l n f t M)).2.1, v, .bool (stP (toldL s l n f t M)).2.2]) ∧ Spans w' v ((toldL s l n f t M).map (·.2)) ∧ Below W.heap.size W w' := by
  have hb := below2 W (.cells #[.int .i64 s, .int .i64 l, .int .i64 n] 40) (.cells #[.int .i64 f, .int .i64 t] 23)
  have D1 : Blk ((W.alloc (.cells #[.int .i64 s, .int .i64 l, .int .i64 n] 40)).alloc (.cells #[.int .i64 f, .int .i64 t] 23)) W.heap.size 40 #[.int .i64 s, .int .i64 l, .int .i64 n] := (Blk.new' rfl).alloc _
  have D2 : Blk ((W.alloc (.cells #[.int .i64 s, .int .i64 l, .int .i64 n] 40)).alloc (.cells #[.int .i64 f, .int .i64 t] 23)) (W.heap.size + 1) 23 #[.int .i64 f, .int .i64 t] := Blk.new' (by simp)
  have hz : ((W.alloc (.cells #[.int .i64 s, .int .i64 l, .int .i64 n] 40)).alloc (.cells #[.int .i64 f, .int .i64 t] 23)).heap.size = W.heap.size + 2 := by simp
  generalize (W.alloc (.cells #[.int .i64 s, .int .i64 l, .int .i64 n] 40)).alloc (.cells #[.int .i64 f, .int .i64 t] 23) = W2 at *
  have hbd : ∀ x ∈ (toldL s l n f t M).map (·.2), I64 x.1 ∧ I64 x.2 := by
    intro x hx
    obtain ⟨y, hy, rfl⟩ := List.mem_map.1 hx
    replace hy := List.mem_of_mem_take hy
    unfold slotsS at hy
    split at hy
    · simp at hy
    · rename_i hg
      simp only [not_or] at hg
      obtain ⟨j, hj, rfl⟩ := List.mem_map.1 hy
      have hj := List.mem_range.1 hj
      have hG' := hg.1
      unfold GBad at hG'
      obtain ⟨h1, h2⟩ := begins_ge (s := s) (l := l) (f := f) (by omega)
      unfold cntS at hj
      have h3 : begins s l f + j < lim s l t := by omega
      rw [lim_iff (by omega)] at h3
      obtain ⟨h4, h5⟩ := slot_fit (s := s) (l := l) (k := begins s l f + j) (by omega) (by omega) h3.1
      rw [slS_snd]
      unfold I64
      dsimp only
      omega
  refine (told_any 43 _ (enters_of Try.func43 (by kernel_rfl) rfl) M (by omega) (slotsS s l n f t) (cntS s l f t) W2
    (slots_stops 2 (by omega) W.heap.size (W.heap.size + 1) W2.heap.size s l n f t W2 (Nat.le_refl _) D1.three D2.two (by omega) (by omega))).mono ?_
  rintro e w' ⟨⟨v, rfl, ho⟩, hb'⟩
  exact ⟨v, rfl, Spans.of_owns (by simpa [toldL] using ho) (by simp [toldL]; omega) hbd, hb.trans (hb'.mono (by omega))⟩

set_option maxRecDepth 100000 in
set_option maxHeartbeats 1600000 in
theorem slots_walk (s l n k p0 p f t : Int) (M : Nat) (w : World) (hM : M ≤ 255) :
    Calls Try.prog 7 #[grv s l n, .int .i64 k, .int .i64 p0, .int .i64 p, spv (f, t), .int .u8 M] w fun e w' => e = .returned (.bool true) ∧ Below w.heap.size w w' := by
  have hs1 := slot_any s l n k
  have hs2 := rslot_any s l n k
  have hs3 := slotOf_any s l n p0
  have hs4 := rslotOf_any s l n p0
  have hs5 := next_any s l n p0 p
  have hs6 := rnext_any s l n p0 p
  have hs7 := checkGrid_any s l n
  have hs8 := rcheckGrid_any s l n
  have hs9 := rcheck_any f t
  have hsl := fun x => rslot_any s l n x
  unfold spv grv at *
  generalize slot s l n k = r1 at hs1 hs2
  generalize slotOf s l n p0 = r2 at hs3 hs4
  generalize next s l n p0 p = r3 at hs5 hs6
  obtain ⟨⟨q1, q2⟩, qe⟩ := r1
  obtain ⟨oo, oe⟩ := r2
  obtain ⟨no, ne⟩ := r3
  dsimp only at hs1 hs2 hs3 hs4 hs5 hs6
  have HCG : Hid (chkG s l n = if GBad s l n then 61 else 0) := rfl
  have HCK : Hid (chk (f, t) = if bad (f, t) then 60 else 0) := rfl
  generalize chkG s l n = cg at *
  generalize chk (f, t) = ck at *
  have hne0 := fun W => neSp q1 q2 q1 q2 W
  simp only [beq_self_eq_true, Bool.and_self, Bool.not_true] at hne0
  have hgd := guardSp
  have HJ : Hid (Bx w ((w.alloc (.cells #[.int .i64 s, .int .i64 l, .int .i64 n] 40)).alloc (.cells #[.int .i64 f, .int .i64 t] 23)) [(w.heap.size, 40, #[.int .i64 s, .int .i64 l, .int .i64 n]), (w.heap.size + 1, 23, #[.int .i64 f, .int .i64 t])]) := (((Bx.nil w).new (b := w.heap.size) #[.int .i64 s, .int .i64 l, .int .i64 n] 40 (by simp)).new (b := w.heap.size + 1) #[.int .i64 f, .int .i64 t] 23 (by simp))
  go_enter Try.func7, Try.ntmps7
  have cg_0 : ((w.alloc (.cells #[.int .i64 s, .int .i64 l, .int .i64 n] 40)).alloc (.cells #[.int .i64 f, .int .i64 t] 23)).cell? ⟨w.heap.size, 0, none⟩ = some (.int .i64 s) := HJ.out.at 0 0 rfl rfl; have cg_1 : ((w.alloc (.cells #[.int .i64 s, .int .i64 l, .int .i64 n] 40)).alloc (.cells #[.int .i64 f, .int .i64 t] 23)).cell? ⟨w.heap.size, 1, none⟩ = some (.int .i64 l) := HJ.out.at 0 1 rfl rfl; have cg_2 : ((w.alloc (.cells #[.int .i64 s, .int .i64 l, .int .i64 n] 40)).alloc (.cells #[.int .i64 f, .int .i64 t] 23)).cell? ⟨w.heap.size, 2, none⟩ = some (.int .i64 n) := HJ.out.at 0 2 rfl rfl; have zg : w.heap.size < ((w.alloc (.cells #[.int .i64 s, .int .i64 l, .int .i64 n] 40)).alloc (.cells #[.int .i64 f, .int .i64 t] 23)).heap.size := HJ.out.lt 0 rfl; have zx : w.heap.size + 1 < ((w.alloc (.cells #[.int .i64 s, .int .i64 l, .int .i64 n] 40)).alloc (.cells #[.int .i64 f, .int .i64 t] 23)).heap.size := HJ.out.lt 1 rfl
  go_wp2_with fail
  refine (hs1 _).mono ?_
  rintro e w1 ⟨rfl, hb⟩
  clear cg_0 cg_1 cg_2 zg zx
  replace HJ := Lib.hid (HJ.out.keep hb)
  clear hb
  have cg_0 : w1.cell? ⟨w.heap.size, 0, none⟩ = some (.int .i64 s) := HJ.out.at 0 0 rfl rfl; have cg_1 : w1.cell? ⟨w.heap.size, 1, none⟩ = some (.int .i64 l) := HJ.out.at 0 1 rfl rfl; have cg_2 : w1.cell? ⟨w.heap.size, 2, none⟩ = some (.int .i64 n) := HJ.out.at 0 2 rfl rfl; have zg : w.heap.size < w1.heap.size := HJ.out.lt 0 rfl; have zx : w.heap.size + 1 < w1.heap.size := HJ.out.lt 1 rfl
  have l3_0 : w.heap.size < w1.heap.size := HJ.out.lt 0 rfl
  have l3_1 : w.heap.size + 1 < w1.heap.size := HJ.out.lt 1 rfl
  have HJ2 : Hid (Bx w (w1.alloc (.cells #[.int .i64 q1, .int .i64 q2] 23)) [(w.heap.size, 40, #[.int .i64 s, .int .i64 l, .int .i64 n]), (w.heap.size + 1, 23, #[.int .i64 f, .int .i64 t]), (w1.heap.size, 23, #[.int .i64 q1, .int .i64 q2])]) := (HJ.out.new (b := w1.heap.size) #[.int .i64 q1, .int .i64 q2] 23 (by simp))
  go_upto_region 2 with fail
  clear cg_0 cg_1 cg_2 zg zx
  clear HJ
  have HJ := HJ2
  clear HJ2
  generalize (w1.alloc (.cells #[.int .i64 q1, .int .i64 q2] 23)) = w4 at *
  generalize w1.heap.size = b5 at *
  have cg_0 : w4.cell? ⟨w.heap.size, 0, none⟩ = some (.int .i64 s) := HJ.out.at 0 0 rfl rfl; have cg_1 : w4.cell? ⟨w.heap.size, 1, none⟩ = some (.int .i64 l) := HJ.out.at 0 1 rfl rfl; have cg_2 : w4.cell? ⟨w.heap.size, 2, none⟩ = some (.int .i64 n) := HJ.out.at 0 2 rfl rfl; have zg : w.heap.size < w4.heap.size := HJ.out.lt 0 rfl; have zx : w.heap.size + 1 < w4.heap.size := HJ.out.lt 1 rfl; have zp : b5 < w4.heap.size := HJ.out.lt 2 rfl
  go_wp2_with fail
  refine (hs2 _).mono ?_
  rintro e w6 ⟨rfl, hb⟩
  clear cg_0 cg_1 cg_2 zg zx zp
  replace HJ := Lib.hid (HJ.out.keep hb)
  clear hb
  have cg_0 : w6.cell? ⟨w.heap.size, 0, none⟩ = some (.int .i64 s) := HJ.out.at 0 0 rfl rfl; have cg_1 : w6.cell? ⟨w.heap.size, 1, none⟩ = some (.int .i64 l) := HJ.out.at 0 1 rfl rfl; have cg_2 : w6.cell? ⟨w.heap.size, 2, none⟩ = some (.int .i64 n) := HJ.out.at 0 2 rfl rfl; have zg : w.heap.size < w6.heap.size := HJ.out.lt 0 rfl; have zx : w.heap.size + 1 < w6.heap.size := HJ.out.lt 1 rfl; have zp : b5 < w6.heap.size := HJ.out.lt 2 rfl
  have l8_0 : w.heap.size < w6.heap.size := HJ.out.lt 0 rfl
  have l8_1 : w.heap.size + 1 < w6.heap.size := HJ.out.lt 1 rfl
  have l8_2 : b5 < w6.heap.size := HJ.out.lt 2 rfl
  have HJ2 : Hid (Bx w (w6.alloc (.cells #[.int .i64 q1, .int .i64 q2] 23)) [(w.heap.size, 40, #[.int .i64 s, .int .i64 l, .int .i64 n]), (w.heap.size + 1, 23, #[.int .i64 f, .int .i64 t]), (b5, 23, #[.int .i64 q1, .int .i64 q2]), (w6.heap.size, 23, #[.int .i64 q1, .int .i64 q2])]) := (HJ.out.new (b := w6.heap.size) #[.int .i64 q1, .int .i64 q2] 23 (by simp))
  go_upto_region 3 with fail
  clear cg_0 cg_1 cg_2 zg zx zp
  clear HJ
  have HJ := HJ2
  clear HJ2
  generalize (w6.alloc (.cells #[.int .i64 q1, .int .i64 q2] 23)) = w9 at *
  generalize w6.heap.size = b10 at *
  have cg_0 : w9.cell? ⟨w.heap.size, 0, none⟩ = some (.int .i64 s) := HJ.out.at 0 0 rfl rfl; have cg_1 : w9.cell? ⟨w.heap.size, 1, none⟩ = some (.int .i64 l) := HJ.out.at 0 1 rfl rfl; have cg_2 : w9.cell? ⟨w.heap.size, 2, none⟩ = some (.int .i64 n) := HJ.out.at 0 2 rfl rfl; have zg : w.heap.size < w9.heap.size := HJ.out.lt 0 rfl; have zx : w.heap.size + 1 < w9.heap.size := HJ.out.lt 1 rfl; have zp : b5 < w9.heap.size := HJ.out.lt 2 rfl; have zr : b10 < w9.heap.size := HJ.out.lt 3 rfl
  go_wp2_with fail
  refine (hs3 _).mono ?_
  rintro e w11 ⟨rfl, hb⟩
  clear cg_0 cg_1 cg_2 zg zx zp zr
  replace HJ := Lib.hid (HJ.out.keep hb)
  clear hb
  have cg_0 : w11.cell? ⟨w.heap.size, 0, none⟩ = some (.int .i64 s) := HJ.out.at 0 0 rfl rfl; have cg_1 : w11.cell? ⟨w.heap.size, 1, none⟩ = some (.int .i64 l) := HJ.out.at 0 1 rfl rfl; have cg_2 : w11.cell? ⟨w.heap.size, 2, none⟩ = some (.int .i64 n) := HJ.out.at 0 2 rfl rfl; have zg : w.heap.size < w11.heap.size := HJ.out.lt 0 rfl; have zx : w.heap.size + 1 < w11.heap.size := HJ.out.lt 1 rfl; have zp : b5 < w11.heap.size := HJ.out.lt 2 rfl; have zr : b10 < w11.heap.size := HJ.out.lt 3 rfl
  go_wp2_with fail
  refine (hs4 _).mono ?_
  rintro e w12 ⟨rfl, hb⟩
  clear cg_0 cg_1 cg_2 zg zx zp zr
  replace HJ := Lib.hid (HJ.out.keep hb)
  clear hb
  have cg_0 : w12.cell? ⟨w.heap.size, 0, none⟩ = some (.int .i64 s) := HJ.out.at 0 0 rfl rfl; have cg_1 : w12.cell? ⟨w.heap.size, 1, none⟩ = some (.int .i64 l) := HJ.out.at 0 1 rfl rfl; have cg_2 : w12.cell? ⟨w.heap.size, 2, none⟩ = some (.int .i64 n) := HJ.out.at 0 2 rfl rfl; have zg : w.heap.size < w12.heap.size := HJ.out.lt 0 rfl; have zx : w.heap.size + 1 < w12.heap.size := HJ.out.lt 1 rfl; have zp : b5 < w12.heap.size := HJ.out.lt 2 rfl; have zr : b10 < w12.heap.size := HJ.out.lt 3 rfl
  go_wp2_with fail
  refine (hs5 _).mono ?_
  rintro e w13 ⟨rfl, hb⟩
  clear cg_0 cg_1 cg_2 zg zx zp zr
  replace HJ := Lib.hid (HJ.out.keep hb)
  clear hb
  have cg_0 : w13.cell? ⟨w.heap.size, 0, none⟩ = some (.int .i64 s) := HJ.out.at 0 0 rfl rfl; have cg_1 : w13.cell? ⟨w.heap.size, 1, none⟩ = some (.int .i64 l) := HJ.out.at 0 1 rfl rfl; have cg_2 : w13.cell? ⟨w.heap.size, 2, none⟩ = some (.int .i64 n) := HJ.out.at 0 2 rfl rfl; have zg : w.heap.size < w13.heap.size := HJ.out.lt 0 rfl; have zx : w.heap.size + 1 < w13.heap.size := HJ.out.lt 1 rfl; have zp : b5 < w13.heap.size := HJ.out.lt 2 rfl; have zr : b10 < w13.heap.size := HJ.out.lt 3 rfl
  go_wp2_with fail
  refine (hs6 _).mono ?_
  rintro e w14 ⟨rfl, hb⟩
  clear cg_0 cg_1 cg_2 zg zx zp zr
  replace HJ := Lib.hid (HJ.out.keep hb)
  clear hb
  clear hs1 hs2 hs3 hs4 hs5 hs6
  have cg_0 : w14.cell? ⟨w.heap.size, 0, none⟩ = some (.int .i64 s) := HJ.out.at 0 0 rfl rfl; have cg_1 : w14.cell? ⟨w.heap.size, 1, none⟩ = some (.int .i64 l) := HJ.out.at 0 1 rfl rfl; have cg_2 : w14.cell? ⟨w.heap.size, 2, none⟩ = some (.int .i64 n) := HJ.out.at 0 2 rfl rfl; have cx_0 : w14.cell? ⟨w.heap.size + 1, 0, none⟩ = some (.int .i64 f) := HJ.out.at 1 0 rfl rfl; have cx_1 : w14.cell? ⟨w.heap.size + 1, 1, none⟩ = some (.int .i64 t) := HJ.out.at 1 1 rfl rfl; have cp_0 : w14.cell? ⟨b5, 0, none⟩ = some (.int .i64 q1) := HJ.out.at 2 0 rfl rfl; have cp_1 : w14.cell? ⟨b5, 1, none⟩ = some (.int .i64 q2) := HJ.out.at 2 1 rfl rfl; have cr_0 : w14.cell? ⟨b10, 0, none⟩ = some (.int .i64 q1) := HJ.out.at 3 0 rfl rfl; have cr_1 : w14.cell? ⟨b10, 1, none⟩ = some (.int .i64 q2) := HJ.out.at 3 1 rfl rfl; have zg : w.heap.size < w14.heap.size := HJ.out.lt 0 rfl; have zx : w.heap.size + 1 < w14.heap.size := HJ.out.lt 1 rfl; have zp : b5 < w14.heap.size := HJ.out.lt 2 rfl; have zr : b10 < w14.heap.size := HJ.out.lt 3 rfl
  go_upto_region 7 with fail
  have H1 : w14.drew.cell? ⟨w.heap.size, 0, none⟩ = some (.int .i64 s) ∧ w14.drew.cell? ⟨w.heap.size, 1, none⟩ = some (.int .i64 l) ∧ w14.drew.cell? ⟨w.heap.size, 2, none⟩ = some (.int .i64 n) ∧ w14.drew.cell? ⟨b5, 0, none⟩ = some (.int .i64 q1) ∧ w14.drew.cell? ⟨b5, 1, none⟩ = some (.int .i64 q2) ∧ w14.drew.cell? ⟨b10, 0, none⟩ = some (.int .i64 q1) ∧ w14.drew.cell? ⟨b10, 1, none⟩ = some (.int .i64 q2) ∧ Below w14.heap.size w14 w14.drew := ⟨cg_0, cg_1, cg_2, cp_0, cp_1, cr_0, cr_1, (Below.refl _ _).drew⟩
  refine wp_region_held_drew (S := (fun W => W.cell? ⟨w.heap.size, 0, none⟩ = some (.int .i64 s) ∧ W.cell? ⟨w.heap.size, 1, none⟩ = some (.int .i64 l) ∧ W.cell? ⟨w.heap.size, 2, none⟩ = some (.int .i64 n) ∧ W.cell? ⟨b5, 0, none⟩ = some (.int .i64 q1) ∧ W.cell? ⟨b5, 1, none⟩ = some (.int .i64 q2) ∧ W.cell? ⟨b10, 0, none⟩ = some (.int .i64 q1) ∧ W.cell? ⟨b10, 1, none⟩ = some (.int .i64 q2) ∧ Below w14.heap.size w14 W)) (by kernel_rfl) (by assumption) (fun hHeld => ?_)
  generalize w14.drew = Wd at *
  (refine takeC (i := 0) rfl (by kernel_rfl) (by rfl) (fun K hK => ?_); go_simp; (refine (begun_any _).mono ?_; rintro e W0 ⟨rfl, hb⟩; have hB : Below w14.heap.size w14 W0 := hHeld.2.2.2.2.2.2.2.trans (hb.mono hHeld.2.2.2.2.2.2.2.size); have hs : W0.cell? ⟨w.heap.size, 0, none⟩ = some (.int .i64 s) ∧ W0.cell? ⟨w.heap.size, 1, none⟩ = some (.int .i64 l) ∧ W0.cell? ⟨w.heap.size, 2, none⟩ = some (.int .i64 n) ∧ W0.cell? ⟨b5, 0, none⟩ = some (.int .i64 q1) ∧ W0.cell? ⟨b5, 1, none⟩ = some (.int .i64 q2) ∧ W0.cell? ⟨b10, 0, none⟩ = some (.int .i64 q1) ∧ W0.cell? ⟨b10, 1, none⟩ = some (.int .i64 q2) ∧ Below w14.heap.size w14 W0 := ⟨keepCell hB cg_0, keepCell hB cg_1, keepCell hB cg_2, keepCell hB cp_0, keepCell hB cp_1, keepCell hB cr_0, keepCell hB cr_1, hB⟩; clear hB hb); refine hK.out _ _ hs (fun hHeld => ?_); clear hK K; (try simp only [Act.put, List.setIfInBounds_toArray, List.set_cons_zero, List.set_cons_succ]))
  (refine takeW (i := 1) (v := ?_) rfl (by kernel_rfl) (by kernel_rfl) (by kernel_rfl) (fun _ _ _ h => h) (by rfl) (by assumption) ?_ ?_; rotate_left; (intro W hW; (try dsimp only at hW); go_simp; try with_reducible rfl); (try simp only [Act.put, List.setIfInBounds_toArray, List.set_cons_zero, List.set_cons_succ]))
  (refine takeW (i := 2) (v := ?_) rfl (by kernel_rfl) (by kernel_rfl) (by kernel_rfl) (fun _ _ _ h => h) (by rfl) (by assumption) ?_ ?_; rotate_left; (intro W hW; (try dsimp only at hW); go_simp; try with_reducible rfl); (try simp only [Act.put, List.setIfInBounds_toArray, List.set_cons_zero, List.set_cons_succ]))
  first
    | (refine takeW (i := 3) (v := ?_) rfl (by kernel_rfl) (by kernel_rfl) (by kernel_rfl) (fun _ _ _ h => h) (by rfl) (by assumption) ?_ ?_; rotate_left; (intro W hW; (try dsimp only at hW); go_simp; try with_reducible rfl); (try simp only [Act.put, List.setIfInBounds_toArray, List.set_cons_zero, List.set_cons_succ]))
    | (refine takeU (i := 3) rfl (by kernel_rfl) (by kernel_rfl) (by kernel_rfl) (fun _ _ _ h => h) (by rfl) (by assumption) ?_; (try simp only [Act.put, List.setIfInBounds_toArray, List.set_cons_zero, List.set_cons_succ]))
  first
    | (refine takeW (i := 5) (v := ?_) rfl (by kernel_rfl) (by kernel_rfl) (by kernel_rfl) (fun _ _ _ h => h) (by rfl) (by assumption) ?_ ?_; rotate_left; (intro W hW; (try dsimp only at hW); go_simp; try with_reducible rfl); (try simp only [Act.put, List.setIfInBounds_toArray, List.set_cons_zero, List.set_cons_succ]))
    | (refine takeU (i := 5) rfl (by kernel_rfl) (by kernel_rfl) (by kernel_rfl) (fun _ _ _ h => h) (by rfl) (by assumption) ?_; (try simp only [Act.put, List.setIfInBounds_toArray, List.set_cons_zero, List.set_cons_succ]))
  first
    | (refine takeU (i := 4) rfl (by kernel_rfl) (by kernel_rfl) (by kernel_rfl) (fun _ _ _ h => h) (by rfl) (by assumption) ?_; (try simp only [Act.put, List.setIfInBounds_toArray, List.set_cons_zero, List.set_cons_succ]))
    | (refine takeC (i := 4) rfl (by kernel_rfl) (by rfl) (fun K hK => ?_); go_simp; (refine (hs7 _).mono ?_; rintro e W4 ⟨rfl, hb⟩; have hB : Below w14.heap.size w14 W4 := hHeld.2.2.2.2.2.2.2.trans (hb.mono hHeld.2.2.2.2.2.2.2.size); have hs : W4.cell? ⟨w.heap.size, 0, none⟩ = some (.int .i64 s) ∧ W4.cell? ⟨w.heap.size, 1, none⟩ = some (.int .i64 l) ∧ W4.cell? ⟨w.heap.size, 2, none⟩ = some (.int .i64 n) ∧ W4.cell? ⟨b5, 0, none⟩ = some (.int .i64 q1) ∧ W4.cell? ⟨b5, 1, none⟩ = some (.int .i64 q2) ∧ W4.cell? ⟨b10, 0, none⟩ = some (.int .i64 q1) ∧ W4.cell? ⟨b10, 1, none⟩ = some (.int .i64 q2) ∧ Below w14.heap.size w14 W4 := ⟨keepCell hB cg_0, keepCell hB cg_1, keepCell hB cg_2, keepCell hB cp_0, keepCell hB cp_1, keepCell hB cr_0, keepCell hB cr_1, hB⟩; clear hB hb); refine hK.out _ _ hs (fun hHeld => ?_); clear hK K; (try simp only [Act.put, List.setIfInBounds_toArray, List.set_cons_zero, List.set_cons_succ]))
  first
    | (refine takeU (i := 6) rfl (by kernel_rfl) (by kernel_rfl) (by kernel_rfl) (fun _ _ _ h => h) (by rfl) (by assumption) ?_; (try simp only [Act.put, List.setIfInBounds_toArray, List.set_cons_zero, List.set_cons_succ]))
    | (refine takeC (i := 6) rfl (by kernel_rfl) (by rfl) (fun K hK => ?_); go_simp; (refine (hs8 _).mono ?_; rintro e W6 ⟨rfl, hb⟩; have hB : Below w14.heap.size w14 W6 := hHeld.2.2.2.2.2.2.2.trans (hb.mono hHeld.2.2.2.2.2.2.2.size); have hs : W6.cell? ⟨w.heap.size, 0, none⟩ = some (.int .i64 s) ∧ W6.cell? ⟨w.heap.size, 1, none⟩ = some (.int .i64 l) ∧ W6.cell? ⟨w.heap.size, 2, none⟩ = some (.int .i64 n) ∧ W6.cell? ⟨b5, 0, none⟩ = some (.int .i64 q1) ∧ W6.cell? ⟨b5, 1, none⟩ = some (.int .i64 q2) ∧ W6.cell? ⟨b10, 0, none⟩ = some (.int .i64 q1) ∧ W6.cell? ⟨b10, 1, none⟩ = some (.int .i64 q2) ∧ Below w14.heap.size w14 W6 := ⟨keepCell hB cg_0, keepCell hB cg_1, keepCell hB cg_2, keepCell hB cp_0, keepCell hB cp_1, keepCell hB cr_0, keepCell hB cr_1, hB⟩; clear hB hb); refine hK.out _ _ hs (fun hHeld => ?_); clear hK K; (try simp only [Act.put, List.setIfInBounds_toArray, List.set_cons_zero, List.set_cons_succ]))
  first
    | (refine takeW (i := 7) (v := ?_) rfl (by kernel_rfl) (by kernel_rfl) (by kernel_rfl) (fun _ _ _ h => h) (by rfl) (by assumption) ?_ ?_; rotate_left; (intro W hW; (try dsimp only at hW); go_simp; try with_reducible rfl); (try simp only [Act.put, List.setIfInBounds_toArray, List.set_cons_zero, List.set_cons_succ]))
    | (refine takeU (i := 7) rfl (by kernel_rfl) (by kernel_rfl) (by kernel_rfl) (fun _ _ _ h => h) (by rfl) (by assumption) ?_; (try simp only [Act.put, List.setIfInBounds_toArray, List.set_cons_zero, List.set_cons_succ]))
  (refine takeW (i := 8) (v := ?_) rfl (by kernel_rfl) (by kernel_rfl) (by kernel_rfl) (fun _ _ _ h => h) (by rfl) (by assumption) ?_ ?_; rotate_left; (intro W hW; (try dsimp only at hW); go_simp; try with_reducible rfl); (try simp only [Act.put, List.setIfInBounds_toArray, List.set_cons_zero, List.set_cons_succ]))
  (refine takeW (i := 9) (v := ?_) rfl (by kernel_rfl) (by kernel_rfl) (by kernel_rfl) (fun _ _ _ h => h) (by rfl) (by assumption) ?_ ?_; rotate_left; (intro W hW; (try dsimp only at hW); go_simp; try with_reducible rfl); (try simp only [Act.put, List.setIfInBounds_toArray, List.set_cons_zero, List.set_cons_succ]))
  first
    | (refine takeW (i := 10) (v := ?_) rfl (by kernel_rfl) (by kernel_rfl) (by kernel_rfl) (fun _ _ _ h => h) (by rfl) (by assumption) ?_ ?_; rotate_left; (intro W hW; (try dsimp only at hW); go_simp; try with_reducible rfl); (try simp only [Act.put, List.setIfInBounds_toArray, List.set_cons_zero, List.set_cons_succ]))
    | (refine takeU (i := 10) rfl (by kernel_rfl) (by kernel_rfl) (by kernel_rfl) (fun _ _ _ h => h) (by rfl) (by assumption) ?_; (try simp only [Act.put, List.setIfInBounds_toArray, List.set_cons_zero, List.set_cons_succ]))
  first
    | (refine takeW (i := 11) (v := ?_) rfl (by kernel_rfl) (by kernel_rfl) (by kernel_rfl) (fun _ _ _ h => h) (by rfl) (by assumption) ?_ ?_; rotate_left; (intro W hW; (try dsimp only at hW); go_simp; try with_reducible rfl); (try simp only [Act.put, List.setIfInBounds_toArray, List.set_cons_zero, List.set_cons_succ]))
    | (refine takeU (i := 11) rfl (by kernel_rfl) (by kernel_rfl) (by kernel_rfl) (fun _ _ _ h => h) (by rfl) (by assumption) ?_; (try simp only [Act.put, List.setIfInBounds_toArray, List.set_cons_zero, List.set_cons_succ]))
  first
    | (refine takeW (i := 12) (v := ?_) rfl (by kernel_rfl) (by kernel_rfl) (by kernel_rfl) (fun _ _ _ h => h) (by rfl) (by assumption) ?_ ?_; rotate_left; (intro W hW; (try dsimp only at hW); go_simp; try with_reducible rfl); (try simp only [Act.put, List.setIfInBounds_toArray, List.set_cons_zero, List.set_cons_succ]))
    | (refine takeU (i := 12) rfl (by kernel_rfl) (by kernel_rfl) (by kernel_rfl) (fun _ _ _ h => h) (by rfl) (by assumption) ?_; (try simp only [Act.put, List.setIfInBounds_toArray, List.set_cons_zero, List.set_cons_succ]))
  (refine takeW (i := 13) (v := ?_) rfl (by kernel_rfl) (by kernel_rfl) (by kernel_rfl) (fun _ _ _ h => h) (by rfl) (by assumption) ?_ ?_; rotate_left; (intro W hW; (try dsimp only at hW); go_simp; try with_reducible rfl); (try simp only [Act.put, List.setIfInBounds_toArray, List.set_cons_zero, List.set_cons_succ]))
  (refine takeW (i := 14) (v := ?_) rfl (by kernel_rfl) (by kernel_rfl) (by kernel_rfl) (fun _ _ _ h => h) (by rfl) (by assumption) ?_ ?_; rotate_left; (intro W hW; (try dsimp only at hW); go_simp; try with_reducible rfl); (try simp only [Act.put, List.setIfInBounds_toArray, List.set_cons_zero, List.set_cons_succ]))
  first
    | (refine takeW (i := 15) (v := ?_) rfl (by kernel_rfl) (by kernel_rfl) (by kernel_rfl) (fun _ _ _ h => h) (by rfl) (by assumption) ?_ ?_; rotate_left; (intro W hW; (try dsimp only at hW); go_simp; try with_reducible rfl); (try simp only [Act.put, List.setIfInBounds_toArray, List.set_cons_zero, List.set_cons_succ]))
    | (refine takeU (i := 15) rfl (by kernel_rfl) (by kernel_rfl) (by kernel_rfl) (fun _ _ _ h => h) (by rfl) (by assumption) ?_; (try simp only [Act.put, List.setIfInBounds_toArray, List.set_cons_zero, List.set_cons_succ]))
  first
    | (refine takeW (i := 16) (v := ?_) rfl (by kernel_rfl) (by kernel_rfl) (by kernel_rfl) (fun _ _ _ h => h) (by rfl) (by assumption) ?_ ?_; rotate_left; (intro W hW; (try dsimp only at hW); go_simp; try with_reducible rfl); (try simp only [Act.put, List.setIfInBounds_toArray, List.set_cons_zero, List.set_cons_succ]))
    | (refine takeU (i := 16) rfl (by kernel_rfl) (by kernel_rfl) (by kernel_rfl) (fun _ _ _ h => h) (by rfl) (by assumption) ?_; (try simp only [Act.put, List.setIfInBounds_toArray, List.set_cons_zero, List.set_cons_succ]))
  first
    | (refine takeW (i := 17) (v := ?_) rfl (by kernel_rfl) (by kernel_rfl) (by kernel_rfl) (fun _ _ _ h => h) (by rfl) (by assumption) ?_ ?_; rotate_left; (intro W hW; (try dsimp only at hW); go_simp; try with_reducible rfl); (try simp only [Act.put, List.setIfInBounds_toArray, List.set_cons_zero, List.set_cons_succ]))
    | (refine takeU (i := 17) rfl (by kernel_rfl) (by kernel_rfl) (by kernel_rfl) (fun _ _ _ h => h) (by rfl) (by assumption) ?_; (try simp only [Act.put, List.setIfInBounds_toArray, List.set_cons_zero, List.set_cons_succ]))
  (refine takeW (i := 18) (v := ?_) rfl (by kernel_rfl) (by kernel_rfl) (by kernel_rfl) (fun _ _ _ h => h) (by rfl) (by assumption) ?_ ?_; rotate_left; (intro W hW; (try dsimp only at hW); go_simp; try with_reducible rfl); (try simp only [Act.put, List.setIfInBounds_toArray, List.set_cons_zero, List.set_cons_succ]))
  (refine takeW (i := 19) (v := ?_) rfl (by kernel_rfl) (by kernel_rfl) (by kernel_rfl) (fun _ _ _ h => h) (by rfl) (by assumption) ?_ ?_; rotate_left; (intro W hW; (try dsimp only at hW); go_simp; try with_reducible rfl); (try simp only [Act.put, List.setIfInBounds_toArray, List.set_cons_zero, List.set_cons_succ]))
  first
    | (refine takeW (i := 20) (v := ?_) rfl (by kernel_rfl) (by kernel_rfl) (by kernel_rfl) (fun _ _ _ h => h) (by rfl) (by assumption) ?_ ?_; rotate_left; (intro W hW; (try dsimp only at hW); go_simp; try with_reducible rfl); (try simp only [Act.put, List.setIfInBounds_toArray, List.set_cons_zero, List.set_cons_succ]))
    | (refine takeU (i := 20) rfl (by kernel_rfl) (by kernel_rfl) (by kernel_rfl) (fun _ _ _ h => h) (by rfl) (by assumption) ?_; (try simp only [Act.put, List.setIfInBounds_toArray, List.set_cons_zero, List.set_cons_succ]))
  first
    | (refine takeW (i := 21) (v := ?_) rfl (by kernel_rfl) (by kernel_rfl) (by kernel_rfl) (fun _ _ _ h => h) (by rfl) (by assumption) ?_ ?_; rotate_left; (intro W hW; (try dsimp only at hW); go_simp; try with_reducible rfl); (try simp only [Act.put, List.setIfInBounds_toArray, List.set_cons_zero, List.set_cons_succ]))
    | (refine takeU (i := 21) rfl (by kernel_rfl) (by kernel_rfl) (by kernel_rfl) (fun _ _ _ h => h) (by rfl) (by assumption) ?_; (try simp only [Act.put, List.setIfInBounds_toArray, List.set_cons_zero, List.set_cons_succ]))
  first
    | (refine takeW (i := 22) (v := ?_) rfl (by kernel_rfl) (by kernel_rfl) (by kernel_rfl) (fun _ _ _ h => h) (by rfl) (by assumption) ?_ ?_; rotate_left; (intro W hW; (try dsimp only at hW); go_simp; try with_reducible rfl); (try simp only [Act.put, List.setIfInBounds_toArray, List.set_cons_zero, List.set_cons_succ]))
    | (refine takeU (i := 22) rfl (by kernel_rfl) (by kernel_rfl) (by kernel_rfl) (fun _ _ _ h => h) (by rfl) (by assumption) ?_; (try simp only [Act.put, List.setIfInBounds_toArray, List.set_cons_zero, List.set_cons_succ]))
  (refine takeW (i := 23) (v := ?_) rfl (by kernel_rfl) (by kernel_rfl) (by kernel_rfl) (fun _ _ _ h => h) (by rfl) (by assumption) ?_ ?_; rotate_left; (intro W hW; (try dsimp only at hW); go_simp; try with_reducible rfl); (try simp only [Act.put, List.setIfInBounds_toArray, List.set_cons_zero, List.set_cons_succ]))
  (refine takeW (i := 24) (v := ?_) rfl (by kernel_rfl) (by kernel_rfl) (by kernel_rfl) (fun _ _ _ h => h) (by rfl) (by assumption) ?_ ?_; rotate_left; (intro W hW; (try dsimp only at hW); go_simp; try with_reducible rfl); (try simp only [Act.put, List.setIfInBounds_toArray, List.set_cons_zero, List.set_cons_succ]))
  first
    | (refine takeW (i := 25) (v := ?_) rfl (by kernel_rfl) (by kernel_rfl) (by kernel_rfl) (fun _ _ _ h => h) (by rfl) (by assumption) ?_ ?_; rotate_left; (intro W hW; (try dsimp only at hW); go_simp; try with_reducible rfl); (try simp only [Act.put, List.setIfInBounds_toArray, List.set_cons_zero, List.set_cons_succ]))
    | (refine takeU (i := 25) rfl (by kernel_rfl) (by kernel_rfl) (by kernel_rfl) (fun _ _ _ h => h) (by rfl) (by assumption) ?_; (try simp only [Act.put, List.setIfInBounds_toArray, List.set_cons_zero, List.set_cons_succ]))
  first
    | (refine takeW (i := 26) (v := ?_) rfl (by kernel_rfl) (by kernel_rfl) (by kernel_rfl) (fun _ _ _ h => h) (by rfl) (by assumption) ?_ ?_; rotate_left; (intro W hW; (try dsimp only at hW); go_simp; try with_reducible rfl); (try simp only [Act.put, List.setIfInBounds_toArray, List.set_cons_zero, List.set_cons_succ]))
    | (refine takeU (i := 26) rfl (by kernel_rfl) (by kernel_rfl) (by kernel_rfl) (fun _ _ _ h => h) (by rfl) (by assumption) ?_; (try simp only [Act.put, List.setIfInBounds_toArray, List.set_cons_zero, List.set_cons_succ]))
  first
    | (refine takeW (i := 27) (v := ?_) rfl (by kernel_rfl) (by kernel_rfl) (by kernel_rfl) (fun _ _ _ h => h) (by rfl) (by assumption) ?_ ?_; rotate_left; (intro W hW; (try dsimp only at hW); go_simp; try with_reducible rfl); (try simp only [Act.put, List.setIfInBounds_toArray, List.set_cons_zero, List.set_cons_succ]))
    | (refine takeU (i := 27) rfl (by kernel_rfl) (by kernel_rfl) (by kernel_rfl) (fun _ _ _ h => h) (by rfl) (by assumption) ?_; (try simp only [Act.put, List.setIfInBounds_toArray, List.set_cons_zero, List.set_cons_succ]))
  (refine takeW (i := 28) (v := ?_) rfl (by kernel_rfl) (by kernel_rfl) (by kernel_rfl) (fun _ _ _ h => h) (by rfl) (by assumption) ?_ ?_; rotate_left; (intro W hW; (try dsimp only at hW); go_simp; try with_reducible rfl); (try simp only [Act.put, List.setIfInBounds_toArray, List.set_cons_zero, List.set_cons_succ]))
  (refine takeW (i := 29) (v := ?_) rfl (by kernel_rfl) (by kernel_rfl) (by kernel_rfl) (fun _ _ _ h => h) (by rfl) (by assumption) ?_ ?_; rotate_left; (intro W hW; (try dsimp only at hW); go_simp; try with_reducible rfl); (try simp only [Act.put, List.setIfInBounds_toArray, List.set_cons_zero, List.set_cons_succ]))
  first
    | (refine takeW (i := 30) (v := ?_) rfl (by kernel_rfl) (by kernel_rfl) (by kernel_rfl) (fun _ _ _ h => h) (by rfl) (by assumption) ?_ ?_; rotate_left; (intro W hW; (try dsimp only at hW); go_simp; try with_reducible rfl); (try simp only [Act.put, List.setIfInBounds_toArray, List.set_cons_zero, List.set_cons_succ]))
    | (refine takeU (i := 30) rfl (by kernel_rfl) (by kernel_rfl) (by kernel_rfl) (fun _ _ _ h => h) (by rfl) (by assumption) ?_; (try simp only [Act.put, List.setIfInBounds_toArray, List.set_cons_zero, List.set_cons_succ]))
  first
    | (refine takeW (i := 31) (v := ?_) rfl (by kernel_rfl) (by kernel_rfl) (by kernel_rfl) (fun _ _ _ h => h) (by rfl) (by assumption) ?_ ?_; rotate_left; (intro W hW; (try dsimp only at hW); go_simp; try with_reducible rfl); (try simp only [Act.put, List.setIfInBounds_toArray, List.set_cons_zero, List.set_cons_succ]))
    | (refine takeU (i := 31) rfl (by kernel_rfl) (by kernel_rfl) (by kernel_rfl) (fun _ _ _ h => h) (by rfl) (by assumption) ?_; (try simp only [Act.put, List.setIfInBounds_toArray, List.set_cons_zero, List.set_cons_succ]))
  first
    | (refine takeW (i := 32) (v := ?_) rfl (by kernel_rfl) (by kernel_rfl) (by kernel_rfl) (fun _ _ _ h => h) (by rfl) (by assumption) ?_ ?_; rotate_left; (intro W hW; (try dsimp only at hW); go_simp; try with_reducible rfl); (try simp only [Act.put, List.setIfInBounds_toArray, List.set_cons_zero, List.set_cons_succ]))
    | (refine takeU (i := 32) rfl (by kernel_rfl) (by kernel_rfl) (by kernel_rfl) (fun _ _ _ h => h) (by rfl) (by assumption) ?_; (try simp only [Act.put, List.setIfInBounds_toArray, List.set_cons_zero, List.set_cons_succ]))
  (refine takeW (i := 33) (v := ?_) rfl (by kernel_rfl) (by kernel_rfl) (by kernel_rfl) (fun _ _ _ h => h) (by rfl) (by assumption) ?_ ?_; rotate_left; (intro W hW; (try dsimp only at hW); go_simp; try with_reducible rfl); (try simp only [Act.put, List.setIfInBounds_toArray, List.set_cons_zero, List.set_cons_succ]))
  (refine takeW (i := 34) (v := ?_) rfl (by kernel_rfl) (by kernel_rfl) (by kernel_rfl) (fun _ _ _ h => h) (by rfl) (by assumption) ?_ ?_; rotate_left; (intro W hW; (try dsimp only at hW); go_simp; try with_reducible rfl); (try simp only [Act.put, List.setIfInBounds_toArray, List.set_cons_zero, List.set_cons_succ]))
  first
    | (refine takeW (i := 35) (v := ?_) rfl (by kernel_rfl) (by kernel_rfl) (by kernel_rfl) (fun _ _ _ h => h) (by rfl) (by assumption) ?_ ?_; rotate_left; (intro W hW; (try dsimp only at hW); go_simp; try with_reducible rfl); (try simp only [Act.put, List.setIfInBounds_toArray, List.set_cons_zero, List.set_cons_succ]))
    | (refine takeU (i := 35) rfl (by kernel_rfl) (by kernel_rfl) (by kernel_rfl) (fun _ _ _ h => h) (by rfl) (by assumption) ?_; (try simp only [Act.put, List.setIfInBounds_toArray, List.set_cons_zero, List.set_cons_succ]))
  first
    | (refine takeW (i := 36) (v := ?_) rfl (by kernel_rfl) (by kernel_rfl) (by kernel_rfl) (fun _ _ _ h => h) (by rfl) (by assumption) ?_ ?_; rotate_left; (intro W hW; (try dsimp only at hW); go_simp; try with_reducible rfl); (try simp only [Act.put, List.setIfInBounds_toArray, List.set_cons_zero, List.set_cons_succ]))
    | (refine takeU (i := 36) rfl (by kernel_rfl) (by kernel_rfl) (by kernel_rfl) (fun _ _ _ h => h) (by rfl) (by assumption) ?_; (try simp only [Act.put, List.setIfInBounds_toArray, List.set_cons_zero, List.set_cons_succ]))
  first
    | (refine takeW (i := 37) (v := ?_) rfl (by kernel_rfl) (by kernel_rfl) (by kernel_rfl) (fun _ _ _ h => h) (by rfl) (by assumption) ?_ ?_; rotate_left; (intro W hW; (try dsimp only at hW); go_simp; try with_reducible rfl); (try simp only [Act.put, List.setIfInBounds_toArray, List.set_cons_zero, List.set_cons_succ]))
    | (refine takeU (i := 37) rfl (by kernel_rfl) (by kernel_rfl) (by kernel_rfl) (fun _ _ _ h => h) (by rfl) (by assumption) ?_; (try simp only [Act.put, List.setIfInBounds_toArray, List.set_cons_zero, List.set_cons_succ]))
  (refine takeW (i := 38) (v := ?_) rfl (by kernel_rfl) (by kernel_rfl) (by kernel_rfl) (fun _ _ _ h => h) (by rfl) (by assumption) ?_ ?_; rotate_left; (intro W hW; (try dsimp only at hW); go_simp; try with_reducible rfl); (try simp only [Act.put, List.setIfInBounds_toArray, List.set_cons_zero, List.set_cons_succ]))
  refine wpAnyH_done (by kernel_rfl) ?_ _
  skip
  have HB := Lib.hid hHeld.2.2.2.2.2.2.2
  clear hHeld H1 hs7
  clear cg_0 cg_1 cg_2 cx_0 cx_1 cp_0 cp_1 cr_0 cr_1 zg zx zp zr
  replace HJ := Lib.hid (HJ.out.keep HB.out)
  clear HB hne0
  have cg_0 : W6.cell? ⟨w.heap.size, 0, none⟩ = some (.int .i64 s) := HJ.out.at 0 0 rfl rfl; have cg_1 : W6.cell? ⟨w.heap.size, 1, none⟩ = some (.int .i64 l) := HJ.out.at 0 1 rfl rfl; have cg_2 : W6.cell? ⟨w.heap.size, 2, none⟩ = some (.int .i64 n) := HJ.out.at 0 2 rfl rfl; have cx_0 : W6.cell? ⟨w.heap.size + 1, 0, none⟩ = some (.int .i64 f) := HJ.out.at 1 0 rfl rfl; have cx_1 : W6.cell? ⟨w.heap.size + 1, 1, none⟩ = some (.int .i64 t) := HJ.out.at 1 1 rfl rfl; have zg : w.heap.size < W6.heap.size := HJ.out.lt 0 rfl; have zx : w.heap.size + 1 < W6.heap.size := HJ.out.lt 1 rfl; have zp : b5 < W6.heap.size := HJ.out.lt 2 rfl; have zr : b10 < W6.heap.size := HJ.out.lt 3 rfl
  go_wp2_with fail
  refine (slots_any s l n f t _).mono ?_
  rintro e wz ⟨rfl, rfl⟩
  go_wp2_with fail
  refine (told_slots s l n f t M hM _).mono ?_
  rintro e w7 ⟨v, rfl, hsp, hb⟩
  clear cg_0 cg_1 cg_2 cx_0 cx_1 zg zx zp zr
  replace HJ := Lib.hid (HJ.out.keep hb)
  have HSp := Lib.hid hsp
  clear hb hsp
  have HST : Hid (stP (toldL s l n f t M) = stP (toldL s l n f t M)) := rfl
  obtain ⟨tl, htl⟩ : ∃ tl, tl = (toldL s l n f t M).map (·.2) := ⟨_, rfl⟩
  obtain ⟨st, hst⟩ : ∃ st, st = stP (toldL s l n f t M) := ⟨_, rfl⟩
  rw [← htl] at HSp
  rw [← hst]
  clear HST
  have HTL := Lib.hid htl
  have HST := Lib.hid hst
  clear htl hst
  obtain ⟨a, cap, rfl, z1, z2, z3⟩ := HSp.out.shape
  clear z3
  by_cases hg : GBad s l n
  · have hcg : cg = 61 := by rw [HCG.out, if_pos hg]
    subst hcg
    have hT : toldL s l n f t M = [] := by simp [toldL, slotsS, hg]
    clear hg HCG
    have htl : tl = [] := by rw [HTL.out, hT]; rfl
    have hst' : st = (0, 0, true) := by rw [HST.out, hT]; rfl
    clear hT HTL HST HSp
    subst htl hst'
    simp only [List.length_nil] at *
    have cg_0 : w7.cell? ⟨w.heap.size, 0, none⟩ = some (.int .i64 s) := HJ.out.at 0 0 rfl rfl; have cg_1 : w7.cell? ⟨w.heap.size, 1, none⟩ = some (.int .i64 l) := HJ.out.at 0 1 rfl rfl; have cg_2 : w7.cell? ⟨w.heap.size, 2, none⟩ = some (.int .i64 n) := HJ.out.at 0 2 rfl rfl; have cx_0 : w7.cell? ⟨w.heap.size + 1, 0, none⟩ = some (.int .i64 f) := HJ.out.at 1 0 rfl rfl; have cx_1 : w7.cell? ⟨w.heap.size + 1, 1, none⟩ = some (.int .i64 t) := HJ.out.at 1 1 rfl rfl; have zg : w.heap.size < w7.heap.size := HJ.out.lt 0 rfl; have zx : w.heap.size + 1 < w7.heap.size := HJ.out.lt 1 rfl; have zp : b5 < w7.heap.size := HJ.out.lt 2 rfl; have zr : b10 < w7.heap.size := HJ.out.lt 3 rfl
    go_wp2_with fail
    refine (hs8 _).mono ?_
    rintro e w15 ⟨rfl, hb⟩
    clear cg_0 cg_1 cg_2 cx_0 cx_1 zg zx zp zr
    replace HJ := Lib.hid (HJ.out.keep hb)
    clear hb
    have cg_0 : w15.cell? ⟨w.heap.size, 0, none⟩ = some (.int .i64 s) := HJ.out.at 0 0 rfl rfl; have cg_1 : w15.cell? ⟨w.heap.size, 1, none⟩ = some (.int .i64 l) := HJ.out.at 0 1 rfl rfl; have cg_2 : w15.cell? ⟨w.heap.size, 2, none⟩ = some (.int .i64 n) := HJ.out.at 0 2 rfl rfl; have cx_0 : w15.cell? ⟨w.heap.size + 1, 0, none⟩ = some (.int .i64 f) := HJ.out.at 1 0 rfl rfl; have cx_1 : w15.cell? ⟨w.heap.size + 1, 1, none⟩ = some (.int .i64 t) := HJ.out.at 1 1 rfl rfl; have zg : w.heap.size < w15.heap.size := HJ.out.lt 0 rfl; have zx : w.heap.size + 1 < w15.heap.size := HJ.out.lt 1 rfl; have zp : b5 < w15.heap.size := HJ.out.lt 2 rfl; have zr : b10 < w15.heap.size := HJ.out.lt 3 rfl
    go_wp2
    go_ret
    exact ⟨rfl, HJ.out.2⟩
  have hcg : cg = 0 := by rw [HCG.out, if_neg hg]
  subst hcg
  clear HCG
  by_cases hbad : bad (f, t) = true
  · have hck : ck = 60 := by rw [HCK.out, if_pos hbad]
    subst hck
    have hT : toldL s l n f t M = [] := by simp [toldL, slotsS, hbad]
    clear hbad hg HCK
    have htl : tl = [] := by rw [HTL.out, hT]; rfl
    have hst' : st = (0, 0, true) := by rw [HST.out, hT]; rfl
    clear hT HTL HST HSp
    subst htl hst'
    simp only [List.length_nil] at *
    have cg_0 : w7.cell? ⟨w.heap.size, 0, none⟩ = some (.int .i64 s) := HJ.out.at 0 0 rfl rfl; have cg_1 : w7.cell? ⟨w.heap.size, 1, none⟩ = some (.int .i64 l) := HJ.out.at 0 1 rfl rfl; have cg_2 : w7.cell? ⟨w.heap.size, 2, none⟩ = some (.int .i64 n) := HJ.out.at 0 2 rfl rfl; have cx_0 : w7.cell? ⟨w.heap.size + 1, 0, none⟩ = some (.int .i64 f) := HJ.out.at 1 0 rfl rfl; have cx_1 : w7.cell? ⟨w.heap.size + 1, 1, none⟩ = some (.int .i64 t) := HJ.out.at 1 1 rfl rfl; have zg : w.heap.size < w7.heap.size := HJ.out.lt 0 rfl; have zx : w.heap.size + 1 < w7.heap.size := HJ.out.lt 1 rfl; have zp : b5 < w7.heap.size := HJ.out.lt 2 rfl; have zr : b10 < w7.heap.size := HJ.out.lt 3 rfl
    go_wp2_with fail
    refine (hs8 _).mono ?_
    rintro e w15 ⟨rfl, hb⟩
    clear cg_0 cg_1 cg_2 cx_0 cx_1 zg zx zp zr
    replace HJ := Lib.hid (HJ.out.keep hb)
    clear hb
    have cg_0 : w15.cell? ⟨w.heap.size, 0, none⟩ = some (.int .i64 s) := HJ.out.at 0 0 rfl rfl; have cg_1 : w15.cell? ⟨w.heap.size, 1, none⟩ = some (.int .i64 l) := HJ.out.at 0 1 rfl rfl; have cg_2 : w15.cell? ⟨w.heap.size, 2, none⟩ = some (.int .i64 n) := HJ.out.at 0 2 rfl rfl; have cx_0 : w15.cell? ⟨w.heap.size + 1, 0, none⟩ = some (.int .i64 f) := HJ.out.at 1 0 rfl rfl; have cx_1 : w15.cell? ⟨w.heap.size + 1, 1, none⟩ = some (.int .i64 t) := HJ.out.at 1 1 rfl rfl; have zg : w.heap.size < w15.heap.size := HJ.out.lt 0 rfl; have zx : w.heap.size + 1 < w15.heap.size := HJ.out.lt 1 rfl; have zp : b5 < w15.heap.size := HJ.out.lt 2 rfl; have zr : b10 < w15.heap.size := HJ.out.lt 3 rfl
    go_wp2_with fail
    refine (hs9 _).mono ?_
    rintro e w16 ⟨rfl, hb⟩
    clear cg_0 cg_1 cg_2 cx_0 cx_1 zg zx zp zr
    replace HJ := Lib.hid (HJ.out.keep hb)
    clear hb
    have cg_0 : w16.cell? ⟨w.heap.size, 0, none⟩ = some (.int .i64 s) := HJ.out.at 0 0 rfl rfl; have cg_1 : w16.cell? ⟨w.heap.size, 1, none⟩ = some (.int .i64 l) := HJ.out.at 0 1 rfl rfl; have cg_2 : w16.cell? ⟨w.heap.size, 2, none⟩ = some (.int .i64 n) := HJ.out.at 0 2 rfl rfl; have cx_0 : w16.cell? ⟨w.heap.size + 1, 0, none⟩ = some (.int .i64 f) := HJ.out.at 1 0 rfl rfl; have cx_1 : w16.cell? ⟨w.heap.size + 1, 1, none⟩ = some (.int .i64 t) := HJ.out.at 1 1 rfl rfl; have zg : w.heap.size < w16.heap.size := HJ.out.lt 0 rfl; have zx : w.heap.size + 1 < w16.heap.size := HJ.out.lt 1 rfl; have zp : b5 < w16.heap.size := HJ.out.lt 2 rfl; have zr : b10 < w16.heap.size := HJ.out.lt 3 rfl
    go_wp2
    go_ret
    exact ⟨rfl, HJ.out.2⟩
  have hck : ck = 0 := by rw [HCK.out, if_neg hbad]
  subst hck
  clear HCK
  have hT : toldL s l n f t M = (List.range (min M (cntS s l f t))).map (slS s l (begins s l f)) := told_good hg (by simpa using hbad) M
  have hg' := hg
  unfold GBad at hg'
  have hb' : ¬ (f < 0 ∨ t < f ∨ 1099511627776 < t) := fun h => hbad ((bad_iff f t).2 h)
  have g1 : 0 ≤ s ∧ s ≤ 1099511627776 := by omega
  have g3 : 1 ≤ l ∧ l ≤ 16777216 := by omega
  have f0 : 0 ≤ f := by omega
  have f1 : f ≤ t := by omega
  have f2 : t ≤ 1099511627776 := by omega
  obtain ⟨g1, g2⟩ := g1
  obtain ⟨g3, g4⟩ := g3
  obtain ⟨b0, -⟩ := begins_ge (s := s) (l := l) (f := f) (by omega)
  have b1 := begins_le (s := s) (l := l) (f := f) g1 (by omega)
  have HLn : Hid (tl.length = min M (cntS s l f t)) := by show tl.length = _; rw [HTL.out, hT]; simp
  have HTG : Hid (∀ j : Nat, j < min M (cntS s l f t) → tl.getD j (0, 0) = (s + (begins s l f + j) * l, s + (begins s l f + j) * l + l)) := fun j hj => by
    rw [HTL.out, hT, List.getD_eq_getElem?_getD, List.getElem?_map, List.getElem?_map, List.getElem?_range hj]
    rfl
  have hst' : st = (min M (cntS s l f t), if min M (cntS s l f t) = 0 then 0 else begins s l f, true) := by rw [HST.out, hT, stP_range b0 b1 _ (by omega)]
  have HTH : Hid (∀ j : Nat, j < cntS s l f t → _) := fun j hj => slot_there hg hj
  have HNO : Hid (∀ j : Nat, ¬ j < cntS s l f t → _) := fun j hj => slot_not hg hj
  have HBG : Hid (begins s l f = if f ≤ s then 0 else (f - s - 1) / l + 1) := rfl
  have HBE := Lib.hid (fun (h : s < f) => begins_eq (l := l) g3 h)
  clear hT HST HTL hg' hb' hg hbad
  generalize begins s l f = b at *
  generalize cntS s l f t = cnt at *
  generalize tl.length = L at *
  subst hst'
  dsimp only at *
  obtain ⟨F, hF⟩ : ∃ F : Int, F = (if min M cnt = 0 then 0 else b) := ⟨_, rfl⟩
  rw [← hF]
  have HF := Lib.hid hF
  clear hF
  have cg_0 : w7.cell? ⟨w.heap.size, 0, none⟩ = some (.int .i64 s) := HJ.out.at 0 0 rfl rfl; have cg_1 : w7.cell? ⟨w.heap.size, 1, none⟩ = some (.int .i64 l) := HJ.out.at 0 1 rfl rfl; have cg_2 : w7.cell? ⟨w.heap.size, 2, none⟩ = some (.int .i64 n) := HJ.out.at 0 2 rfl rfl; have cx_0 : w7.cell? ⟨w.heap.size + 1, 0, none⟩ = some (.int .i64 f) := HJ.out.at 1 0 rfl rfl; have cx_1 : w7.cell? ⟨w.heap.size + 1, 1, none⟩ = some (.int .i64 t) := HJ.out.at 1 1 rfl rfl; have zg : w.heap.size < w7.heap.size := HJ.out.lt 0 rfl; have zx : w.heap.size + 1 < w7.heap.size := HJ.out.lt 1 rfl; have zp : b5 < w7.heap.size := HJ.out.lt 2 rfl; have zr : b10 < w7.heap.size := HJ.out.lt 3 rfl
  go_wp2_with fail
  refine (hs8 _).mono ?_
  rintro e w15 ⟨rfl, hb⟩
  clear cg_0 cg_1 cg_2 cx_0 cx_1 zg zx zp zr
  replace HJ := Lib.hid (HJ.out.keep hb)
  replace HSp := Lib.hid (HSp.out.below hb)
  clear hb
  have cg_0 : w15.cell? ⟨w.heap.size, 0, none⟩ = some (.int .i64 s) := HJ.out.at 0 0 rfl rfl; have cg_1 : w15.cell? ⟨w.heap.size, 1, none⟩ = some (.int .i64 l) := HJ.out.at 0 1 rfl rfl; have cg_2 : w15.cell? ⟨w.heap.size, 2, none⟩ = some (.int .i64 n) := HJ.out.at 0 2 rfl rfl; have cx_0 : w15.cell? ⟨w.heap.size + 1, 0, none⟩ = some (.int .i64 f) := HJ.out.at 1 0 rfl rfl; have cx_1 : w15.cell? ⟨w.heap.size + 1, 1, none⟩ = some (.int .i64 t) := HJ.out.at 1 1 rfl rfl; have zg : w.heap.size < w15.heap.size := HJ.out.lt 0 rfl; have zx : w.heap.size + 1 < w15.heap.size := HJ.out.lt 1 rfl; have zp : b5 < w15.heap.size := HJ.out.lt 2 rfl; have zr : b10 < w15.heap.size := HJ.out.lt 3 rfl
  go_wp2_with fail
  refine (hs9 _).mono ?_
  rintro e w16 ⟨rfl, hb⟩
  clear cg_0 cg_1 cg_2 cx_0 cx_1 zg zx zp zr
  replace HJ := Lib.hid (HJ.out.keep hb)
  replace HSp := Lib.hid (HSp.out.below hb)
  clear hb
  clear hs8 hs9
  by_cases hfs : f ≤ s
  · have hb0 : b = 0 := by rw [HBG.out, if_pos hfs]
    subst hb0
    have cg_0 : w16.cell? ⟨w.heap.size, 0, none⟩ = some (.int .i64 s) := HJ.out.at 0 0 rfl rfl; have cg_1 : w16.cell? ⟨w.heap.size, 1, none⟩ = some (.int .i64 l) := HJ.out.at 0 1 rfl rfl; have cg_2 : w16.cell? ⟨w.heap.size, 2, none⟩ = some (.int .i64 n) := HJ.out.at 0 2 rfl rfl; have cx_0 : w16.cell? ⟨w.heap.size + 1, 0, none⟩ = some (.int .i64 f) := HJ.out.at 1 0 rfl rfl; have cx_1 : w16.cell? ⟨w.heap.size + 1, 1, none⟩ = some (.int .i64 t) := HJ.out.at 1 1 rfl rfl; have zg : w.heap.size < w16.heap.size := HJ.out.lt 0 rfl; have zx : w.heap.size + 1 < w16.heap.size := HJ.out.lt 1 rfl; have zp : b5 < w16.heap.size := HJ.out.lt 2 rfl; have zr : b10 < w16.heap.size := HJ.out.lt 3 rfl
    go_wp2_with fail
    clear cg_0 cg_1 cg_2 cx_0 cx_1 zg zx zp zr
    go_loopw [153] (fun i wr => ∃ j : Nat, j ≤ M ∧ i = .int .i64 j ∧ Hid (Bx w wr [(w.heap.size, 40, #[.int .i64 s, .int .i64 l, .int .i64 n]), (w.heap.size + 1, 23, #[.int .i64 f, .int .i64 t]), (b5, 23, #[.int .i64 q1, .int .i64 q2]), (b10, 23, #[.int .i64 q1, .int .i64 q2])]) ∧ Hid (Spans wr (.slice a L cap) tl)) (fun i _ => M - (intOf i).toNat)
    case atStart => exact ⟨0, Nat.zero_le _, rfl, HJ, HSp⟩
    case round =>
      clear HJ HSp
      obtain ⟨j, hj, rfl, HJ, HSp⟩ := hrel
      by_cases hlt : j < M
      · skip
        have hji : (j : Int) < M := by omega
        by_cases hjc : j < cnt
        · obtain ⟨h1, h2, h3⟩ := HTH.out j hjc
          have hc := hsl (0 + (j : Int))
          have ht := HTG.out j (by omega)
          rw [h1] at hc
          clear h1
          generalize s + (0 + (j : Int)) * l = x at *
          generalize x + l = y at *
          simp only [Int.zero_add] at hc
          (try dsimp only at hc)
          (try dsimp only at ht)
          have hjl : (j : Int) < (L : Int) := by have := HLn.out; omega
          have hjl' : j < L := by omega
          have cg_0 : wr.cell? ⟨w.heap.size, 0, none⟩ = some (.int .i64 s) := HJ.out.at 0 0 rfl rfl; have cg_1 : wr.cell? ⟨w.heap.size, 1, none⟩ = some (.int .i64 l) := HJ.out.at 0 1 rfl rfl; have cg_2 : wr.cell? ⟨w.heap.size, 2, none⟩ = some (.int .i64 n) := HJ.out.at 0 2 rfl rfl; have zg : w.heap.size < wr.heap.size := HJ.out.lt 0 rfl; have zx : w.heap.size + 1 < wr.heap.size := HJ.out.lt 1 rfl; have zp : b5 < wr.heap.size := HJ.out.lt 2 rfl; have zr : b10 < wr.heap.size := HJ.out.lt 3 rfl
          go_wp2_with fail
          refine (hc _).mono ?_
          rintro e w17 ⟨rfl, hb⟩
          clear cg_0 cg_1 cg_2 zg zx zp zr
          replace HJ := Lib.hid (HJ.out.keep hb)
          replace HSp := Lib.hid (HSp.out.below hb)
          clear hb
          have cg_0 : w17.cell? ⟨w.heap.size, 0, none⟩ = some (.int .i64 s) := HJ.out.at 0 0 rfl rfl; have cg_1 : w17.cell? ⟨w.heap.size, 1, none⟩ = some (.int .i64 l) := HJ.out.at 0 1 rfl rfl; have cg_2 : w17.cell? ⟨w.heap.size, 2, none⟩ = some (.int .i64 n) := HJ.out.at 0 2 rfl rfl; have cx_0 : w17.cell? ⟨w.heap.size + 1, 0, none⟩ = some (.int .i64 f) := HJ.out.at 1 0 rfl rfl; have cx_1 : w17.cell? ⟨w.heap.size + 1, 1, none⟩ = some (.int .i64 t) := HJ.out.at 1 1 rfl rfl; have zg : w.heap.size < w17.heap.size := HJ.out.lt 0 rfl; have zx : w.heap.size + 1 < w17.heap.size := HJ.out.lt 1 rfl; have zp : b5 < w17.heap.size := HJ.out.lt 2 rfl; have zr : b10 < w17.heap.size := HJ.out.lt 3 rfl
          have l19_0 : w.heap.size < w17.heap.size := HJ.out.lt 0 rfl
          have l19_1 : w.heap.size + 1 < w17.heap.size := HJ.out.lt 1 rfl
          have l19_2 : b5 < w17.heap.size := HJ.out.lt 2 rfl
          have l19_3 : b10 < w17.heap.size := HJ.out.lt 3 rfl
          have HJ2 : Hid (Bx w (w17.alloc (.cells #[.int .i64 x, .int .i64 y] 23)) [(w.heap.size, 40, #[.int .i64 s, .int .i64 l, .int .i64 n]), (w.heap.size + 1, 23, #[.int .i64 f, .int .i64 t]), (b5, 23, #[.int .i64 q1, .int .i64 q2]), (b10, 23, #[.int .i64 q1, .int .i64 q2]), (w17.heap.size, 23, #[.int .i64 x, .int .i64 y])]) := (HJ.out.new (b := w17.heap.size) #[.int .i64 x, .int .i64 y] 23 (by simp))
          replace HSp := Lib.hid (HSp.out.below (below1 w17 (.cells #[.int .i64 x, .int .i64 y] 23)))
          go_upto_region 19 with fail
          clear cg_0 cg_1 cg_2 cx_0 cx_1 zg zx zp zr
          clear HJ
          have HJ := HJ2
          clear HJ2
          generalize (w17.alloc (.cells #[.int .i64 x, .int .i64 y] 23)) = w20 at *
          generalize w17.heap.size = b21 at *
          have hLl : L = tl.length := by obtain ⟨_, _, e', _⟩ := HSp.out.shape; cases e'; rfl
          obtain ⟨bb, off, rfl, hbl, hcl⟩ := HSp.out.row (by rintro rfl; simp at hLl; omega)
          obtain ⟨e0, e1⟩ := hcl j (by omega)
          rw [ht] at e0 e1
          have hne := neSp x y x y
          simp only [beq_self_eq_true, Bool.and_self, Bool.not_true] at hne
          clear hLl hcl ht
          have cx_0 : w20.cell? ⟨w.heap.size + 1, 0, none⟩ = some (.int .i64 f) := HJ.out.at 1 0 rfl rfl; have cx_1 : w20.cell? ⟨w.heap.size + 1, 1, none⟩ = some (.int .i64 t) := HJ.out.at 1 1 rfl rfl; have cq_0 : w20.cell? ⟨b21, 0, none⟩ = some (.int .i64 x) := HJ.out.at 4 0 rfl rfl; have cq_1 : w20.cell? ⟨b21, 1, none⟩ = some (.int .i64 y) := HJ.out.at 4 1 rfl rfl; have zg : w.heap.size < w20.heap.size := HJ.out.lt 0 rfl; have zx : w.heap.size + 1 < w20.heap.size := HJ.out.lt 1 rfl; have zp : b5 < w20.heap.size := HJ.out.lt 2 rfl; have zr : b10 < w20.heap.size := HJ.out.lt 3 rfl; have zq : b21 < w20.heap.size := HJ.out.lt 4 rfl
          go_upto_region 20 with fail
          go_quiet (fail)
          go_wp2
          go_roundw
          case rel => exact ⟨j + 1, by omega, by go_num, Lib.hid ((Bx.init (l := [(w.heap.size, 40, #[.int .i64 s, .int .i64 l, .int .i64 n]), (w.heap.size + 1, 23, #[.int .i64 f, .int .i64 t]), (b5, 23, #[.int .i64 q1, .int .i64 q2]), (b10, 23, #[.int .i64 q1, .int .i64 q2])]) HJ.out).keep (below_drewN (Below.refl _ _) _)), Lib.hid (HSp.out.below (below_drewN (Below.refl _ _) _))⟩
          case measure => simp [intOf]; omega
        · have hjl : (L : Int) ≤ (j : Int) := by have := HLn.out; omega
          have hjd : decide (j < L) = false := decide_eq_false (by omega)
          rcases HNO.out j hjc with h1 | ⟨h1, h3⟩
          · have hc := hsl (0 + (j : Int))
            rw [h1] at hc
            clear h1
            simp only [Int.zero_add] at hc
            (try dsimp only at hc)
            have cg_0 : wr.cell? ⟨w.heap.size, 0, none⟩ = some (.int .i64 s) := HJ.out.at 0 0 rfl rfl; have cg_1 : wr.cell? ⟨w.heap.size, 1, none⟩ = some (.int .i64 l) := HJ.out.at 0 1 rfl rfl; have cg_2 : wr.cell? ⟨w.heap.size, 2, none⟩ = some (.int .i64 n) := HJ.out.at 0 2 rfl rfl; have zg : w.heap.size < wr.heap.size := HJ.out.lt 0 rfl; have zx : w.heap.size + 1 < wr.heap.size := HJ.out.lt 1 rfl; have zp : b5 < wr.heap.size := HJ.out.lt 2 rfl; have zr : b10 < wr.heap.size := HJ.out.lt 3 rfl
            go_wp2_with fail
            refine (hc _).mono ?_
            rintro e w17 ⟨rfl, hb⟩
            clear cg_0 cg_1 cg_2 zg zx zp zr
            replace HJ := Lib.hid (HJ.out.keep hb)
            replace HSp := Lib.hid (HSp.out.below hb)
            clear hb
            have cg_0 : w17.cell? ⟨w.heap.size, 0, none⟩ = some (.int .i64 s) := HJ.out.at 0 0 rfl rfl; have cg_1 : w17.cell? ⟨w.heap.size, 1, none⟩ = some (.int .i64 l) := HJ.out.at 0 1 rfl rfl; have cg_2 : w17.cell? ⟨w.heap.size, 2, none⟩ = some (.int .i64 n) := HJ.out.at 0 2 rfl rfl; have cx_0 : w17.cell? ⟨w.heap.size + 1, 0, none⟩ = some (.int .i64 f) := HJ.out.at 1 0 rfl rfl; have cx_1 : w17.cell? ⟨w.heap.size + 1, 1, none⟩ = some (.int .i64 t) := HJ.out.at 1 1 rfl rfl; have zg : w.heap.size < w17.heap.size := HJ.out.lt 0 rfl; have zx : w.heap.size + 1 < w17.heap.size := HJ.out.lt 1 rfl; have zp : b5 < w17.heap.size := HJ.out.lt 2 rfl; have zr : b10 < w17.heap.size := HJ.out.lt 3 rfl
            have l19_0 : w.heap.size < w17.heap.size := HJ.out.lt 0 rfl
            have l19_1 : w.heap.size + 1 < w17.heap.size := HJ.out.lt 1 rfl
            have l19_2 : b5 < w17.heap.size := HJ.out.lt 2 rfl
            have l19_3 : b10 < w17.heap.size := HJ.out.lt 3 rfl
            have HJ2 : Hid (Bx w (w17.alloc (.cells #[.int .i64 0, .int .i64 0] 23)) [(w.heap.size, 40, #[.int .i64 s, .int .i64 l, .int .i64 n]), (w.heap.size + 1, 23, #[.int .i64 f, .int .i64 t]), (b5, 23, #[.int .i64 q1, .int .i64 q2]), (b10, 23, #[.int .i64 q1, .int .i64 q2]), (w17.heap.size, 23, #[.int .i64 0, .int .i64 0])]) := (HJ.out.new (b := w17.heap.size) #[.int .i64 0, .int .i64 0] 23 (by simp))
            replace HSp := Lib.hid (HSp.out.below (below1 w17 (.cells #[.int .i64 0, .int .i64 0] 23)))
            go_upto_region 19 with fail
            clear cg_0 cg_1 cg_2 cx_0 cx_1 zg zx zp zr
            clear HJ
            have HJ := HJ2
            clear HJ2
            generalize (w17.alloc (.cells #[.int .i64 0, .int .i64 0] 23)) = w20 at *
            generalize w17.heap.size = b21 at *
            have cx_0 : w20.cell? ⟨w.heap.size + 1, 0, none⟩ = some (.int .i64 f) := HJ.out.at 1 0 rfl rfl; have cx_1 : w20.cell? ⟨w.heap.size + 1, 1, none⟩ = some (.int .i64 t) := HJ.out.at 1 1 rfl rfl; have cq_0 : w20.cell? ⟨b21, 0, none⟩ = some (.int .i64 0) := HJ.out.at 4 0 rfl rfl; have cq_1 : w20.cell? ⟨b21, 1, none⟩ = some (.int .i64 0) := HJ.out.at 4 1 rfl rfl; have zg : w.heap.size < w20.heap.size := HJ.out.lt 0 rfl; have zx : w.heap.size + 1 < w20.heap.size := HJ.out.lt 1 rfl; have zp : b5 < w20.heap.size := HJ.out.lt 2 rfl; have zr : b10 < w20.heap.size := HJ.out.lt 3 rfl; have zq : b21 < w20.heap.size := HJ.out.lt 4 rfl
            go_upto_region 20 with fail
            go_quiet (fail)
            go_wp2
            go_roundw
            case rel => exact ⟨j + 1, by omega, by go_num, Lib.hid ((Bx.init (l := [(w.heap.size, 40, #[.int .i64 s, .int .i64 l, .int .i64 n]), (w.heap.size + 1, 23, #[.int .i64 f, .int .i64 t]), (b5, 23, #[.int .i64 q1, .int .i64 q2]), (b10, 23, #[.int .i64 q1, .int .i64 q2])]) HJ.out).keep (below_drewN (Below.refl _ _) _)), Lib.hid (HSp.out.below (below_drewN (Below.refl _ _) _))⟩
            case measure => simp [intOf]; omega
          · have hc := hsl (0 + (j : Int))
            rw [h1] at hc
            clear h1
            generalize s + (0 + (j : Int)) * l = x at *
            generalize x + l = y at *
            simp only [Int.zero_add] at hc
            (try dsimp only at hc)
            have h2 : f ≤ x := by omega
            have h4 : decide (x < t) = false := decide_eq_false (by omega)
            have cg_0 : wr.cell? ⟨w.heap.size, 0, none⟩ = some (.int .i64 s) := HJ.out.at 0 0 rfl rfl; have cg_1 : wr.cell? ⟨w.heap.size, 1, none⟩ = some (.int .i64 l) := HJ.out.at 0 1 rfl rfl; have cg_2 : wr.cell? ⟨w.heap.size, 2, none⟩ = some (.int .i64 n) := HJ.out.at 0 2 rfl rfl; have zg : w.heap.size < wr.heap.size := HJ.out.lt 0 rfl; have zx : w.heap.size + 1 < wr.heap.size := HJ.out.lt 1 rfl; have zp : b5 < wr.heap.size := HJ.out.lt 2 rfl; have zr : b10 < wr.heap.size := HJ.out.lt 3 rfl
            go_wp2_with fail
            refine (hc _).mono ?_
            rintro e w17 ⟨rfl, hb⟩
            clear cg_0 cg_1 cg_2 zg zx zp zr
            replace HJ := Lib.hid (HJ.out.keep hb)
            replace HSp := Lib.hid (HSp.out.below hb)
            clear hb
            have cg_0 : w17.cell? ⟨w.heap.size, 0, none⟩ = some (.int .i64 s) := HJ.out.at 0 0 rfl rfl; have cg_1 : w17.cell? ⟨w.heap.size, 1, none⟩ = some (.int .i64 l) := HJ.out.at 0 1 rfl rfl; have cg_2 : w17.cell? ⟨w.heap.size, 2, none⟩ = some (.int .i64 n) := HJ.out.at 0 2 rfl rfl; have cx_0 : w17.cell? ⟨w.heap.size + 1, 0, none⟩ = some (.int .i64 f) := HJ.out.at 1 0 rfl rfl; have cx_1 : w17.cell? ⟨w.heap.size + 1, 1, none⟩ = some (.int .i64 t) := HJ.out.at 1 1 rfl rfl; have zg : w.heap.size < w17.heap.size := HJ.out.lt 0 rfl; have zx : w.heap.size + 1 < w17.heap.size := HJ.out.lt 1 rfl; have zp : b5 < w17.heap.size := HJ.out.lt 2 rfl; have zr : b10 < w17.heap.size := HJ.out.lt 3 rfl
            have l19_0 : w.heap.size < w17.heap.size := HJ.out.lt 0 rfl
            have l19_1 : w.heap.size + 1 < w17.heap.size := HJ.out.lt 1 rfl
            have l19_2 : b5 < w17.heap.size := HJ.out.lt 2 rfl
            have l19_3 : b10 < w17.heap.size := HJ.out.lt 3 rfl
            have HJ2 : Hid (Bx w (w17.alloc (.cells #[.int .i64 x, .int .i64 y] 23)) [(w.heap.size, 40, #[.int .i64 s, .int .i64 l, .int .i64 n]), (w.heap.size + 1, 23, #[.int .i64 f, .int .i64 t]), (b5, 23, #[.int .i64 q1, .int .i64 q2]), (b10, 23, #[.int .i64 q1, .int .i64 q2]), (w17.heap.size, 23, #[.int .i64 x, .int .i64 y])]) := (HJ.out.new (b := w17.heap.size) #[.int .i64 x, .int .i64 y] 23 (by simp))
            replace HSp := Lib.hid (HSp.out.below (below1 w17 (.cells #[.int .i64 x, .int .i64 y] 23)))
            go_upto_region 19 with fail
            clear cg_0 cg_1 cg_2 cx_0 cx_1 zg zx zp zr
            clear HJ
            have HJ := HJ2
            clear HJ2
            generalize (w17.alloc (.cells #[.int .i64 x, .int .i64 y] 23)) = w20 at *
            generalize w17.heap.size = b21 at *
            have cx_0 : w20.cell? ⟨w.heap.size + 1, 0, none⟩ = some (.int .i64 f) := HJ.out.at 1 0 rfl rfl; have cx_1 : w20.cell? ⟨w.heap.size + 1, 1, none⟩ = some (.int .i64 t) := HJ.out.at 1 1 rfl rfl; have cq_0 : w20.cell? ⟨b21, 0, none⟩ = some (.int .i64 x) := HJ.out.at 4 0 rfl rfl; have cq_1 : w20.cell? ⟨b21, 1, none⟩ = some (.int .i64 y) := HJ.out.at 4 1 rfl rfl; have zg : w.heap.size < w20.heap.size := HJ.out.lt 0 rfl; have zx : w.heap.size + 1 < w20.heap.size := HJ.out.lt 1 rfl; have zp : b5 < w20.heap.size := HJ.out.lt 2 rfl; have zr : b10 < w20.heap.size := HJ.out.lt 3 rfl; have zq : b21 < w20.heap.size := HJ.out.lt 4 rfl
            go_upto_region 20 with fail
            go_quiet (fail)
            go_wp2
            go_roundw
            case rel => exact ⟨j + 1, by omega, by go_num, Lib.hid ((Bx.init (l := [(w.heap.size, 40, #[.int .i64 s, .int .i64 l, .int .i64 n]), (w.heap.size + 1, 23, #[.int .i64 f, .int .i64 t]), (b5, 23, #[.int .i64 q1, .int .i64 q2]), (b10, 23, #[.int .i64 q1, .int .i64 q2])]) HJ.out).keep (below_drewN (Below.refl _ _) _)), Lib.hid (HSp.out.below (below_drewN (Below.refl _ _) _))⟩
            case measure => simp [intOf]; omega
      · have hjM : ¬ (j : Int) < M := by omega
        by_cases hz : L = 0
        · have hm : min M cnt = 0 := by have := HLn.out; omega
          subst hz
          clear HLn HTG
          have cg_0 : wr.cell? ⟨w.heap.size, 0, none⟩ = some (.int .i64 s) := HJ.out.at 0 0 rfl rfl; have cg_1 : wr.cell? ⟨w.heap.size, 1, none⟩ = some (.int .i64 l) := HJ.out.at 0 1 rfl rfl; have cg_2 : wr.cell? ⟨w.heap.size, 2, none⟩ = some (.int .i64 n) := HJ.out.at 0 2 rfl rfl; have cx_0 : wr.cell? ⟨w.heap.size + 1, 0, none⟩ = some (.int .i64 f) := HJ.out.at 1 0 rfl rfl; have cx_1 : wr.cell? ⟨w.heap.size + 1, 1, none⟩ = some (.int .i64 t) := HJ.out.at 1 1 rfl rfl; have zg : w.heap.size < wr.heap.size := HJ.out.lt 0 rfl; have zx : w.heap.size + 1 < wr.heap.size := HJ.out.lt 1 rfl; have zp : b5 < wr.heap.size := HJ.out.lt 2 rfl; have zr : b10 < wr.heap.size := HJ.out.lt 3 rfl
          go_wp2
          go_ret
          exact ⟨rfl, HJ.out.2⟩
        · have hm : ¬ min M cnt = 0 := by have := HLn.out; omega
          have hz' : ((L : Int) == 0) = false := by rw [beq_eq_false_iff_ne]; omega
          have hF : F = 0 := by rw [HF.out, if_neg hm]
          clear HF
          subst hF
          clear HTG
          have cg_0 : wr.cell? ⟨w.heap.size, 0, none⟩ = some (.int .i64 s) := HJ.out.at 0 0 rfl rfl; have cg_1 : wr.cell? ⟨w.heap.size, 1, none⟩ = some (.int .i64 l) := HJ.out.at 0 1 rfl rfl; have cg_2 : wr.cell? ⟨w.heap.size, 2, none⟩ = some (.int .i64 n) := HJ.out.at 0 2 rfl rfl; have cx_0 : wr.cell? ⟨w.heap.size + 1, 0, none⟩ = some (.int .i64 f) := HJ.out.at 1 0 rfl rfl; have cx_1 : wr.cell? ⟨w.heap.size + 1, 1, none⟩ = some (.int .i64 t) := HJ.out.at 1 1 rfl rfl; have zg : w.heap.size < wr.heap.size := HJ.out.lt 0 rfl; have zx : w.heap.size + 1 < wr.heap.size := HJ.out.lt 1 rfl; have zp : b5 < wr.heap.size := HJ.out.lt 2 rfl; have zr : b10 < wr.heap.size := HJ.out.lt 3 rfl
          go_wp2
          go_ret
          exact ⟨rfl, HJ.out.2⟩
  · have hdv : (f - s + l - 1).tdiv l = b := by rw [Int.tdiv_eq_ediv_of_nonneg (by omega)]; exact HBE.out (by omega)
    have hl0 : ¬ l = 0 := by omega
    have cg_0 : w16.cell? ⟨w.heap.size, 0, none⟩ = some (.int .i64 s) := HJ.out.at 0 0 rfl rfl; have cg_1 : w16.cell? ⟨w.heap.size, 1, none⟩ = some (.int .i64 l) := HJ.out.at 0 1 rfl rfl; have cg_2 : w16.cell? ⟨w.heap.size, 2, none⟩ = some (.int .i64 n) := HJ.out.at 0 2 rfl rfl; have cx_0 : w16.cell? ⟨w.heap.size + 1, 0, none⟩ = some (.int .i64 f) := HJ.out.at 1 0 rfl rfl; have cx_1 : w16.cell? ⟨w.heap.size + 1, 1, none⟩ = some (.int .i64 t) := HJ.out.at 1 1 rfl rfl; have zg : w.heap.size < w16.heap.size := HJ.out.lt 0 rfl; have zx : w.heap.size + 1 < w16.heap.size := HJ.out.lt 1 rfl; have zp : b5 < w16.heap.size := HJ.out.lt 2 rfl; have zr : b10 < w16.heap.size := HJ.out.lt 3 rfl
    go_wp2_with fail
    clear cg_0 cg_1 cg_2 cx_0 cx_1 zg zx zp zr
    go_loopw [153] (fun i wr => ∃ j : Nat, j ≤ M ∧ i = .int .i64 j ∧ Hid (Bx w wr [(w.heap.size, 40, #[.int .i64 s, .int .i64 l, .int .i64 n]), (w.heap.size + 1, 23, #[.int .i64 f, .int .i64 t]), (b5, 23, #[.int .i64 q1, .int .i64 q2]), (b10, 23, #[.int .i64 q1, .int .i64 q2])]) ∧ Hid (Spans wr (.slice a L cap) tl)) (fun i _ => M - (intOf i).toNat)
    case atStart => exact ⟨0, Nat.zero_le _, rfl, HJ, HSp⟩
    case round =>
      clear HJ HSp
      obtain ⟨j, hj, rfl, HJ, HSp⟩ := hrel
      by_cases hlt : j < M
      · skip
        have hji : (j : Int) < M := by omega
        by_cases hjc : j < cnt
        · obtain ⟨h1, h2, h3⟩ := HTH.out j hjc
          have hc := hsl (b + (j : Int))
          have ht := HTG.out j (by omega)
          rw [h1] at hc
          clear h1
          generalize s + (b + (j : Int)) * l = x at *
          generalize x + l = y at *
          (try dsimp only at hc)
          (try dsimp only at ht)
          have hjl : (j : Int) < (L : Int) := by have := HLn.out; omega
          have hjl' : j < L := by omega
          have cg_0 : wr.cell? ⟨w.heap.size, 0, none⟩ = some (.int .i64 s) := HJ.out.at 0 0 rfl rfl; have cg_1 : wr.cell? ⟨w.heap.size, 1, none⟩ = some (.int .i64 l) := HJ.out.at 0 1 rfl rfl; have cg_2 : wr.cell? ⟨w.heap.size, 2, none⟩ = some (.int .i64 n) := HJ.out.at 0 2 rfl rfl; have zg : w.heap.size < wr.heap.size := HJ.out.lt 0 rfl; have zx : w.heap.size + 1 < wr.heap.size := HJ.out.lt 1 rfl; have zp : b5 < wr.heap.size := HJ.out.lt 2 rfl; have zr : b10 < wr.heap.size := HJ.out.lt 3 rfl
          go_wp2_with fail
          refine (hc _).mono ?_
          rintro e w17 ⟨rfl, hb⟩
          clear cg_0 cg_1 cg_2 zg zx zp zr
          replace HJ := Lib.hid (HJ.out.keep hb)
          replace HSp := Lib.hid (HSp.out.below hb)
          clear hb
          have cg_0 : w17.cell? ⟨w.heap.size, 0, none⟩ = some (.int .i64 s) := HJ.out.at 0 0 rfl rfl; have cg_1 : w17.cell? ⟨w.heap.size, 1, none⟩ = some (.int .i64 l) := HJ.out.at 0 1 rfl rfl; have cg_2 : w17.cell? ⟨w.heap.size, 2, none⟩ = some (.int .i64 n) := HJ.out.at 0 2 rfl rfl; have cx_0 : w17.cell? ⟨w.heap.size + 1, 0, none⟩ = some (.int .i64 f) := HJ.out.at 1 0 rfl rfl; have cx_1 : w17.cell? ⟨w.heap.size + 1, 1, none⟩ = some (.int .i64 t) := HJ.out.at 1 1 rfl rfl; have zg : w.heap.size < w17.heap.size := HJ.out.lt 0 rfl; have zx : w.heap.size + 1 < w17.heap.size := HJ.out.lt 1 rfl; have zp : b5 < w17.heap.size := HJ.out.lt 2 rfl; have zr : b10 < w17.heap.size := HJ.out.lt 3 rfl
          have l19_0 : w.heap.size < w17.heap.size := HJ.out.lt 0 rfl
          have l19_1 : w.heap.size + 1 < w17.heap.size := HJ.out.lt 1 rfl
          have l19_2 : b5 < w17.heap.size := HJ.out.lt 2 rfl
          have l19_3 : b10 < w17.heap.size := HJ.out.lt 3 rfl
          have HJ2 : Hid (Bx w (w17.alloc (.cells #[.int .i64 x, .int .i64 y] 23)) [(w.heap.size, 40, #[.int .i64 s, .int .i64 l, .int .i64 n]), (w.heap.size + 1, 23, #[.int .i64 f, .int .i64 t]), (b5, 23, #[.int .i64 q1, .int .i64 q2]), (b10, 23, #[.int .i64 q1, .int .i64 q2]), (w17.heap.size, 23, #[.int .i64 x, .int .i64 y])]) := (HJ.out.new (b := w17.heap.size) #[.int .i64 x, .int .i64 y] 23 (by simp))
          replace HSp := Lib.hid (HSp.out.below (below1 w17 (.cells #[.int .i64 x, .int .i64 y] 23)))
          go_upto_region 19 with fail
          clear cg_0 cg_1 cg_2 cx_0 cx_1 zg zx zp zr
          clear HJ
          have HJ := HJ2
          clear HJ2
          generalize (w17.alloc (.cells #[.int .i64 x, .int .i64 y] 23)) = w20 at *
          generalize w17.heap.size = b21 at *
          have hLl : L = tl.length := by obtain ⟨_, _, e', _⟩ := HSp.out.shape; cases e'; rfl
          obtain ⟨bb, off, rfl, hbl, hcl⟩ := HSp.out.row (by rintro rfl; simp at hLl; omega)
          obtain ⟨e0, e1⟩ := hcl j (by omega)
          rw [ht] at e0 e1
          have hne := neSp x y x y
          simp only [beq_self_eq_true, Bool.and_self, Bool.not_true] at hne
          clear hLl hcl ht
          have cx_0 : w20.cell? ⟨w.heap.size + 1, 0, none⟩ = some (.int .i64 f) := HJ.out.at 1 0 rfl rfl; have cx_1 : w20.cell? ⟨w.heap.size + 1, 1, none⟩ = some (.int .i64 t) := HJ.out.at 1 1 rfl rfl; have cq_0 : w20.cell? ⟨b21, 0, none⟩ = some (.int .i64 x) := HJ.out.at 4 0 rfl rfl; have cq_1 : w20.cell? ⟨b21, 1, none⟩ = some (.int .i64 y) := HJ.out.at 4 1 rfl rfl; have zg : w.heap.size < w20.heap.size := HJ.out.lt 0 rfl; have zx : w.heap.size + 1 < w20.heap.size := HJ.out.lt 1 rfl; have zp : b5 < w20.heap.size := HJ.out.lt 2 rfl; have zr : b10 < w20.heap.size := HJ.out.lt 3 rfl; have zq : b21 < w20.heap.size := HJ.out.lt 4 rfl
          go_upto_region 20 with fail
          go_quiet (fail)
          go_wp2
          go_roundw
          case rel => exact ⟨j + 1, by omega, by go_num, Lib.hid ((Bx.init (l := [(w.heap.size, 40, #[.int .i64 s, .int .i64 l, .int .i64 n]), (w.heap.size + 1, 23, #[.int .i64 f, .int .i64 t]), (b5, 23, #[.int .i64 q1, .int .i64 q2]), (b10, 23, #[.int .i64 q1, .int .i64 q2])]) HJ.out).keep (below_drewN (Below.refl _ _) _)), Lib.hid (HSp.out.below (below_drewN (Below.refl _ _) _))⟩
          case measure => simp [intOf]; omega
        · have hjl : (L : Int) ≤ (j : Int) := by have := HLn.out; omega
          have hjd : decide (j < L) = false := decide_eq_false (by omega)
          rcases HNO.out j hjc with h1 | ⟨h1, h3⟩
          · have hc := hsl (b + (j : Int))
            rw [h1] at hc
            clear h1
            (try dsimp only at hc)
            have cg_0 : wr.cell? ⟨w.heap.size, 0, none⟩ = some (.int .i64 s) := HJ.out.at 0 0 rfl rfl; have cg_1 : wr.cell? ⟨w.heap.size, 1, none⟩ = some (.int .i64 l) := HJ.out.at 0 1 rfl rfl; have cg_2 : wr.cell? ⟨w.heap.size, 2, none⟩ = some (.int .i64 n) := HJ.out.at 0 2 rfl rfl; have zg : w.heap.size < wr.heap.size := HJ.out.lt 0 rfl; have zx : w.heap.size + 1 < wr.heap.size := HJ.out.lt 1 rfl; have zp : b5 < wr.heap.size := HJ.out.lt 2 rfl; have zr : b10 < wr.heap.size := HJ.out.lt 3 rfl
            go_wp2_with fail
            refine (hc _).mono ?_
            rintro e w17 ⟨rfl, hb⟩
            clear cg_0 cg_1 cg_2 zg zx zp zr
            replace HJ := Lib.hid (HJ.out.keep hb)
            replace HSp := Lib.hid (HSp.out.below hb)
            clear hb
            have cg_0 : w17.cell? ⟨w.heap.size, 0, none⟩ = some (.int .i64 s) := HJ.out.at 0 0 rfl rfl; have cg_1 : w17.cell? ⟨w.heap.size, 1, none⟩ = some (.int .i64 l) := HJ.out.at 0 1 rfl rfl; have cg_2 : w17.cell? ⟨w.heap.size, 2, none⟩ = some (.int .i64 n) := HJ.out.at 0 2 rfl rfl; have cx_0 : w17.cell? ⟨w.heap.size + 1, 0, none⟩ = some (.int .i64 f) := HJ.out.at 1 0 rfl rfl; have cx_1 : w17.cell? ⟨w.heap.size + 1, 1, none⟩ = some (.int .i64 t) := HJ.out.at 1 1 rfl rfl; have zg : w.heap.size < w17.heap.size := HJ.out.lt 0 rfl; have zx : w.heap.size + 1 < w17.heap.size := HJ.out.lt 1 rfl; have zp : b5 < w17.heap.size := HJ.out.lt 2 rfl; have zr : b10 < w17.heap.size := HJ.out.lt 3 rfl
            have l19_0 : w.heap.size < w17.heap.size := HJ.out.lt 0 rfl
            have l19_1 : w.heap.size + 1 < w17.heap.size := HJ.out.lt 1 rfl
            have l19_2 : b5 < w17.heap.size := HJ.out.lt 2 rfl
            have l19_3 : b10 < w17.heap.size := HJ.out.lt 3 rfl
            have HJ2 : Hid (Bx w (w17.alloc (.cells #[.int .i64 0, .int .i64 0] 23)) [(w.heap.size, 40, #[.int .i64 s, .int .i64 l, .int .i64 n]), (w.heap.size + 1, 23, #[.int .i64 f, .int .i64 t]), (b5, 23, #[.int .i64 q1, .int .i64 q2]), (b10, 23, #[.int .i64 q1, .int .i64 q2]), (w17.heap.size, 23, #[.int .i64 0, .int .i64 0])]) := (HJ.out.new (b := w17.heap.size) #[.int .i64 0, .int .i64 0] 23 (by simp))
            replace HSp := Lib.hid (HSp.out.below (below1 w17 (.cells #[.int .i64 0, .int .i64 0] 23)))
            go_upto_region 19 with fail
            clear cg_0 cg_1 cg_2 cx_0 cx_1 zg zx zp zr
            clear HJ
            have HJ := HJ2
            clear HJ2
            generalize (w17.alloc (.cells #[.int .i64 0, .int .i64 0] 23)) = w20 at *
            generalize w17.heap.size = b21 at *
            have cx_0 : w20.cell? ⟨w.heap.size + 1, 0, none⟩ = some (.int .i64 f) := HJ.out.at 1 0 rfl rfl; have cx_1 : w20.cell? ⟨w.heap.size + 1, 1, none⟩ = some (.int .i64 t) := HJ.out.at 1 1 rfl rfl; have cq_0 : w20.cell? ⟨b21, 0, none⟩ = some (.int .i64 0) := HJ.out.at 4 0 rfl rfl; have cq_1 : w20.cell? ⟨b21, 1, none⟩ = some (.int .i64 0) := HJ.out.at 4 1 rfl rfl; have zg : w.heap.size < w20.heap.size := HJ.out.lt 0 rfl; have zx : w.heap.size + 1 < w20.heap.size := HJ.out.lt 1 rfl; have zp : b5 < w20.heap.size := HJ.out.lt 2 rfl; have zr : b10 < w20.heap.size := HJ.out.lt 3 rfl; have zq : b21 < w20.heap.size := HJ.out.lt 4 rfl
            go_upto_region 20 with fail
            go_quiet (fail)
            go_wp2
            go_roundw
            case rel => exact ⟨j + 1, by omega, by go_num, Lib.hid ((Bx.init (l := [(w.heap.size, 40, #[.int .i64 s, .int .i64 l, .int .i64 n]), (w.heap.size + 1, 23, #[.int .i64 f, .int .i64 t]), (b5, 23, #[.int .i64 q1, .int .i64 q2]), (b10, 23, #[.int .i64 q1, .int .i64 q2])]) HJ.out).keep (below_drewN (Below.refl _ _) _)), Lib.hid (HSp.out.below (below_drewN (Below.refl _ _) _))⟩
            case measure => simp [intOf]; omega
          · have hc := hsl (b + (j : Int))
            rw [h1] at hc
            clear h1
            generalize s + (b + (j : Int)) * l = x at *
            generalize x + l = y at *
            (try dsimp only at hc)
            have h2 : f ≤ x := by omega
            have h4 : decide (x < t) = false := decide_eq_false (by omega)
            have cg_0 : wr.cell? ⟨w.heap.size, 0, none⟩ = some (.int .i64 s) := HJ.out.at 0 0 rfl rfl; have cg_1 : wr.cell? ⟨w.heap.size, 1, none⟩ = some (.int .i64 l) := HJ.out.at 0 1 rfl rfl; have cg_2 : wr.cell? ⟨w.heap.size, 2, none⟩ = some (.int .i64 n) := HJ.out.at 0 2 rfl rfl; have zg : w.heap.size < wr.heap.size := HJ.out.lt 0 rfl; have zx : w.heap.size + 1 < wr.heap.size := HJ.out.lt 1 rfl; have zp : b5 < wr.heap.size := HJ.out.lt 2 rfl; have zr : b10 < wr.heap.size := HJ.out.lt 3 rfl
            go_wp2_with fail
            refine (hc _).mono ?_
            rintro e w17 ⟨rfl, hb⟩
            clear cg_0 cg_1 cg_2 zg zx zp zr
            replace HJ := Lib.hid (HJ.out.keep hb)
            replace HSp := Lib.hid (HSp.out.below hb)
            clear hb
            have cg_0 : w17.cell? ⟨w.heap.size, 0, none⟩ = some (.int .i64 s) := HJ.out.at 0 0 rfl rfl; have cg_1 : w17.cell? ⟨w.heap.size, 1, none⟩ = some (.int .i64 l) := HJ.out.at 0 1 rfl rfl; have cg_2 : w17.cell? ⟨w.heap.size, 2, none⟩ = some (.int .i64 n) := HJ.out.at 0 2 rfl rfl; have cx_0 : w17.cell? ⟨w.heap.size + 1, 0, none⟩ = some (.int .i64 f) := HJ.out.at 1 0 rfl rfl; have cx_1 : w17.cell? ⟨w.heap.size + 1, 1, none⟩ = some (.int .i64 t) := HJ.out.at 1 1 rfl rfl; have zg : w.heap.size < w17.heap.size := HJ.out.lt 0 rfl; have zx : w.heap.size + 1 < w17.heap.size := HJ.out.lt 1 rfl; have zp : b5 < w17.heap.size := HJ.out.lt 2 rfl; have zr : b10 < w17.heap.size := HJ.out.lt 3 rfl
            have l19_0 : w.heap.size < w17.heap.size := HJ.out.lt 0 rfl
            have l19_1 : w.heap.size + 1 < w17.heap.size := HJ.out.lt 1 rfl
            have l19_2 : b5 < w17.heap.size := HJ.out.lt 2 rfl
            have l19_3 : b10 < w17.heap.size := HJ.out.lt 3 rfl
            have HJ2 : Hid (Bx w (w17.alloc (.cells #[.int .i64 x, .int .i64 y] 23)) [(w.heap.size, 40, #[.int .i64 s, .int .i64 l, .int .i64 n]), (w.heap.size + 1, 23, #[.int .i64 f, .int .i64 t]), (b5, 23, #[.int .i64 q1, .int .i64 q2]), (b10, 23, #[.int .i64 q1, .int .i64 q2]), (w17.heap.size, 23, #[.int .i64 x, .int .i64 y])]) := (HJ.out.new (b := w17.heap.size) #[.int .i64 x, .int .i64 y] 23 (by simp))
            replace HSp := Lib.hid (HSp.out.below (below1 w17 (.cells #[.int .i64 x, .int .i64 y] 23)))
            go_upto_region 19 with fail
            clear cg_0 cg_1 cg_2 cx_0 cx_1 zg zx zp zr
            clear HJ
            have HJ := HJ2
            clear HJ2
            generalize (w17.alloc (.cells #[.int .i64 x, .int .i64 y] 23)) = w20 at *
            generalize w17.heap.size = b21 at *
            have cx_0 : w20.cell? ⟨w.heap.size + 1, 0, none⟩ = some (.int .i64 f) := HJ.out.at 1 0 rfl rfl; have cx_1 : w20.cell? ⟨w.heap.size + 1, 1, none⟩ = some (.int .i64 t) := HJ.out.at 1 1 rfl rfl; have cq_0 : w20.cell? ⟨b21, 0, none⟩ = some (.int .i64 x) := HJ.out.at 4 0 rfl rfl; have cq_1 : w20.cell? ⟨b21, 1, none⟩ = some (.int .i64 y) := HJ.out.at 4 1 rfl rfl; have zg : w.heap.size < w20.heap.size := HJ.out.lt 0 rfl; have zx : w.heap.size + 1 < w20.heap.size := HJ.out.lt 1 rfl; have zp : b5 < w20.heap.size := HJ.out.lt 2 rfl; have zr : b10 < w20.heap.size := HJ.out.lt 3 rfl; have zq : b21 < w20.heap.size := HJ.out.lt 4 rfl
            go_upto_region 20 with fail
            go_quiet (fail)
            go_wp2
            go_roundw
            case rel => exact ⟨j + 1, by omega, by go_num, Lib.hid ((Bx.init (l := [(w.heap.size, 40, #[.int .i64 s, .int .i64 l, .int .i64 n]), (w.heap.size + 1, 23, #[.int .i64 f, .int .i64 t]), (b5, 23, #[.int .i64 q1, .int .i64 q2]), (b10, 23, #[.int .i64 q1, .int .i64 q2])]) HJ.out).keep (below_drewN (Below.refl _ _) _)), Lib.hid (HSp.out.below (below_drewN (Below.refl _ _) _))⟩
            case measure => simp [intOf]; omega
      · have hjM : ¬ (j : Int) < M := by omega
        by_cases hz : L = 0
        · have hm : min M cnt = 0 := by have := HLn.out; omega
          subst hz
          clear HLn HTG
          have cg_0 : wr.cell? ⟨w.heap.size, 0, none⟩ = some (.int .i64 s) := HJ.out.at 0 0 rfl rfl; have cg_1 : wr.cell? ⟨w.heap.size, 1, none⟩ = some (.int .i64 l) := HJ.out.at 0 1 rfl rfl; have cg_2 : wr.cell? ⟨w.heap.size, 2, none⟩ = some (.int .i64 n) := HJ.out.at 0 2 rfl rfl; have cx_0 : wr.cell? ⟨w.heap.size + 1, 0, none⟩ = some (.int .i64 f) := HJ.out.at 1 0 rfl rfl; have cx_1 : wr.cell? ⟨w.heap.size + 1, 1, none⟩ = some (.int .i64 t) := HJ.out.at 1 1 rfl rfl; have zg : w.heap.size < wr.heap.size := HJ.out.lt 0 rfl; have zx : w.heap.size + 1 < wr.heap.size := HJ.out.lt 1 rfl; have zp : b5 < wr.heap.size := HJ.out.lt 2 rfl; have zr : b10 < wr.heap.size := HJ.out.lt 3 rfl
          go_wp2
          go_ret
          exact ⟨rfl, HJ.out.2⟩
        · have hm : ¬ min M cnt = 0 := by have := HLn.out; omega
          have hz' : ((L : Int) == 0) = false := by rw [beq_eq_false_iff_ne]; omega
          have hF : F = b := by rw [HF.out, if_neg hm]
          clear HF
          subst hF
          clear HTG
          have cg_0 : wr.cell? ⟨w.heap.size, 0, none⟩ = some (.int .i64 s) := HJ.out.at 0 0 rfl rfl; have cg_1 : wr.cell? ⟨w.heap.size, 1, none⟩ = some (.int .i64 l) := HJ.out.at 0 1 rfl rfl; have cg_2 : wr.cell? ⟨w.heap.size, 2, none⟩ = some (.int .i64 n) := HJ.out.at 0 2 rfl rfl; have cx_0 : wr.cell? ⟨w.heap.size + 1, 0, none⟩ = some (.int .i64 f) := HJ.out.at 1 0 rfl rfl; have cx_1 : wr.cell? ⟨w.heap.size + 1, 1, none⟩ = some (.int .i64 t) := HJ.out.at 1 1 rfl rfl; have zg : w.heap.size < wr.heap.size := HJ.out.lt 0 rfl; have zx : w.heap.size + 1 < wr.heap.size := HJ.out.lt 1 rfl; have zp : b5 < wr.heap.size := HJ.out.lt 2 rfl; have zr : b10 < wr.heap.size := HJ.out.lt 3 rfl
          go_wp2
          go_ret
          exact ⟨rfl, HJ.out.2⟩
end Go.Proofs.Ytiahmhmchppjgaa
