/- Last, the document's Last, Clone of numbers, begun. -/
import Derived.Test.YtjaaldeaknmmbaaDoorS11
namespace Go.Proofs.YtjaaldeaknmmbaaDoor
open Go.RowKit Go.Shelf

def mxS (m : Int) (l : List Sn) : Int := l.foldl (fun m y => imax m y.r) m
def lastS : List Sn → Int
  | [] => 0
  | x :: l => mxS x.r l
theorem mxS_snoc {m : Int} {l : List Sn} {k : Nat} {x : Sn} (h : l[k]? = some x) : mxS m (l.take (k + 1)) = imax (mxS m (l.take k)) x.r := by
  unfold mxS; rw [take_snoc h, List.foldl_append]; rfl
theorem mxS_self (x : Sn) (l : List Sn) : mxS x.r (x :: l) = lastS (x :: l) := by
  unfold lastS mxS
  rw [List.foldl_cons]
  congr 1
  unfold imax; split <;> rfl

set_option maxRecDepth 100000 in
set_option maxHeartbeats 800000 in
theorem last_any (l : List Sn) (lv : Value) (w : World) (h : Snaps w lv l) (hl : l.length ≤ 300) :
    Calls Tryd.prog 14 #[lv] w fun e w' => e = .returned (.int .i64 (lastS l)) ∧ Below w.heap.size w w' := by
  cases l with
  | nil =>
    obtain ⟨a, c, rfl, q1, q2, q3⟩ := h.shape
    clear h
    simp only [List.length_nil]
    go_enter Tryd.func14, Tryd.ntmps14
    go_wp2
    go_ret
    exact ⟨rfl, Below.refl _ _⟩
  | cons x t =>
    obtain ⟨a, c, rfl, q1, q2, q3⟩ := h.shape
    obtain ⟨b, off, rfl, hbl, hc⟩ := h.row (by simp)
    have c0 : w.cell? ⟨b, off, none⟩ = some (.int .i64 x.r) := by simpa using sn_r hc (k := 0) rfl
    have HC : Hid (∀ k y, t[k]? = some y → ∀ j u, (encS y)[j]? = some u → w.cell? ⟨b, off + 23 + k * 23 + j, none⟩ = some u) := fun k y hk j u hu => by
      have := hc (k + 1) y (by simpa using hk) j u hu
      rwa [Nat.add_mul, Nat.one_mul, Nat.add_comm (k * 23) 23, ← Nat.add_assoc] at this
    have HL : Hid (lastS (x :: t) = mxS x.r t) := rfl
    clear h hc
    rw [List.length_cons] at *
    generalize lastS (x :: t) = L at *
    have HT : Hid (∀ k, t.length ≤ k → t.take k = t) := fun k hk => List.take_of_length_le hk
    have HG : Hid (∀ k, k < t.length → ∃ y, t[k]? = some y) := fun k hk => ⟨_, List.getElem?_eq_getElem hk⟩
    generalize t.length = n at *
    have hn0 : ((n : Int) + 1 == 0) = false := by simp; omega
    have hn1 : decide ((n : Int) + 1 = 0) = false := decide_eq_false (by omega)
    by_cases hc1 : c = 1
    · subst hc1
      obtain rfl : n = 0 := by omega
      go_enter Tryd.func14, Tryd.ntmps14
      go_wp2
      go_loopw [3, 16] (fun m i wr => i = .int .i64 0 ∧ m = .int .i64 x.r ∧ Hid (Below w.heap.size w wr)) (fun _ _ _ => 0)
      case atStart => exact ⟨rfl, rfl, Below.refl _ _⟩
      case round =>
        obtain ⟨rfl, rfl, HW⟩ := hrel
        go_wp2
        go_ret
        refine ⟨ret_int ?_, HW.out⟩
        rw [HL.out, ← HT.out 0 (Nat.le_refl _)]
        rfl
    · have hc2 : 1 < c := by omega
      have HM : Hid (∀ k y, t[k]? = some y → mxS x.r (t.take (k + 1)) = imax (mxS x.r (t.take k)) y.r) := fun k y hk => mxS_snoc hk
      go_enter Tryd.func14, Tryd.ntmps14
      go_wp2
      go_loopw [3, 16] (fun m i wr => ∃ k : Nat, k ≤ n ∧ i = .int .i64 k ∧ m = .int .i64 (mxS x.r (t.take k)) ∧ Hid (Below w.heap.size w wr)) (fun _ i _ => n - (intOf i).toNat)
      case atStart => exact ⟨0, Nat.zero_le _, rfl, rfl, Below.refl _ _⟩
      case round =>
        obtain ⟨k, hk, rfl, rfl, HW⟩ := hrel
        by_cases hlt : k < n
        · obtain ⟨y, hy⟩ := HG.out k hlt
          have HCY : Hid (∀ j u, (encS y)[j]? = some u → wr.cell? ⟨b, off + 23 + k * 23 + j, none⟩ = some u) := fun j u hu => by rw [HW.out.cell (p := ⟨b, off + 23 + k * 23 + j, none⟩) hbl]; exact HC.out k y hy j u hu
          have HS := Lib.hid (HM.out k y hy)
          have hbs := HW.out.size
          clear hy
          go_wp2_with (first
            | (refine wpList_loadW W41 rfl rfl rfl (encS y) rfl HCY.out ?_)
            | (refine wpList_boxW W41 rfl rfl rfl (encS y) rfl rfl (encS_one y) rfl ?_; go_must (intro W1 HX hal hz1; have k0 : W1.cell? ⟨wr.heap.size, 0, none⟩ = some (.int .i64 y.r) := HX.list0 rfl; have zz : wr.heap.size < W1.heap.size := (by omega); have HB1 := Lib.hid hal; clear HX hal hz1))
            | (refine wpList_max rfl rfl rfl rfl ?_; go_must (rw [← HS.out])))
          go_roundw
          case rel => exact ⟨k + 1, by omega, by go_num, rfl, HW.out.trans (HB1.out.mono hbs)⟩
          case measure => simp [intOf]; omega
        · obtain rfl : n = k := by omega
          go_wp2
          go_ret
          exact ⟨ret_int (by rw [HL.out, HT.out _ (Nat.le_refl _)]), HW.out⟩

def s0 : Sn := ⟨1, 0, 4, 0, 0, 0, 0, 0, 0, 0, 0, 0, 0, 0, 0, 0, false, 0, 0, none, 0, 0, none, 0, 0, 0, 0⟩
def s1 : Sn := ⟨1, 1, 4, 0, 1, 0, 0, 0, 0, 0, 0, 0, 0, 0, 0, 0, false, 0, 0, none, 0, 0, none, 0, 0, 0, 0⟩
theorem s01_r : ∀ x ∈ [s0, s1], I64 x.r := by
  intro x hx
  simp at hx
  rcases hx with rfl | rfl <;> exact ⟨by decide, by decide⟩
set_option maxRecDepth 100000 in
set_option maxHeartbeats 800000 in
theorem begun_any (w : World) : Calls Tryd.prog 5 #[] w fun e w' => e = .returned (.bool true) ∧ Below w.heap.size w w' := by
  have hb0 : Below w.heap.size w (w.alloc (.cells #[.int .i64 1, .int .i64 0, .int .i64 4, .int .i64 0, .int .i64 0, .int .i64 0, .int .i64 0, .int .i64 0, .int .i64 0, .int .i64 0, .int .i64 0, .int .i64 0, .int .i64 0, .int .i64 0, .int .i64 0, .int .i64 0, .bool false, .int .i64 0, .int .i64 0, .slice none 0 0, .slice none 0 0, .int .i64 0, .int .i64 0, .int .i64 1, .int .i64 1, .int .i64 4, .int .i64 0, .int .i64 1, .int .i64 0, .int .i64 0, .int .i64 0, .int .i64 0, .int .i64 0, .int .i64 0, .int .i64 0, .int .i64 0, .int .i64 0, .int .i64 0, .int .i64 0, .bool false, .int .i64 0, .int .i64 0, .slice none 0 0, .slice none 0 0, .int .i64 0, .int .i64 0] 43)) := below1 w _
  have hB : Blk (w.alloc (.cells #[.int .i64 1, .int .i64 0, .int .i64 4, .int .i64 0, .int .i64 0, .int .i64 0, .int .i64 0, .int .i64 0, .int .i64 0, .int .i64 0, .int .i64 0, .int .i64 0, .int .i64 0, .int .i64 0, .int .i64 0, .int .i64 0, .bool false, .int .i64 0, .int .i64 0, .slice none 0 0, .slice none 0 0, .int .i64 0, .int .i64 0, .int .i64 1, .int .i64 1, .int .i64 4, .int .i64 0, .int .i64 1, .int .i64 0, .int .i64 0, .int .i64 0, .int .i64 0, .int .i64 0, .int .i64 0, .int .i64 0, .int .i64 0, .int .i64 0, .int .i64 0, .int .i64 0, .bool false, .int .i64 0, .int .i64 0, .slice none 0 0, .slice none 0 0, .int .i64 0, .int .i64 0] 43)) w.heap.size 43 ([s0, s1].flatMap encS).toArray := (Blk.new' rfl : Blk _ _ _ _)
  have hz0 : (w.alloc (.cells #[.int .i64 1, .int .i64 0, .int .i64 4, .int .i64 0, .int .i64 0, .int .i64 0, .int .i64 0, .int .i64 0, .int .i64 0, .int .i64 0, .int .i64 0, .int .i64 0, .int .i64 0, .int .i64 0, .int .i64 0, .int .i64 0, .bool false, .int .i64 0, .int .i64 0, .slice none 0 0, .slice none 0 0, .int .i64 0, .int .i64 0, .int .i64 1, .int .i64 1, .int .i64 4, .int .i64 0, .int .i64 1, .int .i64 0, .int .i64 0, .int .i64 0, .int .i64 0, .int .i64 0, .int .i64 0, .int .i64 0, .int .i64 0, .int .i64 0, .int .i64 0, .int .i64 0, .bool false, .int .i64 0, .int .i64 0, .slice none 0 0, .slice none 0 0, .int .i64 0, .int .i64 0] 43)).heap.size = w.heap.size + 1 := by simp
  have e1 : agreeS [s0, s1] [] = false := by decide
  have e2 : agreeS [s0, s1] [1] = true := by decide
  have e3 : (clq [] (ofR [s0, s1] 1 [s0, s1].length)).length = 2 := by decide
  have e4 : lastS [s0, s1] = 1 := by decide
  go_enter Tryd.func5, Tryd.ntmps5
  go_upto_region 2 with fail
  generalize w.alloc (.cells #[.int .i64 1, .int .i64 0, .int .i64 4, .int .i64 0, .int .i64 0, .int .i64 0, .int .i64 0, .int .i64 0, .int .i64 0, .int .i64 0, .int .i64 0, .int .i64 0, .int .i64 0, .int .i64 0, .int .i64 0, .int .i64 0, .bool false, .int .i64 0, .int .i64 0, .slice none 0 0, .slice none 0 0, .int .i64 0, .int .i64 0, .int .i64 1, .int .i64 1, .int .i64 4, .int .i64 0, .int .i64 1, .int .i64 0, .int .i64 0, .int .i64 0, .int .i64 0, .int .i64 0, .int .i64 0, .int .i64 0, .int .i64 0, .int .i64 0, .int .i64 0, .int .i64 0, .bool false, .int .i64 0, .int .i64 0, .slice none 0 0, .slice none 0 0, .int .i64 0, .int .i64 0] 43) = w1 at *
  have hS : Snaps w1 (.slice (some ⟨w.heap.size, 0, none⟩) 2 2) [s0, s1] :=
    ⟨_, 2, rfl, by decide, by decide, by decide, by simp, .inr ⟨w.heap.size, 0, rfl, by omega, CellsAt.of_flat encS_len (fun j u hj => hB.list j u hj)⟩⟩
  have h1 := agree_any [s0, s1] _ [] (.slice none 0 0) w1 hS (by decide) s01_r (Rd.nil _)
  rw [e1] at h1
  have hbz := hb0.size
  have HS := Lib.hid hS
  have HE2 := Lib.hid e2
  have HE3 := Lib.hid e3
  have HE4 := Lib.hid e4
  have HB0 := Lib.hid hb0
  clear hS e1 e2 e3 e4 hB hb0 hz0
  go_wp2_with fail
  refine h1.mono ?_
  rintro e w2 ⟨rfl, hb⟩
  have hB2 : Below w1.heap.size w1 (w2.alloc (.cells #[.int .i64 1] 3)) := hb.trans ((below1 w2 _).mono hb.size)
  have hN : Ns (w2.alloc (.cells #[.int .i64 1] 3)) (.slice (some ⟨w2.heap.size, 0, none⟩) 1 1) [1] :=
    ⟨_, 1, rfl, by decide, by decide, by decide, by simp, .inr ⟨w2.heap.size, 0, rfl, by simp, fun j x hj i u hu => by
      match j, hj with
      | 0, hj =>
        simp at hj
        subst hj
        match i, hu with
        | 0, hu => simp [encI] at hu; subst hu; rw [World.cell?_alloc_at _ _ _ _ rfl]; rfl
        | i + 1, hu => simp [encI] at hu⟩⟩
  have h2 := agree_any [s0, s1] _ [1] _ (w2.alloc (.cells #[.int .i64 1] 3)) (HS.out.below hB2) (by decide) s01_r hN
  rw [HE2.out] at h2
  have hz2 := hB2.size
  have HB2 := Lib.hid hB2
  clear h1 hN hB2 hb
  go_wp2_with fail
  refine h2.mono ?_
  rintro e w3 ⟨rfl, hb⟩
  have hB3 : Below w1.heap.size w1 w3 := HB2.out.trans (hb.mono hz2)
  have h3 := cliques2_any [s0, s1] _ 1 w3 (HS.out.below hB3) (by decide)
  have HB3 := Lib.hid hB3
  clear h2 hB3 hb
  go_wp2_with fail
  refine h3.mono ?_
  rintro e w4 ⟨⟨v, gs, rfl, ho, -, hpg⟩, hb⟩
  have hgl : gs.length = 2 := by rw [← HE3.out, ← hpg]; simp
  rw [hgl] at ho
  obtain ⟨ga, gc, rfl, -⟩ := owns_shape ho
  have hB4 : Below w1.heap.size w1 w4 := HB3.out.trans (hb.mono HB3.out.size)
  have h4 := last_any [s0, s1] _ w4 (HS.out.below hB4) (by decide)
  rw [HE4.out] at h4
  have HB4 := Lib.hid hB4
  clear h3 hB4 hb ho hpg hgl
  go_wp2_with fail
  refine h4.mono ?_
  rintro e w5 ⟨rfl, hb⟩
  have HB5 : Hid (Below w.heap.size w w5) := HB0.out.trans ((HB4.out.trans (hb.mono HB4.out.size)).mono (by omega))
  clear h4 hb
  go_wp2
  go_ret
  exact ⟨rfl, HB5.out⟩
end Go.Proofs.YtjaaldeaknmmbaaDoor
