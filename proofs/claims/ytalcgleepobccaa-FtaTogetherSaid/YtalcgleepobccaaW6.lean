/- Contracts: begun; and the walk of FtaMeans. -/
import Derived.Test.YtalcgleepobccaaW5
namespace Go.Proofs.Ytalcgleepobccaa
open Go.RowKit Go.Shelf

/-- Integers that the walk has laid in a new block. -/
theorem Ints.new {w : World} {t : TypeId} (l : List Int) (hl : l.length ≤ 17592186044416) (hb : ∀ x ∈ l, I64 x) :
    Ints (w.alloc (.cells ((l.map (Value.int .i64)).toArray) t)) (.slice (some ⟨w.heap.size, 0, none⟩) l.length l.length) l :=
  ⟨_, _, rfl, Nat.le_refl _, by omega, hl, hb, by simp, .inr ⟨w.heap.size, 0, rfl, by simp, fun j hj => by
    rw [World.cell?_alloc_at _ _ _ _ rfl]
    simp [List.getD_eq_getElem?_getD, hj]⟩⟩

theorem mid_b1 : Fta.mid [5, 1, 9, 2] = (3, 0) := by unfold Fta.mid; rw [Fta.kept_eq]; decide
theorem mid_b2 : Fta.mid [5, -4] = (0, 0) := by unfold Fta.mid; rw [Fta.kept_eq]; decide

theorem begun_any (w : World) : Calls Try.prog 12 #[] w fun e w' => e = .returned (.bool true) ∧ Below w.heap.size w w' := by
  have h1 := fun W : World => mid_any [5, 1, 9, 2] _ _ (Ints.new (w := W) (t := 2) [5, 1, 9, 2] (by decide) (by unfold I64; decide))
  have h2 := fun W : World => mid_any [5, -4] _ _ (Ints.new (w := W) (t := 2) [5, -4] (by decide) (by unfold I64; decide))
  simp only [mid_b1, mid_b2] at h1 h2
  go_enter Try.func12, Try.ntmps12
  go_wp2_with fail
  refine (h1 w).mono ?_
  rintro e w1 ⟨rfl, hb1⟩
  go_wp2_with fail
  refine (h2 w1).mono ?_
  rintro e w2 ⟨rfl, hb2⟩
  go_wp2
  go_ret
  have hb1' := ((Below.refl w.heap.size w).alloc (Nat.le_refl _) (.cells #[.int .i64 5, .int .i64 1, .int .i64 9, .int .i64 2] 2)).trans (hb1.mono (by simp))
  exact ⟨rfl, (hb1'.alloc hb1'.size _).trans (hb2.mono (by have := hb1'.size; simp; omega))⟩

set_option maxHeartbeats 800000 in
theorem means_walk (l0 : List Int) (v0 : Value) (w : World) (h : Ints w v0 l0) :
    Calls Try.prog 6 #[v0] w fun e w' => e = .returned (.bool true) ∧ Below w.heap.size w w' := by
  go_enter Try.func6, Try.ntmps6
  go_wp2_with fail
  refine (few_any l0 v0 w h).mono ?_
  rintro e w' ⟨⟨v, rfl, hv⟩, rfl⟩
  clear h
  generalize l0.take 60 = l at *
  go_wp2_with fail
  refine (clone_any l v _ hv).mono ?_
  rintro e w1 ⟨⟨u, rfl, hu⟩, hb1⟩
  have hv1 := hv.below hb1
  have hu1 := Ints.of_owns hu hv.len hv.bd
  go_wp2_with fail
  refine (kept_any l v _ hv1).mono ?_
  rintro e w2 ⟨rfl, hb2⟩
  have hv2 := hv1.below hb2
  have hu2 := hu1.below hb2
  have hk := rKept_any l v w2 hv2
  rw [← Fta.kept_eq] at hk
  go_wp2_with fail
  refine hk.mono ?_
  rintro e w3 ⟨rfl, hb3⟩
  have hv3 := hv2.below hb3
  have hu3 := hu2.below hb3
  clear hk
  go_wp2_with fail
  refine (mid_any l v _ hv3).mono ?_
  rintro e w4 ⟨rfl, hb4⟩
  have hv4 := hv3.below hb4
  have hu4 := hu3.below hb4
  go_wp2_with fail
  refine (rmid_any l v _ hv4).mono ?_
  rintro e w5 ⟨rfl, hb5⟩
  have hv5 := hv4.below hb5
  have hu5 := hu4.below hb5
  go_wp2_with fail
  refine (begun_any _).mono ?_
  rintro e w6 ⟨rfl, hb6⟩
  have hv6 := hv5.below hb6
  have hu6 := hu5.below hb6
  clear hu
  go_wp2_with fail
  refine (spread_any l v _ hv6).mono ?_
  rintro e w' ⟨rfl, rfl⟩
  go_wp2_with fail
  refine (rspread_any l v _ hv6).mono ?_
  rintro e w' ⟨rfl, rfl⟩
  have heq := equal_any l l v u _ hv6 hu6
  rw [show decide (l = l) = true by simp] at heq
  go_wp2_with fail
  refine heq.mono ?_
  rintro e w7 ⟨rfl, hb7⟩
  go_wp2_with fail
  go_ret
  have b2 := hb1.trans (hb2.mono hb1.size)
  have b3 := b2.trans (hb3.mono b2.size)
  have b4 := b3.trans (hb4.mono b3.size)
  have b5 := b4.trans (hb5.mono b4.size)
  have b6 := b5.trans (hb6.mono b5.size)
  exact ⟨rfl, b6.trans (hb7.mono b6.size)⟩
end Go.Proofs.Ytalcgleepobccaa
