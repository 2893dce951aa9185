/- The document's Same. -/
import Derived.Test.YtjaaldeaknmmbaaDoorS15
namespace Go.Proofs.YtjaaldeaknmmbaaDoor
open Go.RowKit Go.Shelf

abbrev Sxs (w : World) (v : Value) (l : List Sx) : Prop := Rd (fun y : Sx => encS y.s) 23 w v l ∧ ∀ y ∈ l, GoodX w y
theorem Sxs.below {w w' : World} {v : Value} {l : List Sx} (h : Sxs w v l) (hb : Below w.heap.size w w') : Sxs w' v l := ⟨h.1.below hb, fun y hy => (h.2 y hy).below hb⟩
def sameL (l m : List Sx) : Bool := decide (l.length = m.length) && (l.zip m).all (fun p => decide (SameS p.1 p.2))
theorem zip_at {α β : Type} {l : List α} {m : List β} {k : Nat} {a : α} {b : β} (h : l[k]? = some a) (h' : m[k]? = some b) : (l.zip m)[k]? = some (a, b) := by
  rw [List.getElem?_zip_eq_some]; exact ⟨h, h'⟩
theorem sx_at {w W : World} {v : Value} {l : List Sx} (h : Sxs w v l) (hb : Below w.heap.size w W) {b off : Nat} {n c : Nat} (hv : v = .slice (some ⟨b, off, none⟩) n c) {k : Nat} {x : Sx} (hk : l[k]? = some x) : ∀ j u, (encS x.s)[j]? = some u → W.cell? ⟨b, off + k * 23 + j, none⟩ = some u := by
  subst hv
  obtain ⟨b', off', e, hlt, hc⟩ := (h.1.below hb).row (by rintro rfl; simp at hk)
  simp only [Option.some.injEq, Addr.mk.injEq, and_true] at e
  obtain ⟨rfl, rfl⟩ := e
  exact hc k x hk

set_option maxRecDepth 100000 in
set_option maxHeartbeats 1600000 in
theorem rsameL_any (l m : List Sx) (v v' : Value) (w : World) (h : Sxs w v l) (h' : Sxs w v' m) : Calls Tryd.prog 11 #[v, v'] w (SamePost (sameL l m) w) := by
  have HP : Hid (∀ b e w', b = sameL l m → e = .returned (.bool b) ∧ Below w.heap.size w w' → SamePost (sameL l m) w e w') := fun b e w' hb h => by rw [← hb]; exact h
  have HSL : Hid (sameL l m = (decide (l.length = m.length) && (l.zip m).all (fun p => decide (SameS p.1 p.2)))) := rfl
  have HL := Lib.hid h
  have HM := Lib.hid h'
  obtain ⟨a, c, rfl, q1, q2, q3⟩ := h.1.shape
  obtain ⟨a', c', rfl, r1, r2, r3⟩ := h'.1.shape
  clear h h'
  have HGL : Hid (∀ k, k < l.length → ∃ x, l[k]? = some x) := fun k hk => ⟨_, List.getElem?_eq_getElem hk⟩
  have HGM : Hid (∀ k, k < m.length → ∃ x, m[k]? = some x) := fun k hk => ⟨_, List.getElem?_eq_getElem hk⟩
  have HZL : Hid (∀ k, l.length ≤ k → l.length = m.length → (l.zip m).take k = l.zip m) := fun k hk he => List.take_of_length_le (by rw [List.length_zip, ← he]; omega)
  by_cases hlm : l.length = m.length
  · have e1 : ((l.length : Int) != (m.length : Int)) = false := by rw [hlm]; simp
    have e1' : (l.length != m.length) = false := by rw [hlm]; simp
    have HE := Lib.hid hlm
    have hle : l.length ≤ m.length := by omega
    clear hlm
    generalize hn : l.length = n at *
    generalize hn' : m.length = n' at *
    have HN := Lib.hid hn
    have HN' := Lib.hid hn'
    clear hn hn'
    go_enter Tryd.func11, Tryd.ntmps11
    go_wp2
    go_loopw [5] (fun i wr => ∃ k : Nat, k ≤ n ∧ i = .int .i64 k ∧ Hid (((l.zip m).take k).all (fun p => decide (SameS p.1 p.2)) = true) ∧ Hid (Below w.heap.size w wr)) (fun i _ => n - (intOf i).toNat)
    case atStart => exact ⟨0, Nat.zero_le _, rfl, rfl, Below.refl _ _⟩
    case round =>
      obtain ⟨k, hk, rfl, HI, HW⟩ := hrel
      by_cases hlt : k < n
      · obtain ⟨x, hx⟩ := HGL.out k hlt
        obtain ⟨y, hy⟩ := HGM.out k (by omega)
        obtain ⟨b, off, rfl, hbl, -⟩ := HL.out.1.row (by rintro rfl; simp at hx)
        obtain ⟨b', off', rfl, hbl', -⟩ := HM.out.1.row (by rintro rfl; simp at hy)
        have HC : Hid (∀ W, Below w.heap.size w W → ∀ j u, (encS x.s)[j]? = some u → W.cell? ⟨b, off + k * 23 + j, none⟩ = some u) := fun W hW => sx_at HL.out hW rfl hx
        have HC' : Hid (∀ W, Below w.heap.size w W → ∀ j u, (encS y.s)[j]? = some u → W.cell? ⟨b', off' + k * 23 + j, none⟩ = some u) := fun W hW => sx_at HM.out hW rfl hy
        have HCON : Hid (∀ W, Below w.heap.size w W → Calls Tryd.prog 23 #[.agg (encS x.s).toArray, .agg (encS y.s).toArray] W (SamePost (decide (SameS x y)) W)) := fun W hW =>
          rsameS_any x y W ((HL.out.2 x (List.mem_of_getElem? hx)).below hW) ((HM.out.2 y (List.mem_of_getElem? hy)).below hW)
        have HST := Lib.hid (all_snoc (fun p : Sx × Sx => decide (SameS p.1 p.2)) (zip_at hx hy))
        have HMEM : Hid ((x, y) ∈ l.zip m) := List.mem_of_getElem? (zip_at hx hy)
        clear hx hy
        obtain ⟨bq, hbq⟩ : ∃ bq, bq = decide (SameS x y) := ⟨_, rfl⟩
        rw [← hbq] at HCON
        have HBQ := Lib.hid hbq
        clear hbq
        have hlt' : k < n' := by omega
        have hS : Below w.heap.size w wr.drew := HW.out.drew
        go_upto_region 6 with fail
        refine wp_region_held_drew (S := fun X => Below w.heap.size w X) (by kernel_rfl) hS (fun hHeld => ?_)
        (refine takeW (i := 0) (v := ?_) rfl (by kernel_rfl) (by kernel_rfl) (by kernel_rfl) (fun _ _ _ h => h) (by rfl) (by assumption) ?_ ?_; rotate_left; (intro W hW; (try dsimp only at hW); go_simp; try with_reducible rfl); (try simp only [Act.put, List.setIfInBounds_toArray, List.set_cons_zero, List.set_cons_succ]))
        (refine takeW (i := 1) (v := ?_) rfl (by kernel_rfl) (by kernel_rfl) (by kernel_rfl) (fun _ _ _ h => h) (by rfl) (by assumption) ?_ ?_; rotate_left; (intro W hW; (try dsimp only at hW); go_simp; try with_reducible rfl); (try simp only [Act.put, List.setIfInBounds_toArray, List.set_cons_zero, List.set_cons_succ]))
        (refine takeW (i := 2) (v := ?_) rfl (by kernel_rfl) (by kernel_rfl) (by kernel_rfl) (fun _ _ _ h => h) (by rfl) (by assumption) ?_ ?_; rotate_left; (intro W hW; (try dsimp only at hW); go_simp; try with_reducible rfl); (try simp only [Act.put, List.setIfInBounds_toArray, List.set_cons_zero, List.set_cons_succ]))
        (refine takeW (i := 3) rfl (by kernel_rfl) (by kernel_rfl) (by kernel_rfl) (fun _ _ _ h => h) (by rfl) (by assumption) (fun W hW => exec_loadW W41 rfl rfl rfl (HC.out W hW)) ?_; (try simp only [Act.put, List.setIfInBounds_toArray, List.set_cons_zero, List.set_cons_succ]))
        (refine takeW (i := 4) (v := ?_) rfl (by kernel_rfl) (by kernel_rfl) (by kernel_rfl) (fun _ _ _ h => h) (by rfl) (by assumption) ?_ ?_; rotate_left; (intro W hW; (try dsimp only at hW); go_simp; try with_reducible rfl); (try simp only [Act.put, List.setIfInBounds_toArray, List.set_cons_zero, List.set_cons_succ]))
        (refine takeW (i := 5) (v := ?_) rfl (by kernel_rfl) (by kernel_rfl) (by kernel_rfl) (fun _ _ _ h => h) (by rfl) (by assumption) ?_ ?_; rotate_left; (intro W hW; (try dsimp only at hW); go_simp; try with_reducible rfl); (try simp only [Act.put, List.setIfInBounds_toArray, List.set_cons_zero, List.set_cons_succ]))
        (refine takeW (i := 6) (v := ?_) rfl (by kernel_rfl) (by kernel_rfl) (by kernel_rfl) (fun _ _ _ h => h) (by rfl) (by assumption) ?_ ?_; rotate_left; (intro W hW; (try dsimp only at hW); go_simp; try with_reducible rfl); (try simp only [Act.put, List.setIfInBounds_toArray, List.set_cons_zero, List.set_cons_succ]))
        (refine takeW (i := 7) rfl (by kernel_rfl) (by kernel_rfl) (by kernel_rfl) (fun _ _ _ h => h) (by rfl) (by assumption) (fun W hW => exec_loadW W41 rfl rfl rfl (HC'.out W hW)) ?_; (try simp only [Act.put, List.setIfInBounds_toArray, List.set_cons_zero, List.set_cons_succ]))
        refine takeC (i := 8) rfl (by kernel_rfl) (by rfl) (fun K hK => ?_)
        go_simp
        refine (HCON.out _ hHeld).mono ?_
        rintro e w3 ⟨rfl, hb⟩
        have hs : Below w.heap.size w w3 := hHeld.trans (hb.mono hHeld.size)
        refine hK.out _ _ hs (fun hHeld => ?_)
        clear hK K
        try simp only [Act.put, List.setIfInBounds_toArray, List.set_cons_zero, List.set_cons_succ]
        (refine takeW (i := 9) (v := ?_) rfl (by kernel_rfl) (by kernel_rfl) (by kernel_rfl) (fun _ _ _ h => h) (by rfl) (by assumption) ?_ ?_; rotate_left; (intro W hW; (try dsimp only at hW); go_simp; try with_reducible rfl); (try simp only [Act.put, List.setIfInBounds_toArray, List.set_cons_zero, List.set_cons_succ]))
        refine wpAnyH_done (by kernel_rfl) ?_ _
        have HW2 := Lib.hid hHeld
        clear hHeld
        cases bq with
        | true =>
          have HI2 : Hid (((l.zip m).take (k + 1)).all (fun p => decide (SameS p.1 p.2)) = true) := by show _ = _; rw [HST.out, HI.out, ← HBQ.out]; rfl
          go_wp2
          go_roundw
          case rel => exact ⟨k + 1, by omega, by go_num, HI2, HW2⟩
          case measure => simp [intOf]; omega
        | false =>
          have HF : Hid (false = sameL l m) := by
            show _ = _
            rw [HSL.out, eq_comm, Bool.and_eq_false_iff]
            right
            rw [Bool.eq_false_iff]
            intro h
            have h2 := List.all_eq_true.1 h _ HMEM.out
            simp only at h2
            rw [← HBQ.out] at h2; cases h2
          go_wp2
          go_ret
          exact HP.out _ _ _ HF.out ⟨rfl, HW2.out⟩
      · obtain rfl : n = k := by omega
        have HT : Hid (true = sameL l m) := by
          show _ = _
          have h := HI.out
          rw [HZL.out _ (Nat.le_refl _) HE.out] at h
          rw [HSL.out, h, decide_eq_true HE.out]; rfl
        go_wp2
        go_ret
        exact HP.out _ _ _ HT.out ⟨rfl, HW.out⟩
  · have e1 : ((l.length : Int) != (m.length : Int)) = true := by rw [bne_iff_ne]; omega
    have e1' : (l.length != m.length) = true := by rw [bne_iff_ne]; omega
    have HF : Hid (false = sameL l m) := by show _ = _; rw [HSL.out, decide_eq_false hlm]; rfl
    clear hlm
    go_enter Tryd.func11, Tryd.ntmps11
    go_wp2
    go_ret
    exact HP.out _ _ _ HF.out ⟨rfl, Below.refl _ _⟩
end Go.Proofs.YtjaaldeaknmmbaaDoor
