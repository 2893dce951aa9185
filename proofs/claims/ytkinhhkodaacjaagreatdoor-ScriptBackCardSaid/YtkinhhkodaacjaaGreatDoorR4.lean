/- numbers: a word and numbers, written into a printer. -/
import Derived.Test.YtkinhhkodaacjaaGreatDoorQ1
import Derived.Test.YtkinhhkodaacjaaGreatDoorD2
import Derived.Test.YtkinhhkodaacjaaGreatDoorKq
import Derived.Test.YtkinhhkodaacjaaGreatDoorLA
namespace Go.Proofs.YtkinhhkodaacjaaGreatDoor
open Go.RowKit Go.Shelf

def numT (l : List Int) : List UInt8 := l.flatMap fun n => 32 :: decZ n
def lineT (wd : List UInt8) (l : List Int) : List UInt8 := wd ++ numT l
theorem numT_snoc {l : List Int} {k : Nat} {x : Int} (h : l[k]? = some x) : numT (l.take (k + 1)) = (numT (l.take k) ++ [32]) ++ decZ x := by
  unfold numT
  rw [take_snoc h, List.flatMap_append]; simp
theorem numT_len : ∀ (l : List Int), (∀ x ∈ l, -9223372036854775808 ≤ x ∧ x ≤ 9223372036854775807) → (numT l).length ≤ 21 * l.length
  | [], _ => by simp [numT]
  | x :: l, h => by
    have h1 := decZ_len (h x (by simp)).1 (h x (by simp)).2
    have h2 := numT_len l (fun y hy => h y (by simp [hy]))
    unfold numT at h2 ⊢
    rw [List.flatMap_cons, List.length_append, List.length_cons, List.length_cons]; omega

set_option maxRecDepth 100000 in
set_option maxHeartbeats 1600000 in
theorem numbers_any (B b : Nat) (T wd : List UInt8) (v : Value) (l : List Int) (w : World) (h : Bld B b T w) (hv : Nums w v l) (hlt : ∀ g o n c, v = .slice (some ⟨g, o, none⟩) n c → l ≠ [] → g < B ∨ ∃ cs, Blk w g 3 cs) (hl : l.length ≤ 20000) (hT : T.length + wd.length ≤ 70368744177664) :
    Calls Tryz.prog 24 #[.pointer (some ⟨b, 0, none⟩), .string ⟨wd.toArray⟩, v] w fun e w' => e = .returned (.tuple #[]) ∧ BPost B b (T ++ lineT wd l) w w' := by
  have HPO : Hid (∀ w', BI w B b w (T ++ lineT wd l) w' → (fun e w' => e = Ending.returned (.tuple #[]) ∧ BPost B b (T ++ lineT wd l) w w') (.returned (.tuple #[])) w') := fun w' h => ⟨rfl, h.bld, h.bel, h.ok, h.sz⟩
  have HB0 : Hid (BI w B b w T w) := Lib.hid (BI.start h (Below.refl _ _))
  have HN : Hid (∀ k x, l[k]? = some x → -9223372036854775808 ≤ x ∧ x ≤ 9223372036854775807) := fun k x hx => hv.2 x (List.mem_of_getElem? hx)
  have HTL : Hid (∀ k, (numT (l.take k)).length ≤ 21 * 20000) := fun k => by
    have h1 := numT_len (l.take k) (fun x hx => hv.2 x (List.mem_of_mem_take hx))
    have h2 : (l.take k).length ≤ l.length := List.length_take_le' _ _
    show _ ≤ _; omega
  have HCL : Hid (∀ k x W, l[k]? = some x → BI w B b w (T ++ wd ++ numT (l.take k)) W → ∀ g o n c, v = .slice (some ⟨g, o, none⟩) n c → W.cell? ⟨g, o + k, none⟩ = some (.int .i64 x)) := fun k x W hx hW g o n c hvv => by
    subst hvv
    obtain ⟨g', o', e, hgl, hc⟩ := hv.1.row (by rintro rfl; simp at hx)
    cases e
    have h0 := CellsAt.one (f := Value.int .i64) hc hx
    rcases hlt g o n c rfl (fun e => by rw [e] at hx; simp at hx) with hg | ⟨cs, hcs⟩
    · rw [hW.bel.cell hg]; exact h0
    · have hgb : g ≠ b := fun e => by
        subst e
        obtain ⟨cs', fz, hb⟩ := h.blk
        rw [show w.heap[g]? = _ from hcs] at hb; cases hb
      have := hW.ok g _ hcs (by simpa using hgb) (fun c fz e => by cases e)
      rw [World.cell?_of_block (this.trans hcs.symm)]
      exact h0
  have HTT := Lib.hid hT
  have HEND : Hid (T ++ wd ++ numT (l.take l.length) = T ++ lineT wd l) := by show _ = _; rw [List.take_length, lineT, List.append_assoc]
  obtain ⟨a, c, rfl, q1, q2, q3⟩ := hv.1.shape
  have hne : ∀ (k : Nat) (x : Int), l[k]? = some x → l ≠ [] := fun k x hx e => by rw [e] at hx; simp at hx
  have HA : Hid (∀ (k : Nat) (x : Int), l[k]? = some x → ∃ g o, a = some ⟨g, o, none⟩) := fun k x hx => by
    obtain ⟨g, o, e, _⟩ := hv.1.row (hne k x hx)
    exact ⟨g, o, e⟩
  clear hne
  have HWS := Lib.hid (wstr_any B b T wd w h (by omega) HB0.out.le)
  clear h hT
  clear hlt
  clear hv
  generalize (fun e w' => e = Ending.returned (.tuple #[]) ∧ BPost B b (T ++ lineT wd l) w w') = POST at *
  obtain ⟨n, hn⟩ : ∃ n, l.length = n := ⟨_, rfl⟩
  rw [hn] at HEND HCL q1 hl ⊢
  have HNN := Lib.hid hn
  clear hn
  go_enter Tryz.func24, Tryz.ntmps24
  go_wp2_with fail
  refine HWS.out.mono ?_
  rintro e w1 ⟨rfl, hp⟩
  have HB1 : Hid (BI w B b w (T ++ wd ++ numT (l.take 0)) w1) := Lib.hid (by
    have := HB0.out.post hp
    simpa [numT] using this)
  clear HWS hp HB0
  go_wp2_with fail
  go_loopw [15] (fun i wr => ∃ k : Nat, k ≤ n ∧ i = .int .i64 k ∧ Hid (BI w B b w (T ++ wd ++ numT (l.take k)) wr)) (fun i _ => n - (intOf i).toNat)
  case atStart => exact ⟨0, Nat.zero_le _, rfl, HB1⟩
  case round =>
    clear HB1
    obtain ⟨k, hk, rfl, HBI⟩ := hrel
    obtain ⟨wo, rfl⟩ : ∃ wo : World, wo = wr := ⟨_, rfl⟩
    by_cases hlt : k < n
    · obtain ⟨x, hx⟩ : ∃ x, l[k]? = some x := ⟨_, List.getElem?_eq_getElem (by rw [HNN.out]; exact hlt)⟩
      obtain ⟨g, o, rfl⟩ := HA.out k x hx
      have c0 := HCL.out k x wo hx HBI.out g o n c rfl
      have HX := Lib.hid (HN.out k x hx)
      have HSN := Lib.hid (numT_snoc hx)
      have HDL := Lib.hid (decZ_len HX.out.1 HX.out.2)
      obtain ⟨T1, hT1⟩ : ∃ T1, T ++ wd ++ numT (l.take k) = T1 := ⟨_, rfl⟩
      have HT1L : Hid (T1.length ≤ 70368744177664 + 430000) := by
        have := HTL.out k; have := HTT.out
        show _ ≤ _
        rw [← hT1]; simp only [List.length_append]; omega
      have HFIN : Hid (∀ X, BI w B b w ((T1 ++ [32]) ++ decZ x) X → BI w B b w (T ++ wd ++ numT (l.take (k + 1))) X) := fun X h => by
        rw [HSN.out, ← List.append_assoc, ← List.append_assoc, hT1]; exact h
      rw [hT1] at HBI
      have HW1 : Hid (Calls Tryz.prog 28 #[.pointer (some ⟨b, 0, none⟩), .int .u8 32] wo fun e w' => e = .returned .nilIface ∧ BPost B b (T1 ++ [32]) wo w') := Lib.hid (wbyte_any B b T1 32 wo HBI.out.bld (by have := HT1L.out; omega) HBI.out.le)
      have HNU : Hid (∀ W, Calls Tryz.prog 52 #[.int .i64 x] W fun e w' => e = .returned (.string ⟨(decZ x).toArray⟩) ∧ Below W.heap.size W w') := fun W => number_any x W HX.out.1 HX.out.2
      clear hx hT1
      go_wp2_with fail
      refine HW1.out.mono ?_
      rintro e w3 ⟨rfl, hp⟩
      have HB3 := Lib.hid (HBI.out.post hp)
      clear hp HW1 HBI c0
      have hS : Hid (BI w B b w (T1 ++ [32]) w3.drew) := Lib.hid (HB3.out.below (Below.refl _ _).drew)
      go_upto_region 5 with fail
      refine wp_region_held_drew (S := fun _ => True) (by kernel_rfl) trivial (fun hHeld => ?_)
      (refine takeW (i := 0) (v := ?_) rfl (by kernel_rfl) (by kernel_rfl) (by kernel_rfl) (fun _ _ _ h => h) (by rfl) (by assumption) ?_ ?_; rotate_left; (intro W hW; (try dsimp only at hW); go_simp; try with_reducible rfl); (try simp only [Act.put, List.setIfInBounds_toArray, List.set_cons_zero, List.set_cons_succ]))
      (refine takeW (i := 1) (v := ?_) rfl (by kernel_rfl) (by kernel_rfl) (by kernel_rfl) (fun _ _ _ h => h) (by rfl) (by assumption) ?_ ?_; rotate_left; (intro W hW; (try dsimp only at hW); go_simp; try with_reducible rfl); (try simp only [Act.put, List.setIfInBounds_toArray, List.set_cons_zero, List.set_cons_succ]))
      (refine takeW (i := 2) (v := ?_) rfl (by kernel_rfl) (by kernel_rfl) (by kernel_rfl) (fun _ _ _ h => h) (by rfl) (by assumption) ?_ ?_; rotate_left; (intro W hW; (try dsimp only at hW); go_simp; try with_reducible rfl); (try simp only [Act.put, List.setIfInBounds_toArray, List.set_cons_zero, List.set_cons_succ]))
      (refine takeW (i := 3) (v := ?_) rfl (by kernel_rfl) (by kernel_rfl) (by kernel_rfl) (fun _ _ _ h => h) (by rfl) (by assumption) ?_ ?_; rotate_left; (intro W hW; (try dsimp only at hW); go_simp; try with_reducible rfl); (try simp only [Act.put, List.setIfInBounds_toArray, List.set_cons_zero, List.set_cons_succ]))
      refine takeC (i := 4) rfl (by kernel_rfl) (by rfl) (fun K hK => ?_)
      go_simp
      refine (HNU.out _).mono ?_
      rintro e w4 ⟨rfl, hb⟩
      have HB4 := Lib.hid (hS.out.below hb)
      clear hb hHeld
      refine hK.out _ _ trivial (fun hHeld => ?_)
      clear hK K
      try simp only [Act.put, List.setIfInBounds_toArray, List.set_cons_zero, List.set_cons_succ]
      refine takeC (i := 5) rfl (by kernel_rfl) (by rfl) (fun K hK => ?_)
      go_simp
      refine (wstr_any B b (T1 ++ [32]) (decZ x) w4 HB4.out.bld (by have := HT1L.out; have := HDL.out; simp; omega) HB4.out.le).mono ?_
      rintro e w5 ⟨rfl, hp⟩
      have HB5 := Lib.hid (HB4.out.post hp)
      clear hp HB4
      refine hK.out _ _ trivial (fun hHeld => ?_)
      clear hK K
      try simp only [Act.put, List.setIfInBounds_toArray, List.set_cons_zero, List.set_cons_succ]
      refine wpAnyH_done (by kernel_rfl) ?_ _
      clear hHeld
      go_wp2
      go_roundw
      case rel => exact ⟨k + 1, by omega, by go_num, HFIN.out _ HB5.out⟩
      case measure => simp [intOf]; omega
    · have hkn : k = n := by omega
      subst hkn
      have HFB := Lib.hid HBI.out
      go_wp2
      rw [HEND.out] at HFB
      go_end0
      exact HPO.out _ HFB.out
end Go.Proofs.YtkinhhkodaacjaaGreatDoor
