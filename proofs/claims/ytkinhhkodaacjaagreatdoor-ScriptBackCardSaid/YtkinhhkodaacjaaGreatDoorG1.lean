/- Rows of ints and of truths: slices.Equal, and the document's. begun. -/
import Derived.Test.YtkinhhkodaacjaaGreatDoorQ1
import Derived.Test.YtkinhhkodaacjaaGreatDoorR10
import Derived.Test.YtkinhhkodaacjaaGreatDoorK1
import Derived.Test.YtkinhhkodaacjaaGreatDoorV7
import Derived.Test.YtkinhhkodaacjaaGreatDoorN4
namespace Go.Proofs.YtkinhhkodaacjaaGreatDoor
open Go.RowKit Go.Shelf
open Md

set_option maxHeartbeats 1600000 in
theorem equalI_any (v u : Value) (l m : List Int) (w : World) (h : Rd (encI .i64) 1 w v l) (h' : Rd (encI .i64) 1 w u m) :
    Calls Tryz.prog 14 #[v, u] w fun e w' => e = .returned (.bool (decide (l = m))) ∧ Below w.heap.size w w' := by
  have h0 := Lib.hid h
  have h0' := Lib.hid h'
  obtain ⟨a, cap, rfl, h1, h2, h3⟩ := h.shape
  obtain ⟨a', cap', rfl, h1', h2', h3'⟩ := h'.shape
  clear h h'
  by_cases hl : l.length = m.length
  · have HL := Lib.hid hl
    rw [hl] at h1 h3 h0 ⊢
    clear hl
    obtain ⟨n, hn⟩ : ∃ n, n = m.length := ⟨_, rfl⟩
    rw [← hn] at h1 h3 h0 h1' h3' h0' ⊢
    have HN := Lib.hid hn
    clear hn
    go_enter Tryz.func14, Tryz.ntmps14
    go_wp2
    go_loopw [13] (fun i wr => ∃ k : Nat, k ≤ n ∧ i = .int .i64 k ∧ Hid (l.take k = m.take k) ∧ Below w.heap.size w wr) (fun i _ => n - (intOf i).toNat)
    case atStart => exact ⟨0, Nat.zero_le _, rfl, rfl, Below.refl _ _⟩
    case round =>
      obtain ⟨k, hk, rfl, hany, hb⟩ := hrel
      by_cases hlt : k < n
      · obtain ⟨x, hx⟩ : ∃ x, l[k]? = some x := ⟨_, List.getElem?_eq_getElem (by have := HL.out; have := HN.out; omega)⟩
        obtain ⟨y, hy⟩ : ∃ y, m[k]? = some y := ⟨_, List.getElem?_eq_getElem (by have := HN.out; omega)⟩
        obtain ⟨b, off, rfl, hbl, hc⟩ := h0.out.row (by rintro rfl; simp at hx)
        obtain ⟨b', off', rfl, hbl', hc'⟩ := h0'.out.row (by rintro rfl; simp at hy)
        have hck : wr.cell? ⟨b, off + k, none⟩ = some (.int .i64 x) := by rw [hb.cell hbl]; exact CellsAt.one (f := fun x => .int .i64 x) hc hx
        have hck' : wr.cell? ⟨b', off' + k, none⟩ = some (.int .i64 y) := by rw [hb.cell hbl']; exact CellsAt.one (f := fun x => .int .i64 x) hc' hy
        have hi : (k : Int) < n := by omega
        clear hc hc' h0 h0'
        have HT : Hid (l.take (k + 1) = l.take k ++ [x] ∧ m.take (k + 1) = m.take k ++ [y]) := ⟨take_snoc hx, take_snoc hy⟩
        have HNE : Hid (l = m → x = y) := fun e => by subst e; rw [hx] at hy; exact Option.some.inj hy
        clear hx hy
        by_cases hxy : x = y
        · subst hxy
          go_wp2
          go_quiet (fail)
          go_wp2
          go_roundw
          case rel => exact ⟨k + 1, by omega, by go_num, show _ = _ by rw [HT.out.1, HT.out.2, hany.out], below_drewN hb _⟩
          case measure => simp [intOf]; omega
        · have hxy' : (x == y) = false := by simpa using hxy
          have hxy'' : (x != y) = true := by simpa using hxy
          have HX := Lib.hid hxy
          clear hxy
          go_wp2
          go_quiet (fail)
          go_wp2
          go_ret
          refine ⟨ret_bool ?_, below_drewN hb _⟩
          rw [eq_comm, decide_eq_false_iff_not]
          exact fun e => HX.out (HNE.out e)
      · go_wp2
        go_ret
        refine ⟨ret_bool ?_, hb⟩
        rw [eq_comm, decide_eq_true_iff]
        have := hany.out
        rwa [List.take_of_length_le (by have := HL.out; have := HN.out; omega), List.take_of_length_le (by have := HN.out; omega)] at this
  · have hl' : ((l.length : Int) != m.length) = true := by simp; omega
    have HL := Lib.hid hl
    clear hl
    go_enter Tryz.func14, Tryz.ntmps14
    go_wp2
    go_ret
    refine ⟨ret_bool ?_, Below.refl _ _⟩
    rw [eq_comm, decide_eq_false_iff_not]
    intro e
    exact HL.out (by rw [e])
set_option maxHeartbeats 1600000 in
theorem sameInts_any (v u : Value) (l m : List Int) (w : World) (h : Rd (encI .i64) 1 w v l) (h' : Rd (encI .i64) 1 w u m) :
    Calls Tryz.prog 32 #[v, u] w fun e w' => e = .returned (.bool (decide (l = m))) ∧ Below w.heap.size w w' := by
  have h0 := Lib.hid h
  have h0' := Lib.hid h'
  obtain ⟨a, cap, rfl, h1, h2, h3⟩ := h.shape
  obtain ⟨a', cap', rfl, h1', h2', h3'⟩ := h'.shape
  clear h h'
  by_cases hl : l.length = m.length
  · have HL := Lib.hid hl
    rw [hl] at h1 h3 h0 ⊢
    clear hl
    obtain ⟨n, hn⟩ : ∃ n, n = m.length := ⟨_, rfl⟩
    rw [← hn] at h1 h3 h0 h1' h3' h0' ⊢
    have HN := Lib.hid hn
    clear hn
    go_enter Tryz.func32, Tryz.ntmps32
    go_wp2
    go_loopw [5] (fun i wr => ∃ k : Nat, k ≤ n ∧ i = .int .i64 k ∧ Hid (l.take k = m.take k) ∧ Below w.heap.size w wr) (fun i _ => n - (intOf i).toNat)
    case atStart => exact ⟨0, Nat.zero_le _, rfl, rfl, Below.refl _ _⟩
    case round =>
      obtain ⟨k, hk, rfl, hany, hb⟩ := hrel
      by_cases hlt : k < n
      · obtain ⟨x, hx⟩ : ∃ x, l[k]? = some x := ⟨_, List.getElem?_eq_getElem (by have := HL.out; have := HN.out; omega)⟩
        obtain ⟨y, hy⟩ : ∃ y, m[k]? = some y := ⟨_, List.getElem?_eq_getElem (by have := HN.out; omega)⟩
        obtain ⟨b, off, rfl, hbl, hc⟩ := h0.out.row (by rintro rfl; simp at hx)
        obtain ⟨b', off', rfl, hbl', hc'⟩ := h0'.out.row (by rintro rfl; simp at hy)
        have hck : wr.cell? ⟨b, off + k, none⟩ = some (.int .i64 x) := by rw [hb.cell hbl]; exact CellsAt.one (f := fun x => .int .i64 x) hc hx
        have hck' : wr.cell? ⟨b', off' + k, none⟩ = some (.int .i64 y) := by rw [hb.cell hbl']; exact CellsAt.one (f := fun x => .int .i64 x) hc' hy
        have hi : (k : Int) < n := by omega
        clear hc hc' h0 h0'
        have HT : Hid (l.take (k + 1) = l.take k ++ [x] ∧ m.take (k + 1) = m.take k ++ [y]) := ⟨take_snoc hx, take_snoc hy⟩
        have HNE : Hid (l = m → x = y) := fun e => by subst e; rw [hx] at hy; exact Option.some.inj hy
        clear hx hy
        by_cases hxy : x = y
        · subst hxy
          go_wp2
          go_quiet (fail)
          go_wp2
          go_roundw
          case rel => exact ⟨k + 1, by omega, by go_num, show _ = _ by rw [HT.out.1, HT.out.2, hany.out], below_drewN hb _⟩
          case measure => simp [intOf]; omega
        · have hxy' : (x == y) = false := by simpa using hxy
          have hxy'' : (x != y) = true := by simpa using hxy
          have HX := Lib.hid hxy
          clear hxy
          go_wp2
          go_quiet (fail)
          go_wp2
          go_ret
          refine ⟨ret_bool ?_, below_drewN hb _⟩
          rw [eq_comm, decide_eq_false_iff_not]
          exact fun e => HX.out (HNE.out e)
      · go_wp2
        go_ret
        refine ⟨ret_bool ?_, hb⟩
        rw [eq_comm, decide_eq_true_iff]
        have := hany.out
        rwa [List.take_of_length_le (by have := HL.out; have := HN.out; omega), List.take_of_length_le (by have := HN.out; omega)] at this
  · have hl' : ((l.length : Int) != m.length) = true := by simp; omega
    have HL := Lib.hid hl
    clear hl
    go_enter Tryz.func32, Tryz.ntmps32
    go_wp2
    go_ret
    refine ⟨ret_bool ?_, Below.refl _ _⟩
    rw [eq_comm, decide_eq_false_iff_not]
    intro e
    exact HL.out (by rw [e])
end Go.Proofs.YtkinhhkodaacjaaGreatDoor
namespace Go.Proofs.YtkinhhkodaacjaaGreatDoor
open Go.RowKit Go.Shelf
open Md

theorem rd_fifty (w : World) : Rd (encI .i64) 1 (w.alloc (.cells #[.int .i64 50, .int .i64 50, .int .i64 50, .int .i64 50] 3)) (.slice (some ⟨w.heap.size, 0, none⟩) 4 4) (List.replicate 4 50) :=
  Rd.new (enc := encI .i64) (encI_len .i64) [50, 50, 50, 50] (by simp)
theorem encMe_one (m : Me) : ∀ u ∈ encMe m, u.oneCell' = true := by
  intro u hu
  simp only [encMe, List.mem_cons, List.not_mem_nil, or_false] at hu
  rcases hu with rfl | rfl | rfl | rfl | rfl | rfl | rfl | rfl <;> rfl
theorem prn0 (w : World) : Prn w sc0 := ⟨good0 w, by simp [sc0], by simp [sc0], by simp [sc0], by simp [sc0], by simp [sc0]⟩
theorem print_scr0 : printS scr0 = emptyT := by
  unfold printS
  rw [← heads_rows, ← emptyT_eq]
  exact List.append_nil _
theorem print0_any (w : World) : Calls Tryz.prog 9 #[.agg zScr.toArray] w fun e w' => e = .returned (.string ⟨emptyT.toArray⟩) ∧ Below w.heap.size w w' := by
  have h := print_any sc0 w (prn0 w)
  rw [show sc0.k = scr0 from rfl, print_scr0] at h
  exact h
set_option maxRecDepth 100000 in
set_option maxHeartbeats 1600000 in
theorem begun_any (w : World) : Calls Tryz.prog 5 #[] w fun e w' => e = .returned (.bool true) ∧ Below w.heap.size w w' := by
  have HP : Hid (∀ w', Below w.heap.size w w' → (fun e w' => e = Ending.returned (.bool true) ∧ Below w.heap.size w w') (.returned (.bool true)) w') := fun w' h => ⟨rfl, h⟩
  generalize (fun e w' => e = Ending.returned (.bool true) ∧ Below w.heap.size w w') = POST at *
  go_enter Tryz.func5, Tryz.ntmps5
  go_wp2_with fail
  refine (plain_any w).mono ?_
  rintro e w1 ⟨⟨m, rfl, hg, hpl⟩, hb1⟩
  have HG := Lib.hid hg
  have HPL := Lib.hid hpl
  have HB1 := Lib.hid hb1
  clear hg hpl hb1
  change match Ending.returned (.tuple #[.agg (encMe m).toArray, .int .i64 0]), w1 with | _, _ => _
  go_upto_region 2 with ((with_reducible show wpList _ _ _ (Oper.mk none (Op.store 38 _ _) _ _ _ _ :: _) _ _); refine wpList_boxW W25 rfl rfl rfl (encMe m) rfl rfl (encMe_one m) rfl ?_; intro W2 hbx hbel hsz; have XM := Lib.hid hbx; have EM := Lib.hid hbel; clear hbx hbel hsz)
  have HG2 := Lib.hid (HG.out.below EM.out)
  have HB2 := Lib.hid (HB1.out.trans (EM.out.mono HB1.out.size))
  clear HG HB1 EM
  go_wp2_with ((with_reducible show wpList _ _ _ (Oper.mk (some 10) _ _ _ _ _ :: _) _ _); refine wpList_loadW W25 rfl rfl rfl (encMe m) rfl XM.out.list ?_)
  refine (clean0_any m W2 HG2.out HPL.out.1).mono ?_
  rintro e W3 ⟨⟨cs, rfl, hl, h1, h0, g, hg, hr⟩, hb3⟩
  have HB3 := Lib.hid (HB2.out.trans (hb3.mono HB2.out.size))
  rw [HPL.out.2.1] at hr
  have HR := Lib.hid hr
  have H0 := Lib.hid h0
  have H3 := Lib.hid hg
  clear hr h0 hg hb3 HB2 HG2 XM HPL
  go_upto_region 3 with ((with_reducible show wpList _ _ _ (Oper.mk none (Op.store 27 _ _) _ _ _ _ :: _) _ _); refine wpList_boxW W30 rfl rfl rfl cs rfl hl h1 rfl ?_; intro W4 hbx hbel hsz; have XS := Lib.hid hbx; have ES := Lib.hid hbel; clear hbx hbel hsz)
  have HB4 := Lib.hid (HB3.out.trans (ES.out.mono HB3.out.size))
  have HR4 := Lib.hid (HR.out.below ES.out)
  have c0 : W4.cell? ⟨W3.heap.size, 0, none⟩ = some (.int .i64 1) := XS.out.list0 H0.out
  have c3 : W4.cell? ⟨W3.heap.size, 3, none⟩ = some g := XS.out.list0 H3.out
  clear HB3 HR H0 H3 ES h1 hl
  generalize W3.heap.size = bs at *
  go_wp2_with fail
  refine (equalI_any _ _ _ _ _ (HR4.out.below (below1 _ _)) (rd_fifty W4)).mono ?_
  rintro e W5 ⟨rfl, hb5⟩
  have HB5 : Hid (Below w.heap.size w W5) := Lib.hid ((HB4.out.trans ((below1 W4 (.cells #[.int .i64 50, .int .i64 50, .int .i64 50, .int .i64 50] 3)).mono HB4.out.size)).trans (hb5.mono (by have := HB4.out.size; simp; omega)))
  rw [show decide (List.replicate (Int.toNat 4) (50 : Int) = List.replicate 4 50) = true from rfl]
  clear hb5 HB4 HR4 c0 c3 XS
  go_wp2_with fail
  refine (print0_any W5).mono ?_
  rintro e W6 ⟨rfl, hb6⟩
  have HB6 := Lib.hid (HB5.out.trans (hb6.mono HB5.out.size))
  clear hb6 HB5
  unfold emptyT
  go_wp2
  exact HP.out _ HB6.out
end Go.Proofs.YtkinhhkodaacjaaGreatDoor
