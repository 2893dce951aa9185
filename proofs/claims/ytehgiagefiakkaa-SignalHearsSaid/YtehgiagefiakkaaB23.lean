/- Contracts: Busy, of the program and of the document. -/
import Derived.Test.YtehgiagefiakkaaB17
import Derived.Test.YtehgiagefiakkaaB15
import Derived.Test.YtehgiagefiakkaaNe
import Derived.Test.YtehgiagefiakkaaNq
namespace Go.Proofs.Ytehgiagefiakkaa
open Go.RowKit Go.Shelf
open Sched (Sp bad)
open Sig

/-- When something strong is there, of the first k. -/
def busyTo (th : Int) (l : List Sg) (k : Nat) : List Sp := ((l.take k).filter (strong th)).map (·.sp)
theorem busyTo_succ {th : Int} {l : List Sg} {k : Nat} {s : Sg} (h : l[k]? = some s) : busyTo th l (k + 1) = if strong th s then busyTo th l k ++ [s.sp] else busyTo th l k := by
  have hk := (List.getElem?_eq_some_iff.1 h).1
  unfold busyTo
  rw [List.take_succ_eq_append_getElem hk, List.filter_append, (List.getElem?_eq_some_iff.1 h).2]
  cases hs : strong th s <;> simp [hs]
theorem busyTo_good {th : Int} {l : List Sg} {w : World} {v : Value} (h : Sgs w v l) (k : Nat) (hk : k ≤ l.length) : (busyTo th l k).length ≤ k ∧ ∀ s ∈ busyTo th l k, Nm.I64 s.1 ∧ Nm.I64 s.2 := by
  unfold busyTo
  refine ⟨?_, fun s hs => ?_⟩
  · rw [List.length_map]
    exact Nat.le_trans (List.length_filter_le _ _) (by rw [List.length_take]; omega)
  · obtain ⟨x, hx, rfl⟩ := List.mem_map.1 hs
    have hg := h.2 x (List.mem_of_mem_take (List.mem_filter.1 hx).1)
    exact ⟨hg.2.2.1, hg.2.2.2.1⟩
theorem blk6' {w : World} {b : Nat} {t : TypeId} {v0 v1 v2 v3 v4 v5 : Value} (h : Blk w b t #[v0, v1, v2, v3, v4, v5]) :
    w.cell? ⟨b, 0, none⟩ = some v0 ∧ w.cell? ⟨b, 1, none⟩ = some v1 ∧ w.cell? ⟨b, 2, none⟩ = some v2 ∧ w.cell? ⟨b, 3, none⟩ = some v3 ∧ w.cell? ⟨b, 4, none⟩ = some v4 ∧ w.cell? ⟨b, 5, none⟩ = some v5 :=
  ⟨h.cell 0, h.cell 1, h.cell 2, h.cell 3, h.cell 4, h.cell 5⟩

set_option maxRecDepth 100000 in
set_option maxHeartbeats 1600000 in
theorem busy_any (l : List Sg) (v : Value) (th : Int) (w : World) (h : Sgs w v l) (hl : l.length ≤ 1000) :
    Calls Try.prog 33 #[v, .int .i64 th] w fun e w' => (∃ v', e = .returned v' ∧ Nm.Spans w' v' (Nm.nrmE (busyTo th l l.length))) ∧ Below w.heap.size w w' := by
  have HS := Lib.hid h
  obtain ⟨a, c, rfl, -⟩ := h.1.shape
  have HB0 : Hid (busyTo th l 0 = []) := rfl
  have HB1 := Lib.hid (fun k s => @busyTo_succ th l k s)
  have HBG := Lib.hid (fun k hk => busyTo_good (th := th) h k hk)
  clear h
  generalize hbt : busyTo th l = bt' at *
  clear hbt
  generalize hn : l.length = n at *
  have HN := Lib.hid hn
  clear hn
  go_enter Try.func33, Try.ntmps33
  go_wp2_with fail
  go_loopw [5, 11] (fun u i wr => ∃ k : Nat, k ≤ n ∧ i = .int .i64 k ∧ Hid (wr.ownsRow w.heap.size 23 2 u (bt' k).length ((bt' k).flatMap Nm.encSp)) ∧ Hid (Below w.heap.size w wr)) (fun _ i _ => n - (intOf i).toNat)
  case atStart => exact ⟨0, Nat.zero_le _, rfl, by rw [HB0.out]; exact World.ownsRow_nil _ _ _ _, Below.refl _ _⟩
  case round =>
    obtain ⟨k, hk, rfl, HO, HW⟩ := hrel
    by_cases hlt : k < n
    · obtain ⟨s, hs⟩ : ∃ s, l[k]? = some s := ⟨_, List.getElem?_eq_getElem (by rw [HN.out]; exact hlt)⟩
      have HQ := Lib.hid (HB1.out k s hs)
      have hSg := HS.out.below HW.out
      have hgd := hSg.2 s (List.mem_of_getElem? hs)
      obtain ⟨hlen, -⟩ := HBG.out k hk
      obtain ⟨b, off, rfl, hbl, hc⟩ := hSg.1.row (by rintro rfl; simp at hs)
      obtain ⟨c0, c1, c2, c3, c4, c5⟩ := sg_cells hc hs
      have HST := Lib.hid (fun W (hW : Below wr.heap.size wr W) => strong_any s th W (hgd.below hW))
      unfold sgv at *
      clear hSg hgd hc hs
      obtain ⟨fr, ⟨f, t⟩, lv, nn, ba, bc, B⟩ := s
      simp only at c0 c1 c2 c3 c4 c5 HQ HST
      generalize B.length = L at *
      generalize strong _ _ = p at *
      have HX : Hid (Blk (wr.alloc (.cells #[.int .i64 fr, .int .i64 f, .int .i64 t, .int .i64 lv, .int .i64 nn, .slice ba L bc] 28)) wr.heap.size 28 #[.int .i64 fr, .int .i64 f, .int .i64 t, .int .i64 lv, .int .i64 nn, .slice ba L bc]) := (Blk.new' rfl : Blk _ _ _ _)
      have hal := below1 wr (.cells #[.int .i64 fr, .int .i64 f, .int .i64 t, .int .i64 lv, .int .i64 nn, .slice ba L bc] 28)
      have hst := HST.out _ hal
      go_wp2_with fail
      refine hst.mono ?_
      rintro e w1 ⟨rfl, hb⟩
      clear hst HST
      have hb1 := bt hal hb
      have HX1 := Lib.hid (HX.out.keep' hb)
      replace HO := Lib.hid (ow_below HO.out hb1)
      replace HW := Lib.hid (bt HW.out hb1)
      have hsz := HW.out.size
      cases p
      · have HQ2 : Hid (bt' (k + 1) = bt' k) := by show _ = _; rw [HQ.out]; simp
        clear HQ
        go_wp2
        go_roundw
        case rel => exact ⟨k + 1, by omega, by go_num, by rw [HQ2.out]; exact HO.out, HW⟩
        case measure => simp [intOf]; omega
      · have HQ2 : Hid (bt' (k + 1) = bt' k ++ [(f, t)]) := by show _ = _; rw [HQ.out]; simp
        obtain ⟨x0, x1, x2, x3, x4, x5⟩ := blk6' HX1.out
        have hz := HX1.out.lt
        clear HQ c0 c1 c2 c3 c4 c5 hb
        go_wp2_with (at_builtin; refine wpList_app1 Nm.E29 rfl _ _ rfl HO.out [.int .i64 f, .int .i64 t] rfl (Nm.cells2 rfl rfl) rfl rfl (by omega) hsz ?_; intro v' w3 ho hg)
        go_roundw
        case rel => exact ⟨k + 1, by omega, by go_num, by rw [HQ2.out, Nm.fm_snoc]; show World.ownsRow _ _ _ _ _ _ _; simpa using ho, below_app HW.out (Nat.le_refl _) HO.out hg hsz⟩
        case measure => simp [intOf]; omega
    · obtain rfl : n = k := by omega
      obtain ⟨hlen, hgood⟩ := HBG.out n (Nat.le_refl _)
      have hnm := Nm.norm_any (bt' n) _ wr (Nm.Spans.of_owns HO.out (by omega) hgood)
      have HNL := Lib.hid (Nm.nrmE_len hgood)
      have HNB := Lib.hid (@Nm.nrmE_bd (bt' n))
      have HER : Hid (Nm.errE (bt' n) ≠ 0 → Nm.nrmE (bt' n) = []) := fun h => by unfold Nm.errE at h; unfold Nm.nrmE; split at h <;> simp_all
      clear hgood
      obtain ⟨ao, co, rfl, -⟩ := owns_shape HO.out
      unfold Nm.NormPost at hnm
      generalize Nm.errE (bt' n) = er at *
      generalize hRE : Nm.nrmE (bt' n) = R at *
      have HRE := Lib.hid hRE
      clear hRE
      clear HB0 HB1 HBG
      go_wp2_with fail
      refine hnm.mono ?_
      rintro e w2 ⟨⟨v2, rfl, ho⟩, hb⟩
      have H2 : Hid (Nm.Spans w2 v2 R) := Nm.Spans.of_owns ho (by have := HNL.out; omega) (fun s hs => by have := HNB.out s hs; unfold Nm.I64; omega)
      clear ho hnm
      by_cases her : er = 0
      · subst her
        go_wp2
        go_ret
        exact ⟨⟨v2, rfl, by rw [HRE.out]; exact H2.out⟩, bt HW.out hb⟩
      · have hne : (er != 0) = true := by simpa using her
        have HR : Hid (R = []) := HER.out her
        clear her
        go_wp2
        go_ret
        exact ⟨⟨.slice none 0 0, rfl, by rw [HRE.out, HR.out]; exact ⟨none, 0, rfl, by simp, by simp, by simp, by simp, by simp, .inl rfl⟩⟩, bt HW.out hb⟩

set_option maxRecDepth 100000 in
set_option maxHeartbeats 1600000 in
theorem rbusy_any (l : List Sg) (v : Value) (th : Int) (w : World) (h : Sgs w v l) (hl : l.length ≤ 1000) :
    Calls Try.prog 34 #[v, .int .i64 th] w fun e w' => (∃ v', e = .returned v' ∧ Nm.Spans w' v' (Nm.nrmE (busyTo th l l.length))) ∧ Below w.heap.size w w' := by
  have HS := Lib.hid h
  obtain ⟨a, c, rfl, -⟩ := h.1.shape
  have HB0 : Hid (busyTo th l 0 = []) := rfl
  have HB1 := Lib.hid (fun k s => @busyTo_succ th l k s)
  have HBG := Lib.hid (fun k hk => busyTo_good (th := th) h k hk)
  clear h
  generalize hbt : busyTo th l = bt' at *
  clear hbt
  generalize hn : l.length = n at *
  have HN := Lib.hid hn
  clear hn
  go_enter Try.func34, Try.ntmps34
  go_wp2_with fail
  go_loopw [5, 6] (fun u i wr => ∃ k : Nat, k ≤ n ∧ i = .int .i64 k ∧ Hid (wr.ownsRow w.heap.size 23 2 u (bt' k).length ((bt' k).flatMap Nm.encSp)) ∧ Hid (Below w.heap.size w wr)) (fun _ i _ => n - (intOf i).toNat)
  case atStart => exact ⟨0, Nat.zero_le _, rfl, by rw [HB0.out]; exact World.ownsRow_nil _ _ _ _, Below.refl _ _⟩
  case round =>
    obtain ⟨k, hk, rfl, HO, HW⟩ := hrel
    by_cases hlt : k < n
    · obtain ⟨s, hs⟩ : ∃ s, l[k]? = some s := ⟨_, List.getElem?_eq_getElem (by rw [HN.out]; exact hlt)⟩
      have HQ := Lib.hid (HB1.out k s hs)
      have hSg := HS.out.below HW.out
      have hgd := hSg.2 s (List.mem_of_getElem? hs)
      obtain ⟨hlen, -⟩ := HBG.out k hk
      obtain ⟨b, off, rfl, hbl, hc⟩ := hSg.1.row (by rintro rfl; simp at hs)
      obtain ⟨c0, c1, c2, c3, c4, c5⟩ := sg_cells hc hs
      have HST := Lib.hid (fun W (hW : Below wr.heap.size wr W) => rstrong_any s th W (hgd.below hW))
      unfold sgv at *
      clear hSg hgd hc hs
      obtain ⟨fr, ⟨f, t⟩, lv, nn, ba, bc, B⟩ := s
      simp only at c0 c1 c2 c3 c4 c5 HQ HST
      generalize B.length = L at *
      generalize strong _ _ = p at *
      have hst := HST.out wr (Below.refl _ _)
      go_wp2_with fail
      refine hst.mono ?_
      rintro e w1 ⟨rfl, hb⟩
      clear hst HST
      have hb1 := hb
      replace HO := Lib.hid (ow_below HO.out hb1)
      replace HW := Lib.hid (bt HW.out hb1)
      have hsz := HW.out.size
      cases p
      · have HQ2 : Hid (bt' (k + 1) = bt' k) := by show _ = _; rw [HQ.out]; simp
        clear HQ
        go_wp2
        go_roundw
        case rel => exact ⟨k + 1, by omega, by go_num, by rw [HQ2.out]; exact HO.out, HW⟩
        case measure => simp [intOf]; omega
      · have HQ2 : Hid (bt' (k + 1) = bt' k ++ [(f, t)]) := by show _ = _; rw [HQ.out]; simp
        have c1' := keepCell hb1 c1
        have c2' := keepCell hb1 c2
        clear HQ c0 c1 c2 c3 c4 c5 hb
        go_wp2_with (at_builtin; refine wpList_app1 Nm.E29 rfl _ _ rfl HO.out [.int .i64 f, .int .i64 t] rfl (Nm.cells2 rfl rfl) rfl rfl (by omega) hsz ?_; intro v' w3 ho hg)
        go_roundw
        case rel => exact ⟨k + 1, by omega, by go_num, by rw [HQ2.out, Nm.fm_snoc]; show World.ownsRow _ _ _ _ _ _ _; simpa using ho, below_app HW.out (Nat.le_refl _) HO.out hg hsz⟩
        case measure => simp [intOf]; omega
    · obtain rfl : n = k := by omega
      obtain ⟨hlen, hgood⟩ := HBG.out n (Nat.le_refl _)
      have hnm := Nm.rnorm_any (bt' n) _ wr (Nm.Spans.of_owns HO.out (by omega) hgood) (by omega)
      have HNL := Lib.hid (Nm.nrmE_len hgood)
      have HNB := Lib.hid (@Nm.nrmE_bd (bt' n))
      have HER : Hid (Nm.errE (bt' n) ≠ 0 → Nm.nrmE (bt' n) = []) := fun h => by unfold Nm.errE at h; unfold Nm.nrmE; split at h <;> simp_all
      clear hgood
      obtain ⟨ao, co, rfl, -⟩ := owns_shape HO.out
      unfold Nm.NormPost at hnm
      generalize Nm.errE (bt' n) = er at *
      generalize hRE : Nm.nrmE (bt' n) = R at *
      have HRE := Lib.hid hRE
      clear hRE
      clear HB0 HB1 HBG
      go_wp2_with fail
      refine hnm.mono ?_
      rintro e w2 ⟨⟨v2, rfl, ho⟩, hb⟩
      have H2 : Hid (Nm.Spans w2 v2 R) := Nm.Spans.of_owns ho (by have := HNL.out; omega) (fun s hs => by have := HNB.out s hs; unfold Nm.I64; omega)
      clear ho hnm
      go_wp2
      go_ret
      exact ⟨⟨v2, rfl, by rw [HRE.out]; exact H2.out⟩, bt HW.out hb⟩
end Go.Proofs.Ytehgiagefiakkaa
