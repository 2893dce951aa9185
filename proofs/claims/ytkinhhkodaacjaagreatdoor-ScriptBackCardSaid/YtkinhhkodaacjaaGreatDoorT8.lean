/- Whether two operations of the host are the same; rows of them. The document's SameOps. The document's truths; the program's Same. -/
import Derived.Test.YtkinhhkodaacjaaGreatDoorT5
import Derived.Test.YtkinhhkodaacjaaGreatDoorK2
namespace Go.Proofs.YtkinhhkodaacjaaGreatDoor
open Go.RowKit Go.Shelf
open Md

theorem toList_inj {a b : ByteArray} (h : a.toList = b.toList) : a = b := by
  rw [ByteArray.toList_eq, ByteArray.toList_eq] at h
  obtain ⟨⟨a⟩⟩ := a
  obtain ⟨⟨b⟩⟩ := b
  simp only at h
  rw [h]
/-- Whether two rows of bytes are the same, by their strings. -/
theorem str_eq {B C : List Int} (hB : ∀ x ∈ B, 0 ≤ x ∧ x ≤ 255) (hC : ∀ x ∈ C, 0 ≤ x ∧ x ≤ 255) : ((strOfNums B).toList == (strOfNums C).toList) = decide (B = C) := by
  rw [Bool.eq_iff_iff, beq_iff_eq, decide_eq_true_iff]
  exact ⟨fun h => strOfNums_inj hB hC (toList_inj h), fun h => by rw [h]⟩
/-- What is seen of an operation. -/
structure Hk where
  (n r s k v : Int)
  d : List Int
deriving DecidableEq
def Ho.key (x : Ho) : Hk := ⟨x.n, x.r, x.s, x.k, x.v, x.d⟩
theorem keys_snoc {l m : List Ho} {k : Nat} {x y : Ho} (h : (l.take k).map Ho.key = (m.take k).map Ho.key) (hx : l[k]? = some x) (hy : m[k]? = some y) (e : x.key = y.key) : (l.take (k + 1)).map Ho.key = (m.take (k + 1)).map Ho.key := by
  rw [take_snoc hx, take_snoc hy, List.map_append, List.map_append, h]
  simp [e]
theorem keys_not {l m : List Ho} {k : Nat} {x y : Ho} (hx : l[k]? = some x) (hy : m[k]? = some y) (e : x.key ≠ y.key) : l.map Ho.key ≠ m.map Ho.key := fun h => by
  have := congrArg (·[k]?) h
  simp only [List.getElem?_map, hx, hy, Option.map_some, Option.some.injEq] at this
  exact e this
end Go.Proofs.YtkinhhkodaacjaaGreatDoor
namespace Go.Proofs.YtkinhhkodaacjaaGreatDoor
open Go.RowKit Go.Shelf
open Md

def z43 : Array Value := #[.int .i64 0, .int .i64 0, .int .i64 0, .int .i64 0, .int .i64 0, .slice none 0 0]
theorem exec_alloc43 {w : World} {o : Oper} {a : Act} (ho : o.op = .alloc 46) : (execOp a.eval o).run Tryz.prog w = .ok (.value (.pointer (some ⟨w.heap.size, 0, none⟩))) (w.alloc (.cells z43 46)) := by
  unfold execOp z43
  simp only [ho]
  go_simp
theorem Blk.row {w : World} {b : Nat} {t : TypeId} {old : Array Value} (h : Blk w b t old) (cs : Array Value) : Blk (w.setRow b cs) b t cs := setRow_heap w b old cs t (0, 0) h
theorem Blk.rowFar {w : World} {b g : Nat} {t : TypeId} {cs : Array Value} (h : Blk w b t cs) (hne : b ≠ g) (ds : Array Value) : Blk (w.setRow g ds) b t cs := (setRow_other w g b ds hne).trans h
theorem below_row {B : Nat} {a w : World} {g : Nat} (h : Below B a w) (hB : B ≤ w.heap.size) (hg : B ≤ g) (ds : Array Value) : Below B a (w.setRow g ds) := h.grown (grownRow w g ds) hB (fun k e => by cases e; exact hg)
set_option maxRecDepth 100000 in
set_option maxHeartbeats 1600000 in
theorem sameOps_any (v u : Value) (l m : List Ho) (w : World) (hv : Hos w v l) (hu : Hos w u m) (gv : ∀ x ∈ l, GoodH w x) (gu : ∀ x ∈ m, GoodH w x) :
    Calls Tryz.prog 34 #[v, u] w fun e w' => e = .returned (.bool (decide (l.map Ho.key = m.map Ho.key))) ∧ Below w.heap.size w w' := by
  have HP : Hid (∀ b w', (b = true ↔ l.map Ho.key = m.map Ho.key) → Below w.heap.size w w' → (fun e w' => e = Ending.returned (.bool (decide (l.map Ho.key = m.map Ho.key))) ∧ Below w.heap.size w w') (.returned (.bool b)) w') := fun b w' hb h => ⟨by rw [show decide (l.map Ho.key = m.map Ho.key) = b from by cases b <;> simp_all], h⟩
  generalize (fun e w' => e = Ending.returned (.bool (decide (l.map Ho.key = m.map Ho.key))) ∧ Below w.heap.size w w') = POST at *
  have HV := Lib.hid hv
  have HU := Lib.hid hu
  have GV := Lib.hid gv
  have GU := Lib.hid gu
  obtain ⟨a, cap, rfl, h1, h2, h3⟩ := hv.shape
  obtain ⟨a', cap', rfl, h1', h2', h3'⟩ := hu.shape
  clear hv hu gv gu
  by_cases hl : l.length = m.length
  · obtain ⟨n, hn⟩ : ∃ n, n = l.length := ⟨_, rfl⟩
    rw [← hl] at h1' h3' HU ⊢
    rw [← hn] at h1 h3 h1' h3' HV HU ⊢
    have HN := Lib.hid hn
    have HM := Lib.hid hl
    clear hn hl
    go_enter Tryz.func34, Tryz.ntmps34
    go_wp2
    go_loopw [5] (fun i wr => ∃ k : Nat, k ≤ n ∧ i = .int .i64 k ∧ Hid ((l.take k).map Ho.key = (m.take k).map Ho.key) ∧ Hid (Below w.heap.size w wr)) (fun i _ => n - (intOf i).toNat)
    case atStart => exact ⟨0, Nat.zero_le _, rfl, rfl, Below.refl _ _⟩
    case round =>
      obtain ⟨k, hk, rfl, HT, HW⟩ := hrel
      rename World => wo
      by_cases hlt : k < n
      · obtain ⟨x, hx⟩ : ∃ x, l[k]? = some x := ⟨_, List.getElem?_eq_getElem (by have := HN.out; omega)⟩
        obtain ⟨y, hy⟩ : ∃ y, m[k]? = some y := ⟨_, List.getElem?_eq_getElem (by have := HN.out; have := HM.out; omega)⟩
        obtain ⟨b, off, rfl, hbl, hc⟩ := (HV.out.below HW.out).row (by rintro rfl; simp at hx)
        obtain ⟨b', off', rfl, hbl', hc'⟩ := (HU.out.below HW.out).row (by rintro rfl; simp at hy)
        have HCX : Hid (∀ W, Below wo.heap.size wo W → ∀ j u, (encH x)[j]? = some u → W.cell? ⟨b, off + k * 6 + j, none⟩ = some u) := fun W hW => ho_at (hc.below hW hbl) hx
        have HCY : Hid (∀ W, Below wo.heap.size wo W → ∀ j u, (encH y)[j]? = some u → W.cell? ⟨b', off' + k * 6 + j, none⟩ = some u) := fun W hW => ho_at (hc'.below hW hbl') hy
        have HGX := Lib.hid ((GV.out x (List.mem_of_getElem? hx)).below HW.out)
        have HGY := Lib.hid ((GU.out y (List.mem_of_getElem? hy)).below HW.out)
        have HST : Hid (x.key = y.key → (l.take (k + 1)).map Ho.key = (m.take (k + 1)).map Ho.key) := fun e => keys_snoc HT.out hx hy e
        have HNO : Hid (x.key ≠ y.key → l.map Ho.key ≠ m.map Ho.key) := fun e => keys_not hx hy e
        have hlt2 : (k : Int) < (n : Int) := by omega
        clear hx hy hc hc' HT
        go_upto_region 6 with fail
        go_cut [6, 7] from 19 to 26 (fun p q wx => ∃ bx by', p = .pointer (some ⟨bx, 0, none⟩) ∧ q = .pointer (some ⟨by', 0, none⟩) ∧ Hid (Blk wx bx 46 (encH x).toArray) ∧ Hid (Blk wx by' 46 (encH y).toArray) ∧ Hid (Below wo.heap.size wo wx))
        case first =>
          refine wp_region_held_drew (S := fun X => Below wo.heap.size wo X) (by kernel_rfl) (Below.refl _ _).drew (fun hHeld => ?_)
          (refine takeW (i := 0) (v := ?_) rfl (by kernel_rfl) (by kernel_rfl) (by kernel_rfl) (fun _ _ _ h => h) (by rfl) (by assumption) ?_ ?_; rotate_left; (intro W hW; (try dsimp only at hW); go_simp; try with_reducible rfl); (try simp only [Act.put, List.setIfInBounds_toArray, List.set_cons_zero, List.set_cons_succ]))
          (refine takeW (i := 1) (v := ?_) rfl (by kernel_rfl) (by kernel_rfl) (by kernel_rfl) (fun _ _ _ h => h) (by rfl) (by assumption) ?_ ?_; rotate_left; (intro W hW; (try dsimp only at hW); go_simp; try with_reducible rfl); (try simp only [Act.put, List.setIfInBounds_toArray, List.set_cons_zero, List.set_cons_succ]))
          (refine takeW (i := 2) (v := ?_) rfl (by kernel_rfl) (by kernel_rfl) (by kernel_rfl) (fun _ _ _ h => h) (by rfl) (by assumption) ?_ ?_; rotate_left; (intro W hW; (try dsimp only at hW); go_simp; try with_reducible rfl); (try simp only [Act.put, List.setIfInBounds_toArray, List.set_cons_zero, List.set_cons_succ]))
          (refine takeW (i := 3) rfl (by kernel_rfl) (by kernel_rfl) (by kernel_rfl) (fun _ _ _ h => h) (by rfl) (by assumption) (fun W hW => exec_loadW W43 rfl rfl (cs := encH x) rfl (HCX.out _ hW)) ?_; (try simp only [Act.put, List.setIfInBounds_toArray, List.set_cons_zero, List.set_cons_succ]))
          (refine takeW (i := 4) (v := ?_) rfl (by kernel_rfl) (by kernel_rfl) (by kernel_rfl) (fun _ _ _ h => h) (by rfl) (by assumption) ?_ ?_; rotate_left; (intro W hW; (try dsimp only at hW); go_simp; try with_reducible rfl); (try simp only [Act.put, List.setIfInBounds_toArray, List.set_cons_zero, List.set_cons_succ]))
          (refine takeW (i := 5) (v := ?_) rfl (by kernel_rfl) (by kernel_rfl) (by kernel_rfl) (fun _ _ _ h => h) (by rfl) (by assumption) ?_ ?_; rotate_left; (intro W hW; (try dsimp only at hW); go_simp; try with_reducible rfl); (try simp only [Act.put, List.setIfInBounds_toArray, List.set_cons_zero, List.set_cons_succ]))
          (refine takeW (i := 6) (v := ?_) rfl (by kernel_rfl) (by kernel_rfl) (by kernel_rfl) (fun _ _ _ h => h) (by rfl) (by assumption) ?_ ?_; rotate_left; (intro W hW; (try dsimp only at hW); go_simp; try with_reducible rfl); (try simp only [Act.put, List.setIfInBounds_toArray, List.set_cons_zero, List.set_cons_succ]))
          (refine takeW (i := 7) rfl (by kernel_rfl) (by kernel_rfl) (by kernel_rfl) (fun _ _ _ h => h) (by rfl) (by assumption) (fun W hW => exec_loadW W43 rfl rfl (cs := encH y) rfl (HCY.out _ hW)) ?_; (try simp only [Act.put, List.setIfInBounds_toArray, List.set_cons_zero, List.set_cons_succ]))
          refine takeV2 (i := 8) (j := 9) rfl rfl (by kernel_rfl) (by rfl) (by rfl) (exec_alloc43 rfl) (hHeld.alloc hHeld.size _) (exec_alloc43 rfl) (hHeld.alloc hHeld.size _) ?_ ?_
          · (try simp only [Act.put, List.setIfInBounds_toArray, List.set_cons_zero, List.set_cons_succ])
            have hHeld : Below wo.heap.size wo (wo.drew.alloc (.cells z43 46)) := hHeld.alloc hHeld.size _
            refine takeV (i := 9) rfl (by kernel_rfl) (by rfl) (exec_alloc43 rfl) (hHeld.alloc hHeld.size _) ?_
            (try simp only [Act.put, List.setIfInBounds_toArray, List.set_cons_zero, List.set_cons_succ])
            have hHeld : Below wo.heap.size wo ((wo.drew.alloc (.cells z43 46)).alloc (.cells z43 46)) := hHeld.alloc hHeld.size _
            obtain ⟨px, hpx⟩ : ∃ p, p = wo.drew.heap.size := ⟨_, rfl⟩
            obtain ⟨py, hpy⟩ : ∃ p, p = (wo.drew.alloc (.cells z43 46)).heap.size := ⟨_, rfl⟩
            have HPX : Hid (Blk ((wo.drew.alloc (.cells z43 46)).alloc (.cells z43 46)) px 46 z43) := by show Blk _ _ _ _; rw [hpx]; exact (Blk.new' rfl : Blk _ _ _ _).alloc _
            have HPY : Hid (Blk ((wo.drew.alloc (.cells z43 46)).alloc (.cells z43 46)) py 46 z43) := by show Blk _ _ _ _; rw [hpy]; exact Blk.new' rfl
            have hne : px ≠ py := by rw [hpx, hpy]; simp
            have hlx : wo.heap.size ≤ px := by rw [hpx]; simp
            have hly : wo.heap.size ≤ py := by rw [hpy]; simp
            rw [← hpx, ← hpy]
            refine takeVs (i := 10) rfl (by kernel_rfl) (by rfl) (exec_storeW W43 rfl rfl rfl rfl (encH_one _) HPX.out rfl) (below_row hHeld hHeld.size hlx _) ?_
            replace HPY := Lib.hid (HPY.out.rowFar hne.symm (encH x).toArray)
            replace HPX := Lib.hid (HPX.out.row (encH x).toArray)
            have hHeld2 := below_row hHeld hHeld.size hlx (encH x).toArray
            clear hHeld
            generalize (((wo.drew.alloc (.cells z43 46)).alloc (.cells z43 46))).setRow px (encH x).toArray = w5 at *
            refine takeVs (i := 11) rfl (by kernel_rfl) (by rfl) (exec_storeW W43 rfl rfl rfl rfl (encH_one _) HPY.out rfl) (below_row hHeld2 hHeld2.size hly _) ?_
            replace HPX := Lib.hid (HPX.out.rowFar hne (encH y).toArray)
            replace HPY := Lib.hid (HPY.out.row (encH y).toArray)
            have hHeld3 := Lib.hid (below_row hHeld2 hHeld2.size hly (encH y).toArray)
            clear hHeld2
            generalize w5.setRow py (encH y).toArray = w6 at *
            skip
            refine wpAnyH_done (by kernel_rfl) ?_ _
            clear hpx hpy hne hlx hly
            go_wp2_with fail
            go_meet
            exact ⟨px, py, rfl, rfl, HPX, HPY, hHeld3⟩
          · (try simp only [Act.put, List.setIfInBounds_toArray, List.set_cons_zero, List.set_cons_succ])
            have hHeld : Below wo.heap.size wo (wo.drew.alloc (.cells z43 46)) := hHeld.alloc hHeld.size _
            refine takeV (i := 8) rfl (by kernel_rfl) (by rfl) (exec_alloc43 rfl) (hHeld.alloc hHeld.size _) ?_
            (try simp only [Act.put, List.setIfInBounds_toArray, List.set_cons_zero, List.set_cons_succ])
            have hHeld : Below wo.heap.size wo ((wo.drew.alloc (.cells z43 46)).alloc (.cells z43 46)) := hHeld.alloc hHeld.size _
            obtain ⟨px, hpx⟩ : ∃ p, p = (wo.drew.alloc (.cells z43 46)).heap.size := ⟨_, rfl⟩
            obtain ⟨py, hpy⟩ : ∃ p, p = wo.drew.heap.size := ⟨_, rfl⟩
            have HPX : Hid (Blk ((wo.drew.alloc (.cells z43 46)).alloc (.cells z43 46)) px 46 z43) := by show Blk _ _ _ _; rw [hpx]; exact Blk.new' rfl
            have HPY : Hid (Blk ((wo.drew.alloc (.cells z43 46)).alloc (.cells z43 46)) py 46 z43) := by show Blk _ _ _ _; rw [hpy]; exact (Blk.new' rfl : Blk _ _ _ _).alloc _
            have hne : px ≠ py := by rw [hpx, hpy]; simp
            have hlx : wo.heap.size ≤ px := by rw [hpx]; simp
            have hly : wo.heap.size ≤ py := by rw [hpy]; simp
            rw [← hpx, ← hpy]
            refine takeVs (i := 10) rfl (by kernel_rfl) (by rfl) (exec_storeW W43 rfl rfl rfl rfl (encH_one _) HPX.out rfl) (below_row hHeld hHeld.size hlx _) ?_
            replace HPY := Lib.hid (HPY.out.rowFar hne.symm (encH x).toArray)
            replace HPX := Lib.hid (HPX.out.row (encH x).toArray)
            have hHeld2 := below_row hHeld hHeld.size hlx (encH x).toArray
            clear hHeld
            generalize (((wo.drew.alloc (.cells z43 46)).alloc (.cells z43 46))).setRow px (encH x).toArray = w5 at *
            refine takeVs (i := 11) rfl (by kernel_rfl) (by rfl) (exec_storeW W43 rfl rfl rfl rfl (encH_one _) HPY.out rfl) (below_row hHeld2 hHeld2.size hly _) ?_
            replace HPX := Lib.hid (HPX.out.rowFar hne (encH y).toArray)
            replace HPY := Lib.hid (HPY.out.row (encH y).toArray)
            have hHeld3 := Lib.hid (below_row hHeld2 hHeld2.size hly (encH y).toArray)
            clear hHeld2
            generalize w5.setRow py (encH y).toArray = w6 at *
            skip
            refine wpAnyH_done (by kernel_rfl) ?_ _
            clear hpx hpy hne hlx hly
            go_wp2_with fail
            go_meet
            exact ⟨px, py, rfl, rfl, HPX, HPY, hHeld3⟩
        case rest =>
          rename World => wx
          obtain ⟨bx, by', rfl, rfl, HBX, HBY, HB3⟩ := hcut
          have HW2 := Lib.hid (HW.out.trans (HB3.out.mono HW.out.size))
          have HG1 := Lib.hid (HGX.out.below HB3.out)
          have HG2 := Lib.hid (HGY.out.below HB3.out)
          clear HCX HCY HGX HGY HW HB3
          have HK : Hid (x.key = y.key ↔ x.n = y.n ∧ x.r = y.r ∧ x.s = y.s ∧ x.k = y.k ∧ x.v = y.v ∧ x.d = y.d) := by show _ ↔ _; unfold Ho.key; simp only [Hk.mk.injEq]
          have k1 := run_string_of (P := Tryz.prog) (w := wx) Tryz.underlying44 Tryz.underlying5 Tryz.underlying9 HG1.out.d
          have k2 := run_string_of (P := Tryz.prog) (w := wx) Tryz.underlying44 Tryz.underlying5 Tryz.underlying9 HG2.out.d
          have HSE := Lib.hid (str_eq HG1.out.d.2 HG2.out.d.2)
          have a0 : wx.cell? ⟨bx, 0, none⟩ = some (.int .i64 x.n) := HBX.out.list0 rfl
          have b0 : wx.cell? ⟨by', 0, none⟩ = some (.int .i64 y.n) := HBY.out.list0 rfl
          have a1 : wx.cell? ⟨bx, 1, none⟩ = some (.int .i64 x.r) := HBX.out.list0 rfl
          have b1 : wx.cell? ⟨by', 1, none⟩ = some (.int .i64 y.r) := HBY.out.list0 rfl
          have a2 : wx.cell? ⟨bx, 2, none⟩ = some (.int .i64 x.s) := HBX.out.list0 rfl
          have b2 : wx.cell? ⟨by', 2, none⟩ = some (.int .i64 y.s) := HBY.out.list0 rfl
          have a3 : wx.cell? ⟨bx, 3, none⟩ = some (.int .i64 x.k) := HBX.out.list0 rfl
          have b3 : wx.cell? ⟨by', 3, none⟩ = some (.int .i64 y.k) := HBY.out.list0 rfl
          have a4 : wx.cell? ⟨bx, 4, none⟩ = some (.int .i64 x.v) := HBX.out.list0 rfl
          have b4 : wx.cell? ⟨by', 4, none⟩ = some (.int .i64 y.v) := HBY.out.list0 rfl
          have a5 : wx.cell? ⟨bx, 5, none⟩ = some (.slice x.a x.d.length x.c) := HBX.out.list0 rfl
          have b5 : wx.cell? ⟨by', 5, none⟩ = some (.slice y.a y.d.length y.c) := HBY.out.list0 rfl
          have y1 := HBX.out.lt
          have y2 := HBY.out.lt
          clear HBX HBY HG1 HG2
          generalize strOfNums x.d = sx at *
          generalize strOfNums y.d = sy at *
          by_cases hn : x.n = y.n
          rotate_left
          · have en : (x.n != y.n) = true := by simpa using hn
            have HNE := Lib.hid (HNO.out (fun e => hn (by have := HK.out.1 e; simp only [this])))
            clear hn
            go_wp2
            exact HP.out _ _ ⟨fun e => (by cases e), fun e => absurd e HNE.out⟩ HW2.out
          have en : (x.n != y.n) = false := by simpa using hn
          have Hn := Lib.hid hn
          clear hn
          by_cases hr : x.r = y.r
          rotate_left
          · have er : (x.r != y.r) = true := by simpa using hr
            have HNE := Lib.hid (HNO.out (fun e => hr (by have := HK.out.1 e; simp only [this])))
            clear hr
            go_wp2
            exact HP.out _ _ ⟨fun e => (by cases e), fun e => absurd e HNE.out⟩ HW2.out
          have er : (x.r != y.r) = false := by simpa using hr
          have Hr := Lib.hid hr
          clear hr
          by_cases hs : x.s = y.s
          rotate_left
          · have es : (x.s != y.s) = true := by simpa using hs
            have HNE := Lib.hid (HNO.out (fun e => hs (by have := HK.out.1 e; simp only [this])))
            clear hs
            go_wp2
            exact HP.out _ _ ⟨fun e => (by cases e), fun e => absurd e HNE.out⟩ HW2.out
          have es : (x.s != y.s) = false := by simpa using hs
          have Hs := Lib.hid hs
          clear hs
          by_cases hk : x.k = y.k
          rotate_left
          · have ek : (x.k != y.k) = true := by simpa using hk
            have HNE := Lib.hid (HNO.out (fun e => hk (by have := HK.out.1 e; simp only [this])))
            clear hk
            go_wp2
            exact HP.out _ _ ⟨fun e => (by cases e), fun e => absurd e HNE.out⟩ HW2.out
          have ek : (x.k != y.k) = false := by simpa using hk
          have Hk := Lib.hid hk
          clear hk
          by_cases hv : x.v = y.v
          rotate_left
          · have ev : (x.v != y.v) = true := by simpa using hv
            have HNE := Lib.hid (HNO.out (fun e => hv (by have := HK.out.1 e; simp only [this])))
            clear hv
            go_wp2
            exact HP.out _ _ ⟨fun e => (by cases e), fun e => absurd e HNE.out⟩ HW2.out
          have ev : (x.v != y.v) = false := by simpa using hv
          have Hv := Lib.hid hv
          clear hv
          by_cases hd : x.d = y.d
          · have e5 : (sx.toList == sy.toList) = true := by rw [HSE.out]; exact decide_eq_true hd
            have e5' : (sx.toList != sy.toList) = false := by rw [bne, e5]; rfl
            have HT2 := Lib.hid (HST.out (HK.out.2 ⟨Hn.out, Hr.out, Hs.out, Hk.out, Hv.out, hd⟩))
            clear hd
            go_wp2
            go_roundw
            case rel => exact ⟨k + 1, by omega, by go_num, HT2, HW2⟩
            case measure => simp [intOf]; omega
          · have e5 : (sx.toList == sy.toList) = false := by rw [HSE.out]; exact decide_eq_false hd
            have e5' : (sx.toList != sy.toList) = true := by rw [bne, e5]; rfl
            have HNE := Lib.hid (HNO.out (fun e => hd (HK.out.1 e).2.2.2.2.2))
            clear hd
            go_wp2
            exact HP.out _ _ ⟨fun e => (by cases e), fun e => absurd e HNE.out⟩ HW2.out
      · obtain rfl : n = k := by omega
        have HE : Hid (l.map Ho.key = m.map Ho.key) := by
          have h := HT.out
          rw [List.take_of_length_le (by have := HN.out; omega), List.take_of_length_le (by have := HN.out; have := HM.out; omega)] at h
          exact h
        clear HT
        go_wp2
        exact HP.out _ _ ⟨fun _ => HE.out, fun _ => rfl⟩ HW.out
  · have hl' : ((l.length : Int) != m.length) = true := by simp; omega
    have HE : Hid (l.map Ho.key ≠ m.map Ho.key) := fun e => hl (by have := congrArg List.length e; simpa using this)
    clear hl
    go_enter Tryz.func34, Tryz.ntmps34
    go_wp2
    exact HP.out _ _ ⟨fun e => (by cases e), fun e => absurd e HE.out⟩ (Below.refl _ _)
end Go.Proofs.YtkinhhkodaacjaaGreatDoor
namespace Go.Proofs.YtkinhhkodaacjaaGreatDoor
open Go.RowKit Go.Shelf
open Md

/-- Whether two scripts are the same. -/
def SameSc (x y : Sc) : Prop := x.rounds = y.rounds ∧ x.ups.l = y.ups.l ∧ x.offs.l = y.offs.l ∧ x.gates.l = y.gates.l ∧ x.guards.l = y.guards.l ∧ x.drifts.l = y.drifts.l ∧ x.ops.map Ho.key = y.ops.map Ho.key ∧ x.faults = y.faults
instance (x y : Sc) : Decidable (SameSc x y) := by unfold SameSc; exact inferInstance
theorem same_refl (x : Sc) : SameSc x x := ⟨rfl, rfl, rfl, rfl, rfl, rfl, rfl, rfl⟩
/-- The two boxes. -/
structure SB2 (x y : Sc) (w X : World) : Prop where
  bel : Below w.heap.size w X
  gx : GoodSc X x
  gy : GoodSc X y
  bx : Blk X w.heap.size 27 (encSc x).toArray
  by' : Blk X (w.heap.size + 1) 27 (encSc y).toArray
theorem SB2.keep {x y : Sc} {w X Y : World} (h : SB2 x y w X) (hb : Below X.heap.size X Y) : SB2 x y w Y := ⟨h.bel.trans (hb.mono h.bel.size), h.gx.below hb, h.gy.below hb, h.bx.keep hb, h.by'.keep hb⟩
end Go.Proofs.YtkinhhkodaacjaaGreatDoor
