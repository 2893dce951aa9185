/- row: so many numbers, brought within limits; Precision. Precision. -/
import Derived.Test.YtkinhhkodaacjaaGreatDoorQ1
import Derived.Test.YtkinhhkodaacjaaGreatDoorR1
import Derived.Test.YtkinhhkodaacjaaGreatDoorLA
import Derived.Test.YtkinhhkodaacjaaGreatDoorM8
import Derived.Test.YtkinhhkodaacjaaGreatDoorF2
namespace Go.Proofs.YtkinhhkodaacjaaGreatDoor
open Go.RowKit

def inTo (a b x : Int) : Int := imin (imax x a) b
def rowL (l : List Int) (n : Nat) (a b z : Int) : List Int := (List.range n).map fun i => if h : i < l.length then inTo a b l[i] else z
/-- What row has so far. -/
def rowK (l : List Int) (n : Nat) (a b z : Int) (k : Nat) : List Int := (l.take k).map (inTo a b) ++ List.replicate (n - k) z
theorem rowK_zero (l : List Int) (n : Nat) (a b z : Int) : rowK l n a b z 0 = List.replicate n z := by simp [rowK]
theorem rowK_len (l : List Int) {n k : Nat} (a b z : Int) (h : k ≤ n) (h2 : k ≤ l.length) : (rowK l n a b z k).length = n := by simp [rowK]; omega
theorem rowK_set {l : List Int} {n k : Nat} {a b z x : Int} (hx : l[k]? = some x) (hk : k < n) : (rowK l n a b z k).set k (inTo a b x) = rowK l n a b z (k + 1) := by
  have hl := (List.getElem?_eq_some_iff.1 hx).1
  unfold rowK
  rw [take_snoc hx, List.map_append, List.set_append, if_neg (by simp; omega)]
  obtain ⟨q, hq⟩ : ∃ q, n - k = q + 1 := ⟨n - k - 1, by omega⟩
  rw [hq, show n - (k + 1) = q by omega, List.replicate_succ]
  simp [show min k l.length = k by omega]
theorem rowK_end (l : List Int) (n : Nat) (a b z : Int) : rowK l n a b z (min n l.length) = rowL l n a b z := by
  apply List.ext_getElem?
  intro i
  unfold rowK rowL
  by_cases hi : i < min n l.length
  · have h1 : i < n := by omega
    have h2 : i < l.length := by omega
    rw [List.getElem?_append_left (by simp; omega)]
    simp [h1, h2, show i < min n l.length by omega]
  · rw [List.getElem?_append_right (by simp; omega)]
    by_cases h1 : i < n
    · have h2 : ¬ i < l.length := by omega
      simp [h1, h2, List.getElem?_replicate]; omega
    · simp [h1, List.getElem?_replicate]; omega
theorem rowL_len (l : List Int) (n : Nat) (a b z : Int) : (rowL l n a b z).length = n := by simp [rowL]

set_option maxRecDepth 100000 in
set_option maxHeartbeats 1600000 in
theorem row_any (v : Value) (l : List Int) (n : Nat) (a b z : Int) (w : World) (h : Rd (encI .i64) 1 w v l) (hn : n ≤ 16384) :
    Calls Tryz.prog 38 #[v, .int .i64 (n : Int), .int .i64 a, .int .i64 b, .int .i64 z] w fun e w' => (∃ v', e = .returned v' ∧ w'.ownsRow w.heap.size 3 1 v' n ((rowL l n a b z).map (Value.int .i64))) ∧ Below w.heap.size w w' := by
  have HPO : Hid (∀ g w', Below w.heap.size w w' → w'.ownsRow w.heap.size 3 1 g n ((rowL l n a b z).map (Value.int .i64)) → (fun e w' => (∃ v', e = Ending.returned v' ∧ w'.ownsRow w.heap.size 3 1 v' n ((rowL l n a b z).map (Value.int .i64))) ∧ Below w.heap.size w w') (.returned g) w') := fun g w' hb hg => ⟨⟨_, rfl, hg⟩, hb⟩
  have HEND := Lib.hid (rowK_end l n a b z)
  have HB0 := Lib.hid (below1 w (.cells #[.int .i64 z] 3))
  have HZ0 : Hid ((w.alloc (.cells #[.int .i64 z] 3)).cell? ⟨w.heap.size, 0, none⟩ = some (.int .i64 z)) := by show _ = _; rw [World.cell?_alloc_at _ _ _ _ rfl]; rfl
  have HREP : Hid (Calls Tryz.prog 63 #[.slice (some ⟨w.heap.size, 0, none⟩) 1 1, .int .i64 (n : Int)] (w.alloc (.cells #[.int .i64 z] 3)) fun e w' => (∃ v', e = .returned v' ∧ w'.ownsRow (w.alloc (.cells #[.int .i64 z] 3)).heap.size 3 1 v' n (List.replicate n (.int .i64 z))) ∧ Below (w.alloc (.cells #[.int .i64 z] 3)).heap.size (w.alloc (.cells #[.int .i64 z] 3)) w') := Lib.hid (repI_any _ _ _ n _ HZ0.out rfl hn)
  generalize (fun e w' => (∃ v', e = Ending.returned v' ∧ w'.ownsRow w.heap.size 3 1 v' n ((rowL l n a b z).map (Value.int .i64))) ∧ Below w.heap.size w w') = POST at *
  have HV := Lib.hid h
  obtain ⟨ad, c, rfl, q1, q2, q3⟩ := h.shape
  obtain ⟨m, hm⟩ : ∃ m, l.length = m := ⟨_, rfl⟩
  have HM := Lib.hid hm
  rw [hm] at HEND ⊢
  obtain ⟨k0, hk0⟩ : ∃ k0, min n m = k0 := ⟨_, rfl⟩
  have HK0 : Hid (imin (n : Int) (m : Int) = (k0 : Int)) := by
    show imin _ _ = _
    rw [← hk0]; unfold imin; split <;> omega
  have hkn : k0 ≤ n := by omega
  have hkm : k0 ≤ m := by omega
  rw [hk0] at HEND
  clear h hm hk0 HZ0 q1 q2 q3
  go_enter Tryz.func38, Tryz.ntmps38
  go_wp2_with fail
  refine HREP.out.mono ?_
  rintro e w1 ⟨⟨v1, rfl, ho⟩, hb⟩
  have hs0 : (w.alloc (.cells #[.int .i64 z] 3)).heap.size = w.heap.size + 1 := by simp
  have HO1 : Hid (w1.ownsRow (w.heap.size + 1) 3 1 v1 n ((rowK l n a b z 0).map (Value.int .i64))) := by show World.ownsRow _ _ _ _ _ _ _; rw [rowK_zero, List.map_replicate, ← hs0]; exact ho
  have HB1 : Hid (Below w.heap.size w w1) := Lib.hid (HB0.out.trans (hb.mono HB0.out.size))
  clear HREP ho hb hs0 HB0
  obtain ⟨a1, c1, rfl, r1, r2, r3⟩ := owns_shape HO1.out
  have HR3 := Lib.hid r3
  clear r3
  go_wp2_with ((with_reducible show wpList _ _ _ (Oper.mk (some 20) _ _ _ _ _ :: _) _ _); refine wpList_min rfl rfl rfl rfl ?_; go_must (rw [HK0.out]))
  go_loopw [21] (fun i wr => ∃ k : Nat, k ≤ k0 ∧ i = .int .i64 k ∧ Hid (wr.ownsRow (w.heap.size + 1) 3 1 (.slice a1 n c1) n ((rowK l n a b z k).map (Value.int .i64))) ∧ Hid (Below w.heap.size w wr)) (fun i _ => k0 - (intOf i).toNat)
  case atStart => exact ⟨0, Nat.zero_le _, rfl, HO1, HB1⟩
  case round =>
    clear HO1 HB1
    obtain ⟨k, hk, rfl, HO, HW⟩ := hrel
    obtain ⟨wo, rfl⟩ : ∃ wo : World, wo = wr := ⟨_, rfl⟩
    by_cases hlt : k < k0
    · obtain ⟨x, hx⟩ : ∃ x, l[k]? = some x := ⟨_, List.getElem?_eq_getElem (by rw [HM.out]; omega)⟩
      obtain ⟨bb, off, rfl, hbl, hc⟩ := (HV.out.below HW.out).row (by rintro rfl; simp at hx)
      obtain ⟨g, rfl, hg1, hg2⟩ := HR3.out (by omega)
      have hkn2 : k < n := by omega
      have hkm2 : k < m := by omega
      have cs : wo.cell? ⟨bb, off + k, none⟩ = some (.int .i64 x) := CellsAt.one (f := Value.int .i64) hc hx
      have hlen : k < (rowK l n a b z k).length := by rw [rowK_len _ _ _ _ (by omega) (by rw [HM.out]; omega)]; omega
      obtain ⟨y, hy⟩ : ∃ y, (rowK l n a b z k)[k]? = some y := ⟨_, List.getElem?_eq_getElem hlen⟩
      have cd : wo.cell? ⟨g, k, none⟩ = some (.int .i64 y) := by rw [HO.out.cellAt k (by omega), List.getElem?_map, hy]; rfl
      have fd : wo.frozen? ⟨g, k, none⟩ = false := HO.out.frozenAt k
      have HO2 : Hid ((wo.setCell ⟨g, k, none⟩ (.int .i64 (inTo a b x))).ownsRow (w.heap.size + 1) 3 1 (.slice (some ⟨g, 0, none⟩) n c1) n ((rowK l n a b z (k + 1)).map (Value.int .i64))) := by
        have h := HO.out.stored k (.int .i64 (inTo a b x))
        rw [← List.map_set, rowK_set hx hkn2] at h
        exact h.1
      have HB2 : Hid (Below w.heap.size w (wo.setCell ⟨g, k, none⟩ (.int .i64 (inTo a b x)))) := Lib.hid (HW.out.setCell (p := ⟨g, k, none⟩) (by have := (HO.out.lt g rfl).1; show w.heap.size ≤ g; omega) _)
      clear hc hx hlen hy hbl hg1 hg2
      go_wp2_with (first | ((with_reducible show wpList _ _ _ (Oper.mk (some 31) _ _ _ _ _ :: _) _ _); refine wpList_max rfl rfl rfl rfl ?_) | ((with_reducible show wpList _ _ _ (Oper.mk (some 33) _ _ _ _ _ :: _) _ _); refine wpList_min rfl rfl rfl rfl ?_; go_must (rw [show imin (imax x a) b = inTo a b x from rfl])))
      go_roundw
      case rel => exact ⟨k + 1, by omega, by go_num, HO2, HB2⟩
      case measure => simp [intOf]; omega
    · have hkk : k = k0 := by omega
      subst hkk
      go_wp2
      exact HPO.out _ _ HW.out (by
        have := HO.out
        rw [HEND.out] at this
        exact ownsRow_mono this (by omega))
end Go.Proofs.YtkinhhkodaacjaaGreatDoor
namespace Go.Proofs.YtkinhhkodaacjaaGreatDoor
open Go.RowKit Go.Shelf
open Md

/-- What holds of a list that may be. -/
structure Bd (m : Me) : Prop where
  n0 : 4 ≤ m.nodes
  n1 : m.nodes ≤ 8
  g0 : 0 ≤ m.gap
  g1 : m.gap ≤ 1048576
  s0 : 0 ≤ m.slot
  s1 : m.slot ≤ 16777216
theorem okM_bd {m : Me} (h : okM m = true) : Bd m := by
  have ha := airTo_bd m m.ml.length
  rw [show airTo m m.ml.length = maxAir m from rfl] at ha
  unfold okM okCounts at h
  simp only [Bool.and_eq_true, decide_eq_true_eq] at h
  have hnd := @nd_bd m.nodes m.drift (by omega) (by omega) (by omega) (by omega)
  exact ⟨by omega, by omega, by omega, by omega, by omega, by omega⟩
def precM (m : Me) : Int := 14 * m.nodes * m.drift + 8
theorem okM_drift {m : Me} (h : okM m = true) : 0 ≤ m.drift ∧ m.drift ≤ 64 ∧ 4 ≤ m.nodes ∧ m.nodes ≤ 8 := by
  have hb := okM_bd h
  unfold okM at h
  simp only [Bool.and_eq_true, decide_eq_true_eq] at h
  exact ⟨h.1.2.1.1.1.1.1.1, h.1.2.1.1.1.1.1.2, hb.n0, hb.n1⟩
set_option maxRecDepth 100000 in
set_option maxHeartbeats 1600000 in
theorem prec_any (m : Me) (w : World) (h : GoodMe w m) : Calls Tryz.prog 36 #[.agg (encMe m).toArray] w fun e w' => e = .returned (.tuple (if okM m then #[.int .i64 (precM m), .int .i64 0] else #[.int .i64 0, .int .i64 70])) ∧ Below w.heap.size w w' := by
  have HPO : Hid (∀ t w', Below w.heap.size w w' → t = (if okM m then #[.int .i64 (precM m), .int .i64 0] else #[.int .i64 0, .int .i64 70]) → (fun e w' => e = Ending.returned (.tuple (if okM m then #[.int .i64 (precM m), .int .i64 0] else #[.int .i64 0, .int .i64 70])) ∧ Below w.heap.size w w') (.returned (.tuple t)) w') := fun t w' hb ht => ⟨by rw [ht], hb⟩
  generalize (fun e w' => e = Ending.returned (.tuple (if okM m then #[.int .i64 (precM m), .int .i64 0] else #[.int .i64 0, .int .i64 70])) ∧ Below w.heap.size w w') = POST at *
  have HB0 := Lib.hid (below1 w (.cells (encMe m).toArray 38))
  have HM0 : Hid (Blk (w.alloc (.cells (encMe m).toArray 38)) w.heap.size 38 (encMe m).toArray) := Blk.new' rfl
  have HCK : Hid (Calls Tryz.prog 61 #[.agg (encMe m).toArray] (w.alloc (.cells (encMe m).toArray 38)) fun e w' => e = .returned (.int .i64 (errM m)) ∧ Below (w.alloc (.cells (encMe m).toArray 38)).heap.size (w.alloc (.cells (encMe m).toArray 38)) w') := Lib.hid (mcheck_any m _ (h.below HB0.out))
  clear h
  go_enter Tryz.func36, Tryz.ntmps36
  go_upto_region 1 with fail
  change Code.wp _ _ _ _ (w.alloc (.cells (encMe m).toArray 38))
  generalize w.alloc (.cells (encMe m).toArray 38) = W0 at *
  by_cases ho : okM m = true
  · have he : errM m = 0 := by unfold errM; rw [if_pos ho]
    rw [he] at HCK
    have hd := okM_drift ho
    have HT : Hid ((#[Value.int .i64 (14 * m.nodes * m.drift + 8), Value.int .i64 0] : Array Value) = (if okM m then #[.int .i64 (precM m), .int .i64 0] else #[.int .i64 0, .int .i64 70])) := by show _ = _; rw [if_pos ho]; rfl
    have hb1 : 0 ≤ 14 * m.nodes * m.drift ∧ 14 * m.nodes * m.drift ≤ 7168 := by
      have h1 : 0 ≤ m.nodes * m.drift := Int.mul_nonneg (by omega) (by omega)
      have h2 : m.nodes * m.drift ≤ 8 * 64 := Int.mul_le_mul (by omega) (by omega) (by omega) (by omega)
      rw [Int.mul_assoc]; omega
    clear ho he
    go_wp2_with ((with_reducible show wpList _ _ _ (Oper.mk (some 5) _ _ _ _ _ :: _) _ _); refine wpList_loadW W25 rfl rfl rfl (encMe m) rfl HM0.out.list ?_)
    refine HCK.out.mono ?_
    rintro e w1 ⟨rfl, hb⟩
    have HB1 := Lib.hid (HB0.out.trans (hb.mono HB0.out.size))
    have HM1 := Lib.hid (HM0.out.keep hb)
    have c0 : w1.cell? ⟨w.heap.size, 0, none⟩ = some (.int .i64 m.nodes) := HM1.out.list0 rfl
    have c4 : w1.cell? ⟨w.heap.size, 4, none⟩ = some (.int .i64 m.drift) := HM1.out.list0 rfl
    have hw1 : IntKind.i64.wrap (14 * m.nodes) = 14 * m.nodes := IntWalk.i64_in _ (by omega)
    have hw2 : IntKind.i64.wrap (14 * m.nodes * m.drift) = 14 * m.nodes * m.drift := IntWalk.i64_in _ (by omega)
    have hw3 : IntKind.i64.wrap (14 * m.nodes * m.drift + 8) = 14 * m.nodes * m.drift + 8 := IntWalk.i64_in _ (by omega)
    clear hb hb1 hd HM0 HM1 HCK
    go_wp2
    exact HPO.out _ _ HB1.out HT.out
  · have he : errM m = 70 := by unfold errM; rw [if_neg ho]
    rw [he] at HCK
    have HT : Hid ((#[Value.int .i64 0, Value.int .i64 70] : Array Value) = (if okM m then #[.int .i64 (precM m), .int .i64 0] else #[.int .i64 0, .int .i64 70])) := by show _ = _; rw [if_neg ho]
    clear ho he
    go_wp2_with ((with_reducible show wpList _ _ _ (Oper.mk (some 5) _ _ _ _ _ :: _) _ _); refine wpList_loadW W25 rfl rfl rfl (encMe m) rfl HM0.out.list ?_)
    refine HCK.out.mono ?_
    rintro e w1 ⟨rfl, hb⟩
    have HB1 := Lib.hid (HB0.out.trans (hb.mono HB0.out.size))
    clear hb HM0 HCK
    go_wp2
    exact HPO.out _ _ HB1.out HT.out
end Go.Proofs.YtkinhhkodaacjaaGreatDoor
