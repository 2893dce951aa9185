/- the document's Table. -/
import Derived.Test.YtjaaldeaknmmbaaD5
import Derived.Test.YtjaaldeaknmmbaaD3
import Derived.Test.YtjaaldeaknmmbaaS4
namespace Go.Proofs.Ytjaaldeaknmmbaa
open Go.RowKit Go.Shelf

theorem FL3 : Flat Try.prog 3 := ⟨⟨_, Try.underlying3, rfl⟩, by kernel_rfl⟩
theorem WN39 : Wide Try.prog 39 22 := ⟨⟨_, Try.underlying39, rfl⟩, by kernel_rfl⟩
theorem encN_one' (x : Sn) : ∀ u ∈ encN x, u.oneCell' = true := fun u hu => encS_one x u (List.mem_of_mem_drop hu)
/-- A snap's text in the table. -/
def txt (x : Sn) : List UInt8 := (([32] ++ decZ x.i) ++ [letC x.s]) ++ decZ x.t5
def rnd : List UInt8 := [114, 111, 117, 110, 100, 32]
def rowT (l : List Sn) (r : Int) : List UInt8 := (rnd ++ decZ r) ++ (ofR l r l.length).flatMap txt ++ [10]
def tblL (l : List Sn) (R : List Int) : List UInt8 := R.flatMap (rowT l)
def TablePost (l : List Sn) (w : World) (e : Ending) (w' : World) : Prop := (∃ R, IsRounds l R ∧ e = .returned (.string ⟨(tblL l R).toArray⟩)) ∧ Below w.heap.size w w'
def GoodT (x : Sn) : Prop := I64 x.r ∧ I64 x.i ∧ I64 x.s ∧ I64 x.t5
theorem txt_len {x : Sn} (h : GoodT x) : (txt x).length ≤ 42 := by
  have h1 := decZ_len h.2.1.1 h.2.1.2
  have h2 := decZ_len h.2.2.2.1 h.2.2.2.2
  simp [txt]; omega
theorem txts_len : ∀ (o : List Sn), (∀ x ∈ o, GoodT x) → (o.flatMap txt).length ≤ 42 * o.length
  | [], _ => by simp
  | x :: o, h => by
    have h1 := txt_len (h x (by simp))
    have h2 := txts_len o (fun y hy => h y (by simp [hy]))
    rw [List.flatMap_cons, List.length_append, List.length_cons]; omega
theorem ofR_good {l : List Sn} {r : Int} {k : Nat} (h : ∀ x ∈ l, GoodT x) : ∀ x ∈ ofR l r k, GoodT x := fun x hx => h x (List.mem_of_mem_take ((List.mem_filter.1 hx).1))
theorem rowT_len {l : List Sn} {r : Int} (h : ∀ x ∈ l, GoodT x) (hl : l.length ≤ 300) (hr : I64 r) : (rowT l r).length ≤ 12700 := by
  have h1 := txts_len (ofR l r l.length) (ofR_good h)
  have h2 := ofR_len l r l.length
  have h3 := decZ_len hr.1 hr.2
  have h4 : rnd.length = 6 := rfl
  unfold rowT
  simp only [List.length_append, List.length_cons, List.length_nil]
  omega
theorem flatMap_snoc {α β : Type} {l : List α} {k : Nat} {x : α} (f : α → List β) (h : l[k]? = some x) : (l.take (k + 1)).flatMap f = (l.take k).flatMap f ++ f x := by
  rw [take_snoc h, List.flatMap_append]; simp

set_option maxRecDepth 100000 in
set_option maxHeartbeats 3200000 in
theorem rtable_any (l : List Sn) (lv : Value) (w : World) (h : Snaps w lv l) (hl : l.length ≤ 300) (hi : ∀ x ∈ l, GoodT x) : Calls Try.prog 28 #[lv] w (TablePost l w) := by
  have HPO : Hid (∀ R w', Below w.heap.size w w' → IsRounds l R → TablePost l w (.returned (.string ⟨(tblL l R).toArray⟩)) w') := fun R w' hb hu => ⟨⟨R, hu, rfl⟩, hb⟩
  have HS := Lib.hid h
  have HGD := Lib.hid hi
  have HLL := Lib.hid hl
  have HRO := Lib.hid (rrounds_any l lv w h hl)
  have HRN : Hid (∀ r W, I64 r → Calls Try.prog 43 #[.int .i64 r] W fun e w' => e = .returned (.string ⟨(decZ r).toArray⟩) ∧ Below W.heap.size W w') := fun r W hr => rnum_any _ r W rfl hr.1 hr.2
  clear h hi
  generalize TablePost l w = POST at *
  go_enter Try.func28, Try.ntmps28
  go_wp2_with fail
  refine HRO.out.mono ?_
  rintro e w1 ⟨⟨v4, R, rfl, hr, hu, hrl⟩, hb1⟩
  have HR := Lib.hid hr
  have HU := Lib.hid hu
  have HB1 := Lib.hid hb1
  have HRG : Hid (∀ r ∈ R, I64 r) := fun r hr => by
    obtain ⟨x, hx, e⟩ := (hu.2 r).1 hr
    rw [← e]; exact (HGD.out x hx).1
  clear HRO hu hb1
  obtain ⟨a4, c4, hsv, r1, r2, r3⟩ := hr.shape
  obtain ⟨m, hm⟩ : ∃ m, R.length = m := ⟨_, rfl⟩
  rw [hm] at hsv r1 hrl
  have HM := Lib.hid hm
  have hm300 : m ≤ 300 := by omega
  subst hsv
  clear hm hr hrl
  have HBB : Hid (Below w1.heap.size w1 w1) := Below.refl _ _
  have HE0 : Hid (([] : List UInt8) = (R.take 0).flatMap (rowT l) ∧ ([] : List UInt8).length ≤ 12700 * 0) := ⟨rfl, Nat.le_refl _⟩
  go_wp2_with fail
  go_loopw [3, 5] (fun s i wr => ∃ (k : Nat) (T : List UInt8), k ≤ m ∧ i = .int .i64 k ∧ s = .string ⟨T.toArray⟩ ∧ Hid (T = (R.take k).flatMap (rowT l) ∧ T.length ≤ 12700 * k) ∧ Hid (Below w1.heap.size w1 wr)) (fun _ i _ => m - (intOf i).toNat)
  case atStart => exact ⟨0, [], Nat.zero_le _, rfl, rfl, HE0, HBB⟩
  case round =>
    clear HE0 HBB
    obtain ⟨k, T, hk, rfl, rfl, HT, HW⟩ := hrel
    obtain ⟨wo, rfl⟩ : ∃ wo : World, wo = wr := ⟨_, rfl⟩
    by_cases hlt : k < m
    · obtain ⟨r, hrk⟩ : ∃ r, R[k]? = some r := ⟨_, List.getElem?_eq_getElem (by rw [HM.out]; exact hlt)⟩
      obtain ⟨b4, off4, rfl, hb4, hc4⟩ := (HR.out.below HW.out).row (by rintro rfl; simp at hrk)
      have HC4 : Hid (∀ W, Below wo.heap.size wo W → W.cell? ⟨b4, off4 + k, none⟩ = some (.int .i64 r)) := fun W hW => by rw [hW.cell hb4]; exact CellsAt.one (f := Value.int .i64) hc4 hrk
      have c4a : wo.cell? ⟨b4, off4 + k, none⟩ = some (.int .i64 r) := HC4.out wo (Below.refl _ _)
      have hr64 : I64 r := HRG.out r (List.mem_of_getElem? hrk)
      have HR64 := Lib.hid hr64
      have HDL := Lib.hid (decZ_len hr64.1 hr64.2)
      have HRW := Lib.hid (rowT_len (r := r) HGD.out HLL.out hr64)
      have HSN := Lib.hid (flatMap_snoc (rowT l) hrk)
      have HNUM := Lib.hid (HRN.out r wo hr64)
      clear hc4 hrk hr64
      go_upto_region 6 with fail
      go_wp2_with fail
      refine HNUM.out.mono ?_
      rintro e wa ⟨rfl, hb⟩
      have HBA := Lib.hid hb
      have c4b : wa.cell? ⟨b4, off4 + k, none⟩ = some (.int .i64 r) := HC4.out wa hb
      have HRND := Lib.hid (rround_any l lv r wa ((((HS.out.below HB1.out).below HW.out).below hb)) HLL.out)
      clear hb c4a HNUM
      have HK12 : Hid (12700 * k ≤ 3810000) := by show _ ≤ _; omega
      go_wp2_with (first | ((with_reducible show wpList _ _ _ (Oper.mk (some 23) _ _ _ _ _ :: _) _ _); refine wpList_val rfl (exec_cat (x := rnd) (y := decZ r) rfl rfl rfl (by have := HDL.out; simp [rnd]; omega)) ?_) | ((with_reducible show wpList _ _ _ (Oper.mk (some 24) _ _ _ _ _ :: _) _ _); refine wpList_val rfl (exec_cat (x := T) (y := rnd ++ decZ r) rfl rfl rfl (by have := HDL.out; have := HT.out.2; have := HK12.out; simp [rnd]; omega)) ?_))
      refine HRND.out.mono ?_
      rintro e w2 ⟨⟨v6, rfl, ho⟩, hb⟩
      have HBW : Hid (Below wo.heap.size wo w2) := Lib.hid (HBA.out.trans (hb.mono HBA.out.size))
      have HOL := Lib.hid (ofR_len l r l.length)
      have HOG := Lib.hid (ofR_good (l := l) (r := r) (k := l.length) HGD.out)
      have HO : Hid (Snaps w2 v6 (ofR l r l.length)) := Lib.hid (Rd.of_owns (e := 41) (base := wa.heap.size) encS_len ho (by have := HOL.out; have := HLL.out; omega))
      have HROW : Hid (rowT l r = (rnd ++ decZ r) ++ (ofR l r l.length).flatMap txt ++ [10]) := rfl
      clear ho hb HRND HBA c4b
      generalize ofR l r l.length = O at *
      obtain ⟨a6, c6, hsv, q1, q2, q3⟩ := HO.out.shape
      obtain ⟨mo, hmo⟩ : ∃ mo, O.length = mo := ⟨_, rfl⟩
      rw [hmo] at hsv q1 q3
      have HMO := Lib.hid hmo
      have hmo300 : mo ≤ 300 := by have := HOL.out; have := HLL.out; omega
      subst hsv
      clear hmo HOL
      obtain ⟨T0, hT0⟩ : ∃ T0, T ++ (rnd ++ decZ r) = T0 := ⟨_, rfl⟩
      have HT0 : Hid (T0.length ≤ 12700 * k + 26) := by
        have h1 := HDL.out
        have h2 := HT.out.2
        show _ ≤ _
        rw [← hT0]
        simp [rnd]; omega
      have HTD := Lib.hid hT0
      rw [hT0]
      clear hT0
      have HBB : Hid (Below w2.heap.size w2 w2) := Below.refl _ _
      have HE0 : Hid (T0 = T0 ++ (O.take 0).flatMap txt ∧ T0.length ≤ 12700 * k + 26 + 42 * 0) := ⟨by simp, HT0.out⟩
      go_wp2_with fail
      go_loopw [3, 7] (fun s j wi => ∃ (jj : Nat) (S1 : List UInt8), jj ≤ mo ∧ j = .int .i64 jj ∧ s = .string ⟨S1.toArray⟩ ∧ Hid (S1 = T0 ++ (O.take jj).flatMap txt ∧ S1.length ≤ 12700 * k + 26 + 42 * jj) ∧ Hid (Below w2.heap.size w2 wi)) (fun _ j _ => mo - (intOf j).toNat)
      case atStart => exact ⟨0, T0, Nat.zero_le _, rfl, rfl, HE0, HBB⟩
      case round =>
        clear HE0 HBB
        obtain ⟨jj, S1, hj, rfl, rfl, HS1, HWI⟩ := hrel
        obtain ⟨wi, rfl⟩ : ∃ wi : World, wi = wr := ⟨_, rfl⟩
        by_cases hjl : jj < mo
        · obtain ⟨x, hx⟩ : ∃ x, O[jj]? = some x := ⟨_, List.getElem?_eq_getElem (by rw [HMO.out]; exact hjl)⟩
          obtain ⟨b6, off6, rfl, hb6, hc6⟩ := (HO.out.below HWI.out).row (by rintro rfl; simp at hx)
          have HC6 : Hid (∀ j u, (encN x)[j]? = some u → wi.cell? ⟨b6, off6 + jj * 23 + 1 + j, none⟩ = some u) := fun j u hu => by
            have := sn_at hc6 hx (1 + j) u (s_n x j u hu)
            rwa [show off6 + jj * 23 + (1 + j) = off6 + jj * 23 + 1 + j by omega] at this
          have hgx := HOG.out x (List.mem_of_getElem? hx)
          have HNI : Hid (∀ W, Calls Try.prog 43 #[.int .i64 x.i] W fun e w' => e = .returned (.string ⟨(decZ x.i).toArray⟩) ∧ Below W.heap.size W w') := fun W => HRN.out x.i W hgx.2.1
          have HNM : Hid (∀ W, Calls Try.prog 43 #[.int .i64 x.t5] W fun e w' => e = .returned (.string ⟨(decZ x.t5).toArray⟩) ∧ Below W.heap.size W w') := fun W => HRN.out x.t5 W hgx.2.2.2
          have HLE : Hid (∀ W, Calls Try.prog 44 #[.int .i64 x.s] W fun e w' => e = .returned (.string ⟨[letC x.s].toArray⟩) ∧ W = w') := fun W => rletter_any x.s W
          have HL1 : Hid (([32] : List UInt8).length + (decZ x.i).length ≤ 9223372036854775807) := by have := decZ_len hgx.2.1.1 hgx.2.1.2; show _ ≤ _; simp; omega
          have HL2 : Hid ((([32] : List UInt8) ++ decZ x.i).length + [letC x.s].length ≤ 9223372036854775807) := by have := decZ_len hgx.2.1.1 hgx.2.1.2; show _ ≤ _; simp; omega
          have HL3 : Hid (((([32] : List UInt8) ++ decZ x.i) ++ [letC x.s]).length + (decZ x.t5).length ≤ 9223372036854775807) := by have := decZ_len hgx.2.1.1 hgx.2.1.2; have := decZ_len hgx.2.2.2.1 hgx.2.2.2.2; show _ ≤ _; simp; omega
          have HL4 : Hid (S1.length + ((([32] ++ decZ x.i) ++ [letC x.s]) ++ decZ x.t5).length ≤ 9223372036854775807) := by have := txt_len hgx; unfold txt at this; have := HS1.out.2; show _ ≤ _; omega
          have HS2 : Hid (S1 ++ ((([32] ++ decZ x.i) ++ [letC x.s]) ++ decZ x.t5) = T0 ++ (O.take (jj + 1)).flatMap txt ∧ (S1 ++ ((([32] ++ decZ x.i) ++ [letC x.s]) ++ decZ x.t5)).length ≤ 12700 * k + 26 + 42 * (jj + 1)) := by
            have h1 := txt_len hgx
            have h2 := HS1.out.2
            refine ⟨?_, ?_⟩
            · rw [flatMap_snoc txt hx, ← List.append_assoc T0, ← HS1.out.1]; rfl
            · rw [List.length_append]; unfold txt at h1; omega
          clear hc6 hx hgx
          have hkk : k ≤ 300 := by omega
          go_upto_region 12 with (first
            | ((with_reducible show wpList _ _ _ (Oper.mk (some 41) _ _ _ _ _ :: _) _ _); refine wpList_loadW WN39 rfl rfl rfl (encN x) rfl HC6.out ?_)
            | ((with_reducible show wpList _ _ _ (Oper.mk none (Op.store 39 _ _) _ _ _ _ :: _) _ _); refine wpList_boxW WN39 rfl rfl rfl (encN x) rfl rfl (encN_one' x) rfl ?_; intro W6 hbx hbel hsz; have HBX := Lib.hid hbx; have HE := Lib.hid hbel; clear hbx hbel hsz))
          obtain ⟨bx, hbx⟩ : ∃ bx, wi.heap.size = bx := ⟨_, rfl⟩
          rw [hbx] at HBX
          try simp only [hbx]
          clear hbx
          have hS : Hid (Below w2.heap.size w2 W6.drew ∧ Blk W6.drew bx 39 (encN x).toArray) := Lib.hid ⟨(HWI.out.trans (HE.out.mono HWI.out.size)).drew, HBX.out.keep (Below.refl _ _).drew⟩
          clear HBX HE HWI HS1
          refine wp_region_held_drew (S := fun X => Hid (Below w2.heap.size w2 X ∧ Blk X bx 39 (encN x).toArray)) (by kernel_rfl) hS (fun hHeld => ?_)
          (refine takeW (i := 0) (v := ?_) rfl (by kernel_rfl) (by kernel_rfl) (by kernel_rfl) (fun _ _ _ h => h) (by rfl) (by assumption) ?_ ?_; rotate_left; (intro W hW; (try dsimp only at hW); go_simp; try with_reducible rfl); (try simp only [Act.put, List.setIfInBounds_toArray, List.set_cons_zero, List.set_cons_succ]))
          (refine takeW (i := 1) (v := ?_) rfl (by kernel_rfl) (by kernel_rfl) (by kernel_rfl) (fun _ _ _ h => h) (by rfl) (by assumption) ?_ ?_; rotate_left; (intro W hW; (try dsimp only at hW); go_simp; try with_reducible rfl); (try simp only [Act.put, List.setIfInBounds_toArray, List.set_cons_zero, List.set_cons_succ]))
          (refine takeW (i := 2) rfl (by kernel_rfl) (by kernel_rfl) (by kernel_rfl) (fun _ _ _ h => h) (by rfl) (by assumption) (fun W hW => exec_load1 FL3 rfl rfl (hW.out.2.cell 0)) ?_; (try simp only [Act.put, List.setIfInBounds_toArray, List.set_cons_zero, List.set_cons_succ]))
          (refine takeW (i := 5) (v := ?_) rfl (by kernel_rfl) (by kernel_rfl) (by kernel_rfl) (fun _ _ _ h => h) (by rfl) (by assumption) ?_ ?_; rotate_left; (intro W hW; (try dsimp only at hW); go_simp; try with_reducible rfl); (try simp only [Act.put, List.setIfInBounds_toArray, List.set_cons_zero, List.set_cons_succ]))
          (refine takeW (i := 6) rfl (by kernel_rfl) (by kernel_rfl) (by kernel_rfl) (fun _ _ _ h => h) (by rfl) (by assumption) (fun W hW => exec_load1 FL3 rfl rfl (hW.out.2.cell 1)) ?_; (try simp only [Act.put, List.setIfInBounds_toArray, List.set_cons_zero, List.set_cons_succ]))
          (refine takeW (i := 9) (v := ?_) rfl (by kernel_rfl) (by kernel_rfl) (by kernel_rfl) (fun _ _ _ h => h) (by rfl) (by assumption) ?_ ?_; rotate_left; (intro W hW; (try dsimp only at hW); go_simp; try with_reducible rfl); (try simp only [Act.put, List.setIfInBounds_toArray, List.set_cons_zero, List.set_cons_succ]))
          (refine takeW (i := 10) (v := ?_) rfl (by kernel_rfl) (by kernel_rfl) (by kernel_rfl) (fun _ _ _ h => h) (by rfl) (by assumption) ?_ ?_; rotate_left; (intro W hW; (try dsimp only at hW); go_simp; try with_reducible rfl); (try simp only [Act.put, List.setIfInBounds_toArray, List.set_cons_zero, List.set_cons_succ]))
          (refine takeW (i := 11) rfl (by kernel_rfl) (by kernel_rfl) (by kernel_rfl) (fun _ _ _ h => h) (by rfl) (by assumption) (fun W hW => exec_load1 FL3 rfl rfl (hW.out.2.cell 6)) ?_; (try simp only [Act.put, List.setIfInBounds_toArray, List.set_cons_zero, List.set_cons_succ]))
          refine takeC (i := 3) rfl (by kernel_rfl) (by rfl) (fun K hK => ?_)
          go_simp
          refine (HNI.out W6.drew).mono ?_
          rintro e Wa ⟨rfl, hb⟩
          have hF : Hid (Below w2.heap.size w2 Wa ∧ Blk Wa bx 39 (encN x).toArray) := Lib.hid ⟨hHeld.out.1.trans (hb.mono hHeld.out.1.size), hHeld.out.2.keep hb⟩
          clear hb hHeld
          refine hK.out _ _ hF (fun hHeld => ?_)
          clear hK K hF
          try simp only [Act.put, List.setIfInBounds_toArray, List.set_cons_zero, List.set_cons_succ]
          (refine takeW (i := 4) rfl (by kernel_rfl) (by kernel_rfl) (by kernel_rfl) (fun _ _ _ h => h) (by rfl) (by assumption) (fun W hW => exec_cat (x := [32]) (y := decZ x.i) rfl rfl rfl HL1.out) ?_; (try simp only [Act.put, List.setIfInBounds_toArray, List.set_cons_zero, List.set_cons_succ]))
          refine takeC (i := 7) rfl (by kernel_rfl) (by rfl) (fun K hK => ?_)
          go_simp
          refine (HLE.out Wa).mono ?_
          rintro e Wb ⟨rfl, hb⟩
          have hF : Hid (Below w2.heap.size w2 Wb ∧ Blk Wb bx 39 (encN x).toArray) := Lib.hid (by rw [← hb]; exact hHeld.out)
          clear hb hHeld
          refine hK.out _ _ hF (fun hHeld => ?_)
          clear hK K hF
          try simp only [Act.put, List.setIfInBounds_toArray, List.set_cons_zero, List.set_cons_succ]
          (refine takeW (i := 8) rfl (by kernel_rfl) (by kernel_rfl) (by kernel_rfl) (fun _ _ _ h => h) (by rfl) (by assumption) (fun W hW => exec_cat (x := [32] ++ decZ x.i) (y := [letC x.s]) rfl rfl rfl HL2.out) ?_; (try simp only [Act.put, List.setIfInBounds_toArray, List.set_cons_zero, List.set_cons_succ]))
          refine takeC (i := 12) rfl (by kernel_rfl) (by rfl) (fun K hK => ?_)
          go_simp
          refine (HNM.out Wb).mono ?_
          rintro e Wc ⟨rfl, hb⟩
          have hF : Hid (Below w2.heap.size w2 Wc ∧ Blk Wc bx 39 (encN x).toArray) := Lib.hid ⟨hHeld.out.1.trans (hb.mono hHeld.out.1.size), hHeld.out.2.keep hb⟩
          clear hb hHeld
          refine hK.out _ _ hF (fun hHeld => ?_)
          clear hK K hF
          try simp only [Act.put, List.setIfInBounds_toArray, List.set_cons_zero, List.set_cons_succ]
          (refine takeW (i := 13) rfl (by kernel_rfl) (by kernel_rfl) (by kernel_rfl) (fun _ _ _ h => h) (by rfl) (by assumption) (fun W hW => exec_cat (x := ([32] ++ decZ x.i) ++ [letC x.s]) (y := decZ x.t5) rfl rfl rfl HL3.out) ?_; (try simp only [Act.put, List.setIfInBounds_toArray, List.set_cons_zero, List.set_cons_succ]))
          (refine takeW (i := 14) rfl (by kernel_rfl) (by kernel_rfl) (by kernel_rfl) (fun _ _ _ h => h) (by rfl) (by assumption) (fun W hW => exec_cat (x := S1) (y := (([32] ++ decZ x.i) ++ [letC x.s]) ++ decZ x.t5) rfl rfl rfl HL4.out) ?_; (try simp only [Act.put, List.setIfInBounds_toArray, List.set_cons_zero, List.set_cons_succ]))
          (refine takeW (i := 15) (v := ?_) rfl (by kernel_rfl) (by kernel_rfl) (by kernel_rfl) (fun _ _ _ h => h) (by rfl) (by assumption) ?_ ?_; rotate_left; (intro W hW; (try dsimp only at hW); go_simp; try with_reducible rfl); (try simp only [Act.put, List.setIfInBounds_toArray, List.set_cons_zero, List.set_cons_succ]))
          refine wpAnyH_done (by kernel_rfl) ?_ _
          have HBF := Lib.hid hHeld.out.1
          clear hHeld HNI HNM HLE HC6
          go_wp2
          go_roundw
          case rel =>
            refine ⟨jj + 1, _, by omega, by go_num, rfl, ?_, HBF⟩
            show _ = _ ∧ _ ≤ _
            simpa using HS2.out
          case measure => simp [intOf]; omega
        · have hjm : jj = mo := by omega
          subst hjm
          have HFIN : Hid (S1 ++ [10] = (R.take (k + 1)).flatMap (rowT l) ∧ (S1 ++ [10]).length ≤ 12700 * (k + 1)) := by
            have h1 := HS1.out.1
            rw [List.take_of_length_le (by rw [HMO.out]; exact Nat.le_refl _)] at h1
            have h3 : S1 ++ [10] = (R.take (k + 1)).flatMap (rowT l) := by
              rw [HSN.out, ← HT.out.1, HROW.out, h1, ← HTD.out]; simp
            refine ⟨h3, ?_⟩
            have h4 := HRW.out
            rw [h3, HSN.out, ← HT.out.1, List.length_append]
            have := HT.out.2
            omega
          have hl1 := HS1.out.2
          have HLX : Hid (S1.length ≤ 5000000) := by show _ ≤ _; omega
          clear hl1
          go_wp2_with ((with_reducible show wpList _ _ _ (Oper.mk (some 58) _ _ _ _ _ :: _) _ _); refine wpList_val rfl (exec_cat (x := S1) (y := [10]) rfl rfl rfl (by have := HLX.out; simp; omega)) ?_)
          go_roundw
          case rel => exact ⟨k + 1, _, by omega, by go_num, rfl, HFIN.out, HW.out.trans ((HBW.out.trans (HWI.out.mono HBW.out.size)).mono HW.out.size)⟩
          case measure => simp [intOf]; omega
    · have hkm : k = m := by omega
      subst hkm
      have HFIN : Hid (T = tblL l R) := by
        have h1 := HT.out.1
        rw [List.take_of_length_le (by rw [HM.out]; exact Nat.le_refl _)] at h1
        exact h1
      have HPF := Lib.hid (HPO.out R wo (HB1.out.trans (HW.out.mono HB1.out.size)) HU.out)
      go_wp2
      rw [← HFIN.out] at HPF
      exact HPF.out
end Go.Proofs.Ytjaaldeaknmmbaa
