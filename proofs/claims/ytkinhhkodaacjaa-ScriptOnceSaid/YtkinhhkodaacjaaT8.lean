/- The document's truths; the program's Same. -/
import Derived.Test.YtkinhhkodaacjaaT7
namespace Go.Proofs.Ytkinhhkodaacjaa
open Go.RowKit Go.Shelf
open Md

theorem b2i_map_inj {l m : List Bool} : l.map b2i = m.map b2i ↔ l = m := by
  constructor
  · intro h
    induction l generalizing m with
    | nil => cases m with
      | nil => rfl
      | cons y m => cases h
    | cons x l ih => cases m with
      | nil => cases h
      | cons y m =>
        simp only [List.map_cons, List.cons.injEq] at h
        rw [ih h.2]
        have : x = y := by cases x <;> cases y <;> simp_all [b2i]
        rw [this]
  · rintro rfl; rfl
set_option maxRecDepth 100000 in
set_option maxHeartbeats 1600000 in
theorem rtruths_any (v : Value) (l : List Bool) (w : World) (h : Rd encB 1 w v l) (hl : l.length ≤ 16384) :
    Calls Try.prog 37 #[v] w fun e w' => (∃ a c, e = .returned (.slice a l.length c) ∧ Rd (encI .i64) 1 w' (.slice a l.length c) (l.map b2i)) ∧ Below w.heap.size w w' := by
  have HPO : Hid (∀ g w', Below w.heap.size w w' → w'.ownsRow w.heap.size 3 1 g l.length ((l.map b2i).map (Value.int .i64)) → (fun e w' => (∃ a c, e = Ending.returned (.slice a l.length c) ∧ Rd (encI .i64) 1 w' (.slice a l.length c) (l.map b2i)) ∧ Below w.heap.size w w') (.returned g) w') := fun g w' hb hg => by
    obtain ⟨a, c, rfl, -⟩ := owns_shape hg
    exact ⟨⟨_, _, rfl, Rd.of_owns (e := 3) (base := w.heap.size) (encI_len .i64) (by rw [encI_flat, List.length_map]; exact hg) (by simp; omega)⟩, hb⟩
  generalize (fun e w' => (∃ a c, e = Ending.returned (.slice a l.length c) ∧ Rd (encI .i64) 1 w' (.slice a l.length c) (l.map b2i)) ∧ Below w.heap.size w w') = POST at *
  have HV := Lib.hid h
  obtain ⟨ad, c, rfl, q1, q2, q3⟩ := h.shape
  clear h
  obtain ⟨n, hn⟩ : ∃ n, l.length = n := ⟨_, rfl⟩
  have HN := Lib.hid hn
  rw [hn] at HPO hl q1 q3 HV ⊢
  clear hn
  go_enter Try.func37, Try.ntmps37
  go_wp2_with fail
  go_loopw [3, 4] (fun u i wr => ∃ k : Nat, k ≤ n ∧ i = .int .i64 k ∧ Hid (wr.ownsRow w.heap.size 3 1 u k (((l.take k).map b2i).map (Value.int .i64))) ∧ Hid (Below w.heap.size w wr)) (fun _ i _ => n - (intOf i).toNat)
  case atStart => exact ⟨0, Nat.zero_le _, rfl, World.ownsRow_nil _ _ _ _, Below.refl _ _⟩
  case round =>
    obtain ⟨k, hk, rfl, HO, HW⟩ := hrel
    by_cases hlt : k < n
    · obtain ⟨x, hx⟩ : ∃ x, l[k]? = some x := ⟨_, List.getElem?_eq_getElem (by rw [HN.out]; exact hlt)⟩
      have HT : Hid (((l.take (k + 1)).map b2i).map (Value.int .i64) = ((l.take k).map b2i).map (Value.int .i64) ++ [.int .i64 (b2i x)]) := by show _ = _; rw [take_snoc hx]; simp
      obtain ⟨b, off, rfl, hbl, hc⟩ := (HV.out.below HW.out).row (by rintro rfl; simp at hx)
      have c0 : wr.cell? ⟨b, off + k, none⟩ = some (.bool x) := CellsAt.one (f := fun x => .bool x) hc hx
      have hsz := HW.out.size
      clear hc hx
      cases x with
      | true =>
        go_wp2_with (at_builtin; refine wpList_app1 E3 rfl _ _ rfl HO.out [.int .i64 1] rfl (by simp [Value.oneCell']) rfl rfl (by omega) hsz ?_; intro v' w3 ho hg)
        go_roundw
        case rel => exact ⟨k + 1, by omega, by go_num, by rw [HT.out]; exact ho, below_app HW.out (Nat.le_refl _) HO.out hg hsz⟩
        case measure => simp [intOf]; omega
      | false =>
        go_wp2_with (at_builtin; refine wpList_app1 E3 rfl _ _ rfl HO.out [.int .i64 0] rfl (by simp [Value.oneCell']) rfl rfl (by omega) hsz ?_; intro v' w3 ho hg)
        go_roundw
        case rel => exact ⟨k + 1, by omega, by go_num, by rw [HT.out]; exact ho, below_app HW.out (Nat.le_refl _) HO.out hg hsz⟩
        case measure => simp [intOf]; omega
    · obtain rfl : n = k := by omega
      have HF1 := HO.out
      rw [List.take_of_length_le (by rw [HN.out]; omega)] at HF1
      have HF := Lib.hid HF1
      clear HF1
      clear HO
      go_wp2
      exact HPO.out _ _ HW.out HF.out
/-- Whether two scripts are the same. -/
def SameSc (x y : Sc) : Prop := x.rounds = y.rounds ∧ x.ups.l = y.ups.l ∧ x.offs.l = y.offs.l ∧ x.gates.l = y.gates.l ∧ x.guards.l = y.guards.l ∧ x.drifts.l = y.drifts.l ∧ x.ops.map Ho.key = y.ops.map Ho.key ∧ x.faults = y.faults
instance (x y : Sc) : Decidable (SameSc x y) := by unfold SameSc; exact inferInstance
theorem same_refl (x : Sc) : SameSc x x := ⟨rfl, rfl, rfl, rfl, rfl, rfl, rfl, rfl⟩
/-- The two boxes. -/
structure SB2 (x y : Sc) (w X : World) : Prop where
  bel : Below w.heap.size w X
  gx : GoodSc X x
  gy : GoodSc X y
  bx : Blk X w.heap.size 30 (encSc x).toArray
  by' : Blk X (w.heap.size + 1) 30 (encSc y).toArray
theorem SB2.keep {x y : Sc} {w X Y : World} (h : SB2 x y w X) (hb : Below X.heap.size X Y) : SB2 x y w Y := ⟨h.bel.trans (hb.mono h.bel.size), h.gx.below hb, h.gy.below hb, h.bx.keep hb, h.by'.keep hb⟩
set_option maxRecDepth 100000 in
set_option maxHeartbeats 1600000 in
theorem sameSc_any (x y : Sc) (w : World) (hx : GoodSc w x) (hy : GoodSc w y) :
    Calls Try.prog 19 #[.agg (encSc x).toArray, .agg (encSc y).toArray] w fun e w' => e = .returned (.bool (decide (SameSc x y))) ∧ Below w.heap.size w w' := by
  have HP : Hid (∀ b w', (b = true ↔ SameSc x y) → Below w.heap.size w w' → (fun e w' => e = Ending.returned (.bool (decide (SameSc x y))) ∧ Below w.heap.size w w') (.returned (.bool b)) w') := fun b w' hb h => ⟨by rw [show decide (SameSc x y) = b from by cases b <;> simp_all], h⟩
  have HK : Hid (SameSc x y ↔ x.rounds = y.rounds ∧ x.ups.l = y.ups.l ∧ x.offs.l = y.offs.l ∧ x.gates.l = y.gates.l ∧ x.guards.l = y.guards.l ∧ x.drifts.l = y.drifts.l ∧ x.ops.map Ho.key = y.ops.map Ho.key ∧ x.faults = y.faults) := Iff.rfl
  generalize (fun e w' => e = Ending.returned (.bool (decide (SameSc x y))) ∧ Below w.heap.size w w') = POST at *
  have HS : Hid (SB2 x y w ((w.alloc (.cells (encSc x).toArray 30)).alloc (.cells (encSc y).toArray 30))) := Lib.hid (
    have hb := below2 w (.cells (encSc x).toArray 30) (.cells (encSc y).toArray 30)
    ⟨hb, hx.below hb, hy.below hb, (Blk.new' rfl : Blk _ _ _ _).alloc _, Blk.new' (by simp)⟩)
  clear hx hy
  go_enter Try.func19, Try.ntmps19
  go_upto_region 1 with fail
  change Code.wp _ _ _ _ ((w.alloc (.cells (encSc x).toArray 30)).alloc (.cells (encSc y).toArray 30))
  generalize ((w.alloc (.cells (encSc x).toArray 30)).alloc (.cells (encSc y).toArray 30)) = W0 at *
  have a0 : W0.cell? ⟨w.heap.size, 0, none⟩ = some (.int .i64 x.rounds) := HS.out.bx.list0 rfl
  have b0 : W0.cell? ⟨w.heap.size + 1, 0, none⟩ = some (.int .i64 y.rounds) := HS.out.by'.list0 rfl
  by_cases h0 : x.rounds = y.rounds
  rotate_left
  · have e0 : (x.rounds == y.rounds) = false := by simpa using h0
    have HN : Hid (¬ SameSc x y) := fun e => h0 e.1
    clear h0
    go_wp2
    exact HP.out _ _ ⟨fun e => (by cases e), fun e => absurd e HN.out⟩ HS.out.bel
  have e0 : (x.rounds == y.rounds) = true := by simpa using h0
  have H0 := Lib.hid h0
  clear h0
  have a1 : W0.cell? ⟨w.heap.size, 1, none⟩ = some (.slice x.ups.a x.ups.l.length x.ups.c) := HS.out.bx.list0 rfl
  have b1 : W0.cell? ⟨w.heap.size + 1, 1, none⟩ = some (.slice y.ups.a y.ups.l.length y.ups.c) := HS.out.by'.list0 rfl
  have HC := Lib.hid (equalB_any _ _ _ _ _ HS.out.gx.ups HS.out.gy.ups)
  have HQ : Hid (decide (x.ups.l = y.ups.l) = true ↔ x.ups.l = y.ups.l) := decide_eq_true_iff
  generalize decide (x.ups.l = y.ups.l) = bb at *
  go_wp2_with fail
  refine HC.out.mono ?_
  rintro e W1 ⟨rfl, hb⟩
  replace HS := Lib.hid (HS.out.keep hb)
  clear hb HC a1 b1 a0 b0 e0
  cases bb with
  | false =>
    have HN : Hid (¬ SameSc x y) := fun e => by have := HQ.out.2 e.2.1; cases this
    go_wp2
    exact HP.out _ _ ⟨fun e => (by cases e), fun e => absurd e HN.out⟩ HS.out.bel
  | true =>
    have H1 : Hid (x.ups.l = y.ups.l) := HQ.out.1 rfl
    clear HQ
    have a2 : W1.cell? ⟨w.heap.size, 2, none⟩ = some (.slice x.offs.a x.offs.l.length x.offs.c) := HS.out.bx.list0 rfl
    have b2 : W1.cell? ⟨w.heap.size + 1, 2, none⟩ = some (.slice y.offs.a y.offs.l.length y.offs.c) := HS.out.by'.list0 rfl
    have HC := Lib.hid (equalI_any _ _ _ _ _ HS.out.gx.offs.1 HS.out.gy.offs.1)
    have HQ : Hid (decide (x.offs.l = y.offs.l) = true ↔ x.offs.l = y.offs.l) := decide_eq_true_iff
    generalize decide (x.offs.l = y.offs.l) = bb at *
    go_wp2_with fail
    refine HC.out.mono ?_
    rintro e W2 ⟨rfl, hb⟩
    replace HS := Lib.hid (HS.out.keep hb)
    clear hb HC a2 b2
    cases bb with
    | false =>
      have HN : Hid (¬ SameSc x y) := fun e => by have := HQ.out.2 e.2.2.1; cases this
      go_wp2
      exact HP.out _ _ ⟨fun e => (by cases e), fun e => absurd e HN.out⟩ HS.out.bel
    | true =>
      have H2 : Hid (x.offs.l = y.offs.l) := HQ.out.1 rfl
      clear HQ
      have a3 : W2.cell? ⟨w.heap.size, 3, none⟩ = some (.slice x.gates.a x.gates.l.length x.gates.c) := HS.out.bx.list0 rfl
      have b3 : W2.cell? ⟨w.heap.size + 1, 3, none⟩ = some (.slice y.gates.a y.gates.l.length y.gates.c) := HS.out.by'.list0 rfl
      have HC := Lib.hid (equalI_any _ _ _ _ _ HS.out.gx.gates.1 HS.out.gy.gates.1)
      have HQ : Hid (decide (x.gates.l = y.gates.l) = true ↔ x.gates.l = y.gates.l) := decide_eq_true_iff
      generalize decide (x.gates.l = y.gates.l) = bb at *
      go_wp2_with fail
      refine HC.out.mono ?_
      rintro e W3 ⟨rfl, hb⟩
      replace HS := Lib.hid (HS.out.keep hb)
      clear hb HC a3 b3
      cases bb with
      | false =>
        have HN : Hid (¬ SameSc x y) := fun e => by have := HQ.out.2 e.2.2.2.1; cases this
        go_wp2
        exact HP.out _ _ ⟨fun e => (by cases e), fun e => absurd e HN.out⟩ HS.out.bel
      | true =>
        have H3 : Hid (x.gates.l = y.gates.l) := HQ.out.1 rfl
        clear HQ
        have a4 : W3.cell? ⟨w.heap.size, 4, none⟩ = some (.slice x.guards.a x.guards.l.length x.guards.c) := HS.out.bx.list0 rfl
        have b4 : W3.cell? ⟨w.heap.size + 1, 4, none⟩ = some (.slice y.guards.a y.guards.l.length y.guards.c) := HS.out.by'.list0 rfl
        have HC := Lib.hid (equalI_any _ _ _ _ _ HS.out.gx.guards.1 HS.out.gy.guards.1)
        have HQ : Hid (decide (x.guards.l = y.guards.l) = true ↔ x.guards.l = y.guards.l) := decide_eq_true_iff
        generalize decide (x.guards.l = y.guards.l) = bb at *
        go_wp2_with fail
        refine HC.out.mono ?_
        rintro e W4 ⟨rfl, hb⟩
        replace HS := Lib.hid (HS.out.keep hb)
        clear hb HC a4 b4
        cases bb with
        | false =>
          have HN : Hid (¬ SameSc x y) := fun e => by have := HQ.out.2 e.2.2.2.2.1; cases this
          go_wp2
          exact HP.out _ _ ⟨fun e => (by cases e), fun e => absurd e HN.out⟩ HS.out.bel
        | true =>
          have H4 : Hid (x.guards.l = y.guards.l) := HQ.out.1 rfl
          clear HQ
          have a5 : W4.cell? ⟨w.heap.size, 5, none⟩ = some (.slice x.drifts.a x.drifts.l.length x.drifts.c) := HS.out.bx.list0 rfl
          have b5 : W4.cell? ⟨w.heap.size + 1, 5, none⟩ = some (.slice y.drifts.a y.drifts.l.length y.drifts.c) := HS.out.by'.list0 rfl
          have HC := Lib.hid (equalI_any _ _ _ _ _ HS.out.gx.drifts.1 HS.out.gy.drifts.1)
          have HQ : Hid (decide (x.drifts.l = y.drifts.l) = true ↔ x.drifts.l = y.drifts.l) := decide_eq_true_iff
          generalize decide (x.drifts.l = y.drifts.l) = bb at *
          go_wp2_with fail
          refine HC.out.mono ?_
          rintro e W5 ⟨rfl, hb⟩
          replace HS := Lib.hid (HS.out.keep hb)
          clear hb HC a5 b5
          cases bb with
          | false =>
            have HN : Hid (¬ SameSc x y) := fun e => by have := HQ.out.2 e.2.2.2.2.2.1; cases this
            go_wp2
            exact HP.out _ _ ⟨fun e => (by cases e), fun e => absurd e HN.out⟩ HS.out.bel
          | true =>
            have H5 : Hid (x.drifts.l = y.drifts.l) := HQ.out.1 rfl
            clear HQ
            have a6 : W5.cell? ⟨w.heap.size, 6, none⟩ = some (.slice x.oa x.ops.length x.oc) := HS.out.bx.list0 rfl
            have b6 : W5.cell? ⟨w.heap.size + 1, 6, none⟩ = some (.slice y.oa y.ops.length y.oc) := HS.out.by'.list0 rfl
            have HC := Lib.hid (equalFn_any _ _ _ _ _ HS.out.gx.ops HS.out.gy.ops HS.out.gx.opg HS.out.gy.opg)
            have HQ : Hid (decide (x.ops.map Ho.key = y.ops.map Ho.key) = true ↔ x.ops.map Ho.key = y.ops.map Ho.key) := decide_eq_true_iff
            generalize decide (x.ops.map Ho.key = y.ops.map Ho.key) = bb at *
            go_wp2_with fail
            refine HC.out.mono ?_
            rintro e W6 ⟨rfl, hb⟩
            replace HS := Lib.hid (HS.out.keep hb)
            clear hb HC a6 b6
            cases bb with
            | false =>
              have HN : Hid (¬ SameSc x y) := fun e => by have := HQ.out.2 e.2.2.2.2.2.2.1; cases this
              go_wp2
              exact HP.out _ _ ⟨fun e => (by cases e), fun e => absurd e HN.out⟩ HS.out.bel
            | true =>
              have H6 : Hid (x.ops.map Ho.key = y.ops.map Ho.key) := HQ.out.1 rfl
              clear HQ
              have a7 : W6.cell? ⟨w.heap.size, 7, none⟩ = some (.slice x.fa x.faults.length x.fc) := HS.out.bx.list0 rfl
              have b7 : W6.cell? ⟨w.heap.size + 1, 7, none⟩ = some (.slice y.fa y.faults.length y.fc) := HS.out.by'.list0 rfl
              have HC := Lib.hid (equal_any _ _ _ _ _ HS.out.gx.faults HS.out.gy.faults)
              have HQ : Hid (decide (x.faults = y.faults) = true ↔ x.faults = y.faults) := decide_eq_true_iff
              generalize decide (x.faults = y.faults) = bb at *
              go_wp2_with fail
              refine HC.out.mono ?_
              rintro e W7 ⟨rfl, hb⟩
              replace HS := Lib.hid (HS.out.keep hb)
              clear hb HC a7 b7
              cases bb with
              | false =>
                have HN : Hid (¬ SameSc x y) := fun e => by have := HQ.out.2 e.2.2.2.2.2.2.2; cases this
                go_wp2
                exact HP.out _ _ ⟨fun e => (by cases e), fun e => absurd e HN.out⟩ HS.out.bel
              | true =>
                have H7 : Hid (x.faults = y.faults) := HQ.out.1 rfl
                clear HQ
                have HF : Hid (SameSc x y) := HK.out.2 ⟨H0.out, H1.out, H2.out, H3.out, H4.out, H5.out, H6.out, H7.out⟩
                go_wp2
                exact HP.out _ _ ⟨fun _ => HF.out, fun _ => rfl⟩ HS.out.bel
end Go.Proofs.Ytkinhhkodaacjaa
