/- The document's numbers of words. -/
import Derived.Test.YtkinhhkodaacjaaGreatDoorY2
namespace Go.Proofs.YtkinhhkodaacjaaGreatDoor
open Go.RowKit Go.Shelf

theorem numsS_snoc : ∀ {l : List (List UInt8)} {x : List UInt8} {vals : List Int} {v : Int}, numsS l = some vals → numS x = some v → numsS (l ++ [x]) = some (vals ++ [v])
  | [], x, vals, v, h, hx => by
    simp only [numsS, Option.some.injEq] at h
    subst h
    simp [numsS, hx]
  | w :: l, x, vals, v, h, hx => by
    unfold numsS at h
    cases hw : numS w with
    | none => rw [hw] at h; cases h
    | some n =>
      rw [hw] at h
      obtain ⟨vs, hv, rfl⟩ := Option.map_eq_some_iff.1 h
      rw [List.cons_append, numsS, hw]
      simp only
      rw [numsS_snoc hv hx]
      rfl
theorem numsS_bad : ∀ {l m : List (List UInt8)} {x : List UInt8}, numS x = none → numsS (l ++ x :: m) = none
  | [], m, x, h => by simp [numsS, h]
  | w :: l, m, x, h => by
    rw [List.cons_append, numsS]
    cases numS w with
    | none => rfl
    | some n => simp only; rw [numsS_bad h]; rfl
def NumsV (ws : List (List UInt8)) (w : World) (e : Ending) (w' : World) : Prop :=
  (∃ (v : Value) (b : Bool), e = .returned (.tuple #[v, .bool b]) ∧ (∀ ns, numsS ws = some ns → b = true ∧ w'.ownsRow w.heap.size 3 1 v ns.length (ns.map (.int .i64))) ∧ (numsS ws = none → b = false ∧ v = .slice none 0 0)) ∧ Below w.heap.size w w'
set_option maxRecDepth 100000 in
set_option maxHeartbeats 1600000 in
theorem rnumbers_any (ws : List (List UInt8)) (lv : Value) (w : World) (hw : Wds w lv ws) (hws : ∀ x ∈ ws, x.length ≤ 1000000000) (hl : ws.length ≤ 1000000000) :
    Calls Tryz.prog 50 #[lv] w (NumsV ws w) := by
  have HPB : Hid (∀ (w' : World), Below w.heap.size w w' → numsS ws = none → NumsV ws w (.returned (.tuple #[.slice none 0 0, .bool false])) w') := fun w' hb h => ⟨⟨_, false, rfl, fun n hn => (by rw [h] at hn; cases hn), fun _ => ⟨rfl, rfl⟩⟩, hb⟩
  have HPG : Hid (∀ (w' : World) (v : Value) (ns : List Int), Below w.heap.size w w' → numsS ws = some ns → w'.ownsRow w.heap.size 3 1 v ns.length (ns.map (.int .i64)) → NumsV ws w (.returned (.tuple #[v, .bool true])) w') := fun w' v ns hb h ho => ⟨⟨v, true, rfl, fun n hn => (by rw [h] at hn; cases hn; exact ⟨rfl, ho⟩), fun hn => (by rw [h] at hn; cases hn)⟩, hb⟩
  generalize NumsV ws w = POST at *
  have HW := Lib.hid hw
  have HWS := Lib.hid hws
  obtain ⟨la, lc, rfl, hlc, hlcm, hlen⟩ := hw.shape
  obtain ⟨q, hq⟩ : ∃ q, q = ws.length := ⟨_, rfl⟩
  rw [← hq] at hlc hlen HW hl ⊢
  have HQ := Lib.hid hq
  clear hw hws hq
  go_enter Tryz.func50, Tryz.ntmps50
  go_wp2
  go_loopw [4, 5] (fun u i wr => ∃ (j : Nat) (ns : List Int), j ≤ q ∧ i = .int .i64 (j : Int) ∧ Hid (numsS (ws.take j) = some ns ∧ ns.length = j) ∧ Hid (wr.ownsRow w.heap.size 3 1 u ns.length (ns.map (.int .i64))) ∧ Hid (Below w.heap.size w wr)) (fun _ i _ => q - (intOf i).toNat)
  case atStart => exact ⟨0, [], Nat.zero_le _, rfl, ⟨rfl, rfl⟩, World.ownsRow_nil _ _ _ _, Below.refl _ _⟩
  case round =>
    obtain ⟨j, ns, hjq, rfl, HN, HO, HB⟩ := hrel
    obtain ⟨wo, rfl⟩ : ∃ wo : World, wo = wr := ⟨_, rfl⟩
    obtain ⟨av, ac0, rfl, -⟩ := owns_shape HO.out
    by_cases hlt : j < q
    · obtain ⟨x, hx⟩ : ∃ x, ws[j]? = some x := ⟨_, List.getElem?_eq_getElem (by rw [← HQ.out]; exact hlt)⟩
      obtain ⟨bb, off, hba, hbl, hc⟩ := HW.out.row (by rintro rfl; simp at hx)
      subst hba
      have HC1 : Hid (wo.cell? ⟨bb, off + j, none⟩ = some (strV x)) := by
        show _ = _
        rw [HB.out.cell hbl]
        simpa using hc j x hx 0 _ rfl
      have HX := Lib.hid hx
      have hnum := Lib.hid (rnum46_any x wo (HWS.out x (List.mem_of_getElem? hx)))
      clear hx hc
      go_wp2_with (first | ((with_reducible show wpList _ _ _ (Oper.mk (some 18) _ _ _ _ _ :: _) _ _); refine wpList_val rfl (exec_load1 (v := strV x) FL9 rfl rfl HC1.out) ?_) | (go_at_call 78; refine (hnum.out).mono ?_))
      rintro e W2 ⟨⟨v, b, rfl, hg, hbad⟩, hb2⟩
      have HG := Lib.hid hg
      have HBD := Lib.hid hbad
      have HB2 := Lib.hid (HB.out.trans (hb2.mono HB.out.size))
      have HO2 := Lib.hid (ow_below HO.out hb2)
      have HL2 : Hid (ns.length = j) := HN.out.2
      clear hg hbad hb2 HO HB hnum HC1
      cases b with
      | false =>
        have HNN : Hid (numS x = none) := by
          show _ = _
          cases h : numS x with
          | none => rfl
          | some z => have := (HG.out z h).1; cases this
        have HRN : Hid (numsS ws = none) := by
          show _ = _
          obtain ⟨hk, e⟩ := List.getElem?_eq_some_iff.1 HX.out
          have hsp : ws = ws.take j ++ x :: ws.drop (j + 1) := by
            conv => lhs; rw [← List.take_append_drop j ws, List.drop_eq_getElem_cons hk, e]
          rw [hsp]
          exact numsS_bad HNN.out
        clear HG HBD HN
        go_wp2
        exact HPB.out _ HB2.out HRN.out
      | true =>
        obtain ⟨z, hz⟩ : ∃ z, numS x = some z := by
          cases h : numS x with
          | none => have := HBD.out h; cases this
          | some z => exact ⟨z, rfl⟩
        have hvz := (HG.out z hz).2
        subst hvz
        have HN2 : Hid (numsS (ws.take (j + 1)) = some (ns ++ [v]) ∧ (ns ++ [v]).length = j + 1) := ⟨by rw [take_snocB HX.out]; exact numsS_snoc HN.out.1 hz, by simp [HL2.out]⟩
        have HSZ : Hid (w.heap.size ≤ W2.heap.size) := HB2.out.size
        have hnl : ns.length ≤ 1000000000 := by rw [HL2.out]; omega
        clear hz HG HBD HN
        go_wp2_with (first | ((with_reducible show wpList _ _ _ (Oper.mk (some 26) _ _ _ _ _ :: _) _ _); refine wpList_val rfl (exec_oneI rfl rfl) ?_) | ((with_reducible show wpList _ _ _ (Oper.mk (some 27) _ _ _ _ _ :: _) _ _); refine wpList_app1 E67 rfl _ _ rfl HO2.out [.int .i64 v] rfl (by simp [Value.oneCell']) rfl rfl (by omega) HSZ.out ?_; intro v7 W5 ho5 hg5; have HO5 := Lib.hid ho5; have HB5 := Lib.hid (below_app HB2.out (Nat.le_refl _) HO2.out hg5 HSZ.out); clear ho5 hg5))
        go_roundw
        case rel => exact ⟨j + 1, ns ++ [v], by omega, by go_num, HN2, Lib.hid (by have := HO5.out; simpa using this), HB5⟩
        case measure => simp [intOf]; omega
    · obtain rfl : j = q := by omega
      have HRN : Hid (numsS ws = some ns) := by
        show _ = _
        have := HN.out.1
        rwa [List.take_of_length_le (by rw [← HQ.out]; exact Nat.le_refl _)] at this
      clear HN
      go_wp2
      exact HPG.out _ _ _ HB.out HRN.out HO.out
end Go.Proofs.YtkinhhkodaacjaaGreatDoor
