/- truths, heads, rows. rows: the first lines, written into a printer. -/
import Derived.Test.YtkinhhkodaacjaaGreatDoorQ1
import Derived.Test.YtkinhhkodaacjaaGreatDoorR4
import Derived.Test.YtkinhhkodaacjaaGreatDoorR1
import Derived.Test.YtkinhhkodaacjaaGreatDoorLA
import Derived.Test.YtkinhhkodaacjaaGreatDoorMA
namespace Go.Proofs.YtkinhhkodaacjaaGreatDoor
open Go.RowKit Go.Shelf
open Md

def b2i (b : Bool) : Int := if b then 1 else 0
def trK (l : List Bool) (k : Nat) : List Int := (l.take k).map b2i ++ List.replicate (l.length - k) 0
theorem trK_step {l : List Bool} {k : Nat} {x : Bool} (h : l[k]? = some x) : (trK l k).set k (b2i x) = trK l (k + 1) := by
  have hl := (List.getElem?_eq_some_iff.1 h).1
  unfold trK
  rw [take_snoc h, List.map_append, List.set_append, if_neg (by simp; omega)]
  obtain ⟨q, hq⟩ : ∃ q, l.length - k = q + 1 := ⟨l.length - k - 1, by omega⟩
  rw [hq, show l.length - (k + 1) = q by omega, List.replicate_succ]
  simp [show min k l.length = k by omega]
theorem trK_same {l : List Bool} {k : Nat} (h : l[k]? = some false) : trK l k = trK l (k + 1) := by
  have h1 := trK_step h
  rw [← h1]
  have hl := (List.getElem?_eq_some_iff.1 h).1
  have h2 : (trK l k)[k]? = some 0 := by
    unfold trK
    rw [List.getElem?_append_right (by simp; omega)]
    simp [show min k l.length = k by omega, List.getElem?_replicate]; omega
  obtain ⟨h3, h4⟩ := List.getElem?_eq_some_iff.1 h2
  rw [show b2i false = (trK l k)[k] from h4.symm, List.set_getElem_self]
theorem trK_end (l : List Bool) : trK l l.length = l.map b2i := by simp [trK]
theorem trK_len (l : List Bool) {k : Nat} (h : k ≤ l.length) : (trK l k).length = l.length := by simp [trK]; omega
set_option maxRecDepth 100000 in
set_option maxHeartbeats 1600000 in
theorem truths_any (v : Value) (l : List Bool) (w : World) (h : Rd encB 1 w v l) (hl : l.length ≤ 16384) :
    Calls Tryz.prog 25 #[v] w fun e w' => (∃ v', e = .returned v' ∧ w'.ownsRow w.heap.size 3 1 v' l.length ((l.map b2i).map (Value.int .i64))) ∧ Below w.heap.size w w' := by
  have HPO : Hid (∀ g w', Below w.heap.size w w' → w'.ownsRow w.heap.size 3 1 g l.length ((l.map b2i).map (Value.int .i64)) → (fun e w' => (∃ v', e = Ending.returned v' ∧ w'.ownsRow w.heap.size 3 1 v' l.length ((l.map b2i).map (Value.int .i64))) ∧ Below w.heap.size w w') (.returned g) w') := fun g w' hb hg => ⟨⟨_, rfl, hg⟩, hb⟩
  generalize (fun e w' => (∃ v', e = Ending.returned v' ∧ w'.ownsRow w.heap.size 3 1 v' l.length ((l.map b2i).map (Value.int .i64))) ∧ Below w.heap.size w w') = POST at *
  obtain ⟨i0, hi0, hz0, hz1, hz2⟩ := info_parts (show (Tryz.prog.info? 3).map (fun i => (i.zero, i.size, i.bytes)) = some (some (.int .i64 0), 1, 8) by kernel_rfl)
  have HV := Lib.hid h
  have HEND := Lib.hid (trK_end l)
  have HTL := Lib.hid (fun k (hk : k ≤ l.length) => trK_len l hk)
  have HZ : Hid ((madeCells (Value.int .i64 0).cells (l.length * 1)).toList = (trK l 0).map (Value.int .i64)) := by
    show _ = _
    rw [Nat.mul_one, show (Value.int .i64 0).cells = #[Value.int .i64 0] from rfl, madeOne]
    simp [trK]
  obtain ⟨ad, c, rfl, q1, q2, q3⟩ := h.shape
  clear h
  obtain ⟨n, hn⟩ : ∃ n, l.length = n := ⟨_, rfl⟩
  have HN := Lib.hid hn
  rw [hn] at HEND HPO HTL HZ hl q1 ⊢
  clear hn
  go_enter Tryz.func25, Tryz.ntmps25
  go_wp2_with ((with_reducible show wpList _ _ _ (Oper.mk (some 8) _ _ _ _ _ :: _) _ _); refine wpList_make_full _ rfl _ _ 23 rfl w.heap.size 3 i0 (.int .i64 0) 1 Tryz.underlying23 hi0 hz0 hz1 _ _ _ _ n rfl rfl rfl rfl (by rw [hz2]; omega) (by unfold maxLen; omega) (Nat.le_refl _) ?_; intro w2 hown2 hgrow2; rw [HZ.out] at hown2; have HO2 := Lib.hid hown2; have HB2 : Hid (Below w.heap.size w w2) := Lib.hid ((Below.refl _ w).grown hgrow2 (Nat.le_refl _) (by intro k hk; cases hk)); clear hown2 hgrow2)
  go_loopw [11] (fun i wr => ∃ k : Nat, k ≤ n ∧ i = .int .i64 k ∧ Hid (wr.ownsRow w.heap.size 3 1 (.slice (some ⟨w.heap.size, 0, none⟩) n n) n ((trK l k).map (Value.int .i64))) ∧ Hid (Below w.heap.size w wr)) (fun i _ => n - (intOf i).toNat)
  case atStart => exact ⟨0, Nat.zero_le _, rfl, HO2, HB2⟩
  case round =>
    clear HO2 HB2
    obtain ⟨k, hk, rfl, HO, HW⟩ := hrel
    obtain ⟨wo, rfl⟩ : ∃ wo : World, wo = wr := ⟨_, rfl⟩
    by_cases hlt : k < n
    · obtain ⟨x, hx⟩ : ∃ x, l[k]? = some x := ⟨_, List.getElem?_eq_getElem (by rw [HN.out]; exact hlt)⟩
      obtain ⟨bb, off, rfl, hbl, hc⟩ := (HV.out.below HW.out).row (by rintro rfl; simp at hx)
      have cs : wo.cell? ⟨bb, off + k, none⟩ = some (.bool x) := CellsAt.one (f := Value.bool) hc hx
      have hlen : k < (trK l k).length := by rw [HTL.out k hk]; exact hlt
      obtain ⟨y, hy⟩ : ∃ y, (trK l k)[k]? = some y := ⟨_, List.getElem?_eq_getElem hlen⟩
      have cd : wo.cell? ⟨w.heap.size, k, none⟩ = some (.int .i64 y) := by rw [HO.out.cellAt k (by omega), List.getElem?_map, hy]; rfl
      have fd : wo.frozen? ⟨w.heap.size, k, none⟩ = false := HO.out.frozenAt k
      clear hc hlen hy hbl
      cases x with
      | true =>
        have HO2 : Hid ((wo.setCell ⟨w.heap.size, k, none⟩ (.int .i64 1)).ownsRow w.heap.size 3 1 (.slice (some ⟨w.heap.size, 0, none⟩) n n) n ((trK l (k + 1)).map (Value.int .i64))) := by
          have h := HO.out.stored k (.int .i64 1)
          have h2 := trK_step hx
          rw [show b2i true = 1 from rfl] at h2
          rw [← h2, List.map_set]
          exact h.1
        have HB2 : Hid (Below w.heap.size w (wo.setCell ⟨w.heap.size, k, none⟩ (.int .i64 1))) := Lib.hid (HW.out.setCell (p := ⟨w.heap.size, k, none⟩) (Nat.le_refl _) _)
        clear hx
        go_wp2
        go_roundw
        case rel => exact ⟨k + 1, by omega, by go_num, HO2, HB2⟩
        case measure => simp [intOf]; omega
      | false =>
        have HO2 : Hid (wo.ownsRow w.heap.size 3 1 (.slice (some ⟨w.heap.size, 0, none⟩) n n) n ((trK l (k + 1)).map (Value.int .i64))) := by
          rw [← trK_same hx]; exact HO.out
        clear hx
        go_wp2
        go_roundw
        case rel => exact ⟨k + 1, by omega, by go_num, HO2, HW⟩
        case measure => simp [intOf]; omega
    · have hkk : k = n := by omega
      subst hkk
      have HF := Lib.hid HO.out
      rw [HEND.out] at HF
      go_wp2
      exact HPO.out _ _ HW.out HF.out
/-- The words of the first lines. -/
def headsL : List (List UInt8) := [[114, 111, 117, 110, 100, 115], [117, 112, 115], [111, 102, 102, 115], [103, 97, 116, 101, 115], [103, 117, 97, 114, 100, 115], [100, 114, 105, 102, 116, 115]]
theorem heads_any (w : World) : Calls Tryz.prog 15 #[] w fun e w' => e = .returned (.slice (some ⟨w.heap.size, 0, none⟩) 6 6) ∧ w.alloc (.cells (headsL.map strV).toArray 9) = w' := by
  go_enter Tryz.func15, Tryz.ntmps15
  go_wp2
  go_ret
  exact ⟨rfl, rfl⟩
end Go.Proofs.YtkinhhkodaacjaaGreatDoor
namespace Go.Proofs.YtkinhhkodaacjaaGreatDoor
open Go.RowKit Go.Shelf
open Md

/-- Numbers in a row that a printer's writing does not touch. -/
def NumsK (B : Nat) (W : World) (v : Value) (l : List Int) : Prop := Nums W v l ∧ ∀ g o n c, v = .slice (some ⟨g, o, none⟩) n c → l ≠ [] → g < B ∨ ∃ cs, Blk W g 3 cs
theorem NumsK.keep {B b : Nat} {T : List UInt8} {W X w w1 : World} {v : Value} {l : List Int} (h : NumsK B W v l) (h0 : BI w B b w1 T W) (T' : List UInt8) (h1 : BI w B b W T' X) : NumsK B X v l := by
  refine ⟨⟨?_, h.1.2⟩, fun g o n c e hne => ?_⟩
  · obtain ⟨a, cap, rfl, q1, q2, q3, q5, q4⟩ := h.1.1
    refine ⟨a, cap, rfl, q1, q2, q3, q5, q4.imp id ?_⟩
    rintro ⟨g, off, rfl, hlt, hc⟩
    refine ⟨g, off, rfl, Nat.lt_of_lt_of_le hlt h1.sz, fun j x hj i u hu => ?_⟩
    have hblk : X.heap[g]? = W.heap[g]? := by
      rcases h.2 g off _ cap rfl (by rintro rfl; simp at hj) with hg | ⟨cs, hcs⟩
      · rw [h1.bel.block g hg, h0.bel.block g hg]
      · have hgb : g ≠ b := fun e => by
          subst e
          obtain ⟨cs', fz, hb⟩ := h0.bld.blk
          rw [show W.heap[g]? = _ from hcs] at hb; cases hb
        rw [h1.ok g _ hcs (by simpa using hgb) (fun c fz e => by cases e)]
        exact hcs.symm
    rw [World.cell?_of_block hblk]
    exact hc j x hj i u hu
  · rcases h.2 g o n c e hne with hg | ⟨cs, hcs⟩
    · exact .inl hg
    · refine .inr ⟨cs, ?_⟩
      have hgb : g ≠ b := fun e => by
        subst e
        obtain ⟨cs', fz, hb⟩ := h0.bld.blk
        rw [show W.heap[g]? = _ from hcs] at hb; cases hb
      exact h1.ok g _ hcs (by simpa using hgb) (fun c fz e => by cases e)
def rowsT (ws : List (List UInt8)) (ls : List (List Int)) : List UInt8 := (ws.zip ls).flatMap fun p => lineT p.1 p.2 ++ [10]
set_option maxRecDepth 100000 in
set_option maxHeartbeats 1600000 in
theorem rows_any (B b gw gl : Nat) (T : List UInt8) (ws : List (List UInt8)) (vs : List Value) (ls : List (List Int)) (w : World) (h : Bld B b T w) (hw : Blk w gw 9 (ws.map strV).toArray) (hl : Blk w gl 23 vs.toArray) (hvs : vs.length = ws.length) (hls : ls.length = ws.length) (hn : ws.length ≤ 8)
    (hv : ∀ (k : Nat) v l, vs[k]? = some v → ls[k]? = some l → NumsK B w v l ∧ l.length ≤ 16384) (hws : ∀ s ∈ ws, s.length ≤ 64) (hT : T.length ≤ 35184372088832) :
    Calls Tryz.prog 23 #[.pointer (some ⟨b, 0, none⟩), .func (.func 24) #[.pointer (some ⟨b, 0, none⟩)] #[], .slice (some ⟨gw, 0, none⟩) ws.length ws.length, .slice (some ⟨gl, 0, none⟩) ws.length ws.length] w fun e w' => e = .returned (.tuple #[]) ∧ BPost B b (T ++ rowsT ws ls) w w' := by
  have HPO : Hid (∀ w', BI w B b w (T ++ rowsT ws ls) w' → (fun e w' => e = Ending.returned (.tuple #[]) ∧ BPost B b (T ++ rowsT ws ls) w w') (.returned (.tuple #[])) w') := fun w' h => ⟨rfl, h.bld, h.bel, h.ok, h.sz⟩
  have HB0 : Hid (BI w B b w T w) := Lib.hid (BI.start h (Below.refl _ _))
  have hgwb : gw ≠ b := fun e => by
    subst e
    obtain ⟨cs', fz, hb⟩ := h.blk
    rw [show w.heap[gw]? = _ from hw] at hb; cases hb
  have hglb : gl ≠ b := fun e => by
    subst e
    obtain ⟨cs', fz, hb⟩ := h.blk
    rw [show w.heap[gl]? = _ from hl] at hb; cases hb
  have HW : Hid (∀ T' W, BI w B b w T' W → Blk W gw 9 (ws.map strV).toArray) := fun T' W hW => hW.ok gw _ hw (by simpa using hgwb) (fun c fz e => by cases e)
  have HL : Hid (∀ T' W, BI w B b w T' W → Blk W gl 23 vs.toArray) := fun T' W hW => hW.ok gl _ hl (by simpa using hglb) (fun c fz e => by cases e)
  have HV : Hid (∀ (k : Nat) v l, vs[k]? = some v → ls[k]? = some l → ∀ T' W, BI w B b w T' W → NumsK B W v l ∧ l.length ≤ 16384) := fun k v l h1 h2 T' W hW => ⟨(hv k v l h1 h2).1.keep HB0.out T' hW, (hv k v l h1 h2).2⟩
  have HWS := Lib.hid hws
  have HTL := Lib.hid hT
  have HVL := Lib.hid hvs
  have HLL := Lib.hid hls
  have HEND : Hid (rowsT (ws.take ws.length) (ls.take ws.length) = rowsT ws ls) := by show _ = _; rw [List.take_length, ← hls, List.take_length]
  have HSN : Hid (∀ (k : Nat) s l, ws[k]? = some s → ls[k]? = some l → rowsT (ws.take (k + 1)) (ls.take (k + 1)) = rowsT (ws.take k) (ls.take k) ++ (lineT s l ++ [10])) := fun k s l h1 h2 => by
    show _ = _
    unfold rowsT
    rw [take_snoc h1, take_snoc h2, List.zip_append (by
      have := (List.getElem?_eq_some_iff.1 h1).1; have := (List.getElem?_eq_some_iff.1 h2).1
      simp; omega), List.flatMap_append]
    simp
  clear h hw hl hv hws hT hgwb hglb hvs hls
  generalize (fun e w' => e = Ending.returned (.tuple #[]) ∧ BPost B b (T ++ rowsT ws ls) w w') = POST at *
  obtain ⟨n, hnn⟩ : ∃ n, ws.length = n := ⟨_, rfl⟩
  have HN := Lib.hid hnn
  rw [hnn] at HEND hn ⊢
  clear hnn
  go_enter Tryz.func23, Tryz.ntmps23
  go_wp2_with fail
  go_loopw [12] (fun i wr => ∃ (k : Nat) (T1 : List UInt8), k ≤ n ∧ i = .int .i64 k ∧ Hid (T1 = T ++ rowsT (ws.take k) (ls.take k) ∧ T1.length ≤ T.length + 400000 * k) ∧ Hid (BI w B b w T1 wr)) (fun i _ => n - (intOf i).toNat)
  case atStart => exact ⟨0, T, Nat.zero_le _, rfl, ⟨by simp [rowsT], by omega⟩, HB0⟩
  case round =>
    clear HB0
    obtain ⟨k, T1, hk, rfl, HT1, HBI⟩ := hrel
    obtain ⟨wo, rfl⟩ : ∃ wo : World, wo = wr := ⟨_, rfl⟩
    by_cases hlt : k < n
    · obtain ⟨s, hs⟩ : ∃ s, ws[k]? = some s := ⟨_, List.getElem?_eq_getElem (by rw [HN.out]; exact hlt)⟩
      obtain ⟨v, hv⟩ : ∃ v, vs[k]? = some v := ⟨_, List.getElem?_eq_getElem (by rw [HVL.out, HN.out]; exact hlt)⟩
      obtain ⟨l, hl⟩ : ∃ l, ls[k]? = some l := ⟨_, List.getElem?_eq_getElem (by rw [HLL.out, HN.out]; exact hlt)⟩
      have c1 : wo.cell? ⟨gw, k, none⟩ = some (.string ⟨s.toArray⟩) := by rw [(HW.out _ _ HBI.out).cell]; simp [hs, strV]
      have c2 : wo.cell? ⟨gl, k, none⟩ = some v := by rw [(HL.out _ _ HBI.out).cell]; simp [hv]
      have hnk := HV.out k v l hv hl _ _ HBI.out
      have hsl := HWS.out s (List.mem_of_getElem? hs)
      have hk8 : 400000 * k ≤ 3200000 := by omega
      have HCN := Lib.hid (numbers_any B b T1 s v l wo HBI.out.bld hnk.1.1 hnk.1.2 (by omega) (by have := HT1.out.2; have := HTL.out; omega))
      have HLN : Hid ((lineT s l).length ≤ 345000) := by
        have := numT_len l hnk.1.1.2
        show _ ≤ _
        unfold lineT; rw [List.length_append]; omega
      have HT2 : Hid (T1 ++ lineT s l ++ [10] = T ++ rowsT (ws.take (k + 1)) (ls.take (k + 1)) ∧ (T1 ++ lineT s l ++ [10]).length ≤ T.length + 400000 * (k + 1)) := by
        refine ⟨by rw [HSN.out k s l hs hl, HT1.out.1]; simp, ?_⟩
        have h1 := HT1.out.2
        have h2 := HLN.out
        simp only [List.length_append, List.length_cons, List.length_nil]; omega
      obtain ⟨va, vc, hvv, hv1, hv2, hv3⟩ := hnk.1.1.1.shape
      subst hvv
      clear hs hv hl hnk hv1 hv2 hv3
      go_wp2_with fail
      refine HCN.out.mono ?_
      rintro e w2 ⟨rfl, hp⟩
      have HB2 := Lib.hid (HBI.out.post hp)
      have HW2 := Lib.hid (wbyte_any B b (T1 ++ lineT s l) 10 w2 HB2.out.bld (by have := HT1.out.2; have := HLN.out; have := HTL.out; rw [List.length_append]; omega) HB2.out.le)
      clear hp HCN c1 c2
      go_wp2_with fail
      refine HW2.out.mono ?_
      rintro e w3 ⟨rfl, hp⟩
      have HB3 := Lib.hid (HB2.out.post hp)
      clear hp HW2 HB2
      go_wp2
      go_roundw
      case rel => exact ⟨k + 1, _, by omega, by go_num, HT2, HB3⟩
      case measure => simp [intOf]; omega
    · have hkn : k = n := by omega
      subst hkn
      have HF := Lib.hid HBI.out
      have h1 := HT1.out.1
      rw [HEND.out] at h1
      rw [h1] at HF
      clear h1
      go_wp2
      go_end0
      exact HPO.out _ HF.out
end Go.Proofs.YtkinhhkodaacjaaGreatDoor
