/- Table: the rounds, line by line. -/
import Derived.Test.YtjaaldeaknmmbaaD7
import Derived.Test.YtjaaldeaknmmbaaD6
namespace Go.Proofs.Ytjaaldeaknmmbaa
open Go.RowKit Go.Shelf
attribute [local go_sem] Oper.semAt_some

theorem ow_others {W X : World} {base : Nat} {e : TypeId} {size : Nat} {v : Value} {n : Nat} {xs : List Value} {b : Nat} (h : W.ownsRow base e size v n xs) (he : e ≠ 5) (hb : b < base) (hk : Lib.OthersKept 5 (some b) W X) : X.ownsRow base e size v n xs := by
  refine ⟨h.1, h.2.imp id ?_⟩
  rintro ⟨g, cap, cur, hv, hg, hh, r⟩
  exact ⟨g, cap, cur, hv, hg, hk g _ hh (by simp; omega) (fun c fz e' => by cases e'; exact he rfl), r⟩
theorem blk_post {B b bx : Nat} {l : List UInt8} {cs : Array Value} {t : TypeId} {W X : World} (h : Blk W bx t cs) (k : BPost B b l W X) (hne : bx ≠ b) (ht : t ≠ 5 := by decide) : Blk X bx t cs := k.2.2.1 bx _ h (by simpa using hne) (fun c fz e => by cases e; exact ht rfl)
def TJ (l : List Sn) (R : List Int) (lv v8 : Value) (m : Nat) (w w1 : World) (a : Act) (W : World) : Prop :=
  ∃ (U : Nat → Value) (ds : List Deferred) (k : Nat), a = { tmps := #[lv, U 1, .string ⟨#[]⟩, .pointer (some ⟨w.heap.size, 0, none⟩), U 4, U 5, U 6, lv, v8, .int .i64 (m : Int), .int .i64 (k : Int), U 11, U 12, U 13, U 14, U 15, U 16, U 17, U 18, U 19, U 20, U 21, U 22, U 23, U 24, U 25, U 26, U 27, U 28, U 29, U 30, U 31, U 32, U 33, U 34, U 35, U 36, U 37, U 38, U 39, U 40, U 41], defers := ds } ∧ k ≤ m ∧ Hid (Marks w.heap.size W ds) ∧ Hid (BI w w.heap.size w.heap.size w1 ((R.take k).flatMap (rowT l)) W)
def muT (m : Nat) (a : Act) : Nat := m - (intOf (a.tmps.getD 10 undef)).toNat
def TA (w : World) (H : Nat) (x : Sn) (a : Act) (W : World) : Prop :=
  ∃ (U : Nat → Value) (bx : Nat), a = { tmps := #[U 0, U 1, U 2, .pointer (some ⟨w.heap.size, 0, none⟩), U 4, U 5, .pointer (some ⟨bx, 0, none⟩), U 7, U 8, U 9, U 10, U 11, U 12, U 13, U 14, U 15, U 16, U 17, U 18, U 19, U 20, U 21, U 22, U 23, U 24, U 25, U 26, U 27, U 28, U 29, U 30, U 31, U 32, U 33, U 34, U 35, U 36, U 37, U 38, U 39, U 40, U 41], defers := [] } ∧ Blk W bx 41 (encS x).toArray ∧ H ≤ bx
theorem TJ.mk' {l : List Sn} {R : List Int} {lv v8 : Value} {m : Nat} {w w1 : World} {a : Act} {W : World} (ds : List Deferred) (k : Nat) (h : a = { tmps := #[lv, a.tmps.getD 1 undef, .string ⟨#[]⟩, .pointer (some ⟨w.heap.size, 0, none⟩), a.tmps.getD 4 undef, a.tmps.getD 5 undef, a.tmps.getD 6 undef, lv, v8, .int .i64 (m : Int), .int .i64 (k : Int), a.tmps.getD 11 undef, a.tmps.getD 12 undef, a.tmps.getD 13 undef, a.tmps.getD 14 undef, a.tmps.getD 15 undef, a.tmps.getD 16 undef, a.tmps.getD 17 undef, a.tmps.getD 18 undef, a.tmps.getD 19 undef, a.tmps.getD 20 undef, a.tmps.getD 21 undef, a.tmps.getD 22 undef, a.tmps.getD 23 undef, a.tmps.getD 24 undef, a.tmps.getD 25 undef, a.tmps.getD 26 undef, a.tmps.getD 27 undef, a.tmps.getD 28 undef, a.tmps.getD 29 undef, a.tmps.getD 30 undef, a.tmps.getD 31 undef, a.tmps.getD 32 undef, a.tmps.getD 33 undef, a.tmps.getD 34 undef, a.tmps.getD 35 undef, a.tmps.getD 36 undef, a.tmps.getD 37 undef, a.tmps.getD 38 undef, a.tmps.getD 39 undef, a.tmps.getD 40 undef, a.tmps.getD 41 undef], defers := ds }) (hk : k ≤ m) (h1 : Marks w.heap.size W ds) (h2 : BI w w.heap.size w.heap.size w1 ((R.take k).flatMap (rowT l)) W) : TJ l R lv v8 m w w1 a W := ⟨fun k => a.tmps.getD k undef, ds, k, h, hk, h1, h2⟩
theorem TA.mk' {w : World} {H : Nat} {x : Sn} {a : Act} {W : World} (bx : Nat) (h : a = { tmps := #[a.tmps.getD 0 undef, a.tmps.getD 1 undef, a.tmps.getD 2 undef, .pointer (some ⟨w.heap.size, 0, none⟩), a.tmps.getD 4 undef, a.tmps.getD 5 undef, .pointer (some ⟨bx, 0, none⟩), a.tmps.getD 7 undef, a.tmps.getD 8 undef, a.tmps.getD 9 undef, a.tmps.getD 10 undef, a.tmps.getD 11 undef, a.tmps.getD 12 undef, a.tmps.getD 13 undef, a.tmps.getD 14 undef, a.tmps.getD 15 undef, a.tmps.getD 16 undef, a.tmps.getD 17 undef, a.tmps.getD 18 undef, a.tmps.getD 19 undef, a.tmps.getD 20 undef, a.tmps.getD 21 undef, a.tmps.getD 22 undef, a.tmps.getD 23 undef, a.tmps.getD 24 undef, a.tmps.getD 25 undef, a.tmps.getD 26 undef, a.tmps.getD 27 undef, a.tmps.getD 28 undef, a.tmps.getD 29 undef, a.tmps.getD 30 undef, a.tmps.getD 31 undef, a.tmps.getD 32 undef, a.tmps.getD 33 undef, a.tmps.getD 34 undef, a.tmps.getD 35 undef, a.tmps.getD 36 undef, a.tmps.getD 37 undef, a.tmps.getD 38 undef, a.tmps.getD 39 undef, a.tmps.getD 40 undef, a.tmps.getD 41 undef], defers := [] }) (h1 : Blk W bx 41 (encS x).toArray) (h2 : H ≤ bx) : TA w H x a W := ⟨fun k => a.tmps.getD k undef, bx, h, h1, h2⟩

set_option maxRecDepth 100000 in
set_option maxHeartbeats 3200000 in
theorem table_any (l : List Sn) (lv : Value) (w : World) (h : Snaps w lv l) (hl : l.length ≤ 300) (hi : ∀ x ∈ l, GoodT x) : Calls Try.prog 27 #[lv] w (TablePost l w) := by
  have HPO : Hid (∀ R w', Below w.heap.size w w' → IsRounds l R → TablePost l w (.returned (.string ⟨(tblL l R).toArray⟩)) w') := fun R w' hb hu => ⟨⟨R, hu, rfl⟩, hb⟩
  have HS := Lib.hid h
  have HGD := Lib.hid hi
  have HLL := Lib.hid hl
  have HRN : Hid (∀ r W, I64 r → Calls Try.prog 38 #[.int .i64 r] W fun e w' => e = .returned (.string ⟨(decZ r).toArray⟩) ∧ Below W.heap.size W w') := fun r W hr => number_any r W hr.1 hr.2
  have HB0 : Hid (BI w w.heap.size w.heap.size (w.alloc (.cells #[.pointer none, .slice none 0 0] 72)) [] (w.alloc (.cells #[.pointer none, .slice none 0 0] 72))) := Lib.hid (BI.start (Lib.IsBuilderF.of (Lib.fresh_isBuilder 72 5 w)) (below1 w _))
  have HRO := Lib.hid (rounds_any l lv _ (h.below (below1 w (.cells #[.pointer none, .slice none 0 0] 72))) hl (fun x hx => (hi x hx).1))
  have HBZ : Hid ((w.alloc (.cells #[.pointer none, .slice none 0 0] 72)).heap.size = w.heap.size + 1) := by show _ = _; simp
  obtain ⟨lg, hlg⟩ := with_good l hi
  have HLG := Lib.hid hlg
  clear h hi hlg
  generalize TablePost l w = POST at *
  refine (callsIn_wide (n := 3)).1 ?_
  refine callsIn_of_wp_marks Try.func27 rfl trivial ?_ rfl
  refine wpIn_wide.2 ?_
  simp only [Try.ntmps27, List.size_toArray, List.length_cons, List.length_nil, Nat.reduceAdd, Nat.reduceSub, Array.replicate_succ, Array.replicate_zero, List.push_toArray, List.append_toArray, List.nil_append, List.cons_append]
  go_upto_region 2 with fail
  change Code.wp _ _ _ _ (w.alloc (.cells #[.pointer none, .slice none 0 0] 72))
  generalize w.alloc (.cells #[.pointer none, .slice none 0 0] 72) = W0 at *
  go_wp2_with fail
  refine HRO.out.mono ?_
  rintro e w1 ⟨⟨v8, R, rfl, ho8, hu, hrl⟩, hb1⟩
  have HO8 : Hid (w1.ownsRow (W0.heap.size + 1) 3 1 v8 R.length (R.map (Value.int .i64))) := ho8
  have HU := Lib.hid hu
  have HB1 : Hid (BI w w.heap.size w.heap.size w1 [] w1) := Lib.hid (BI.start (HB0.out.below hb1).bld (HB0.out.below hb1).bel)
  have HRG : Hid (∀ r ∈ R, I64 r) := fun r hr => by
    obtain ⟨x, hx, e⟩ := (hu.2 r).1 hr
    rw [← e]; exact (HGD.out x hx).1
  clear HRO hu hb1 HB0 ho8
  obtain ⟨a8, c8, hsv, r1, r2, r3⟩ := owns_shape HO8.out
  obtain ⟨m, hm⟩ : ∃ m, R.length = m := ⟨_, rfl⟩
  rw [hm] at hsv r1 hrl r3
  have HM := Lib.hid hm
  have hm300 : m ≤ 300 := by omega
  subst hsv
  have HR3 := Lib.hid r3
  clear hm hrl r3
  go_wp2_with fail
  refine (wpIn_wide (n := 3)).1 ?_
  refine wpIn_loop (TJ l R lv (.slice a8 m c8) m w w1) (fun a _ => muT m a) (TJ.mk' [] 0 rfl (Nat.zero_le _) (Marks.nil _ _) HB1.out) ?_
  intro a wr hJ
  refine wpIn_wide.2 ?_
  obtain ⟨U, ds, k, rfl, hk, HMK, HBI⟩ := hJ
  clear HB1
  obtain ⟨T, hT⟩ : ∃ T, (R.take k).flatMap (rowT l) = T := ⟨_, rfl⟩
  rw [hT] at HBI
  have HTT := Lib.hid hT
  clear hT
  have HTL : Hid (T.length ≤ 3810000) := by
    have : ∀ (rs : List Int), (∀ r ∈ rs, I64 r) → (rs.flatMap (rowT l)).length ≤ 12700 * rs.length := by
      intro rs
      induction rs with
      | nil => intro _; simp
      | cons r rs ih =>
        intro hh
        have h1 := rowT_len (l := l) (r := r) HGD.out HLL.out (hh r (by simp))
        have h2 := ih (fun q hq => hh q (by simp [hq]))
        rw [List.flatMap_cons, List.length_append, List.length_cons]; omega
    have h1 := this (R.take k) (fun r hr => HRG.out r (List.mem_of_mem_take hr))
    rw [HTT.out] at h1
    have h2 : (R.take k).length ≤ m := by rw [← HM.out]; exact List.length_take_le' _ _
    show _ ≤ _; omega
  by_cases hlt : k < m
  · obtain ⟨r, hrk⟩ : ∃ r, R[k]? = some r := ⟨_, List.getElem?_eq_getElem (by rw [HM.out]; exact hlt)⟩
    have HO8r : Hid (Ns wr (.slice a8 m c8) R) := Lib.hid (Rd.of_owns (e := 3) (base := W0.heap.size + 1) (encI_len .i64) (by rw [encI_flat]; exact ow_others HO8.out (by decide) (b := w.heap.size) (by have := HBZ.out; omega) HBI.out.ok) (by rw [HM.out]; omega))
    obtain ⟨b8, off8, rfl, hb8, hc8⟩ := HO8r.out.row (by rintro rfl; simp at hrk)
    have c8r : wr.cell? ⟨b8, off8 + k, none⟩ = some (.int .i64 r) := CellsAt.one (f := Value.int .i64) hc8 hrk
    have hr64 : I64 r := HRG.out r (List.mem_of_getElem? hrk)
    have HR64 := Lib.hid hr64
    have HDL := Lib.hid (decZ_len hr64.1 hr64.2)
    have HSN := Lib.hid (flatMap_snoc (rowT l) hrk)
    have HNUM := Lib.hid (HRN.out r wr hr64)
    clear hrk hr64 HO8r hc8 hb8
    go_upto_region 5 with fail
    go_wp2_with fail
    refine HNUM.out.mono ?_
    rintro e wa ⟨rfl, hb⟩
    have HBI1 := Lib.hid (HBI.out.below hb)
    have HOK1 : Hid (Lib.OthersKept 5 (some w.heap.size) wr wa ∧ wr.heap.size ≤ wa.heap.size) := Lib.hid ⟨othersOfBelow hb, hb.size⟩
    clear hb HNUM c8r
    have HWS := Lib.hid (wstr_any w.heap.size w.heap.size T (rnd ++ decZ r) wa HBI1.out.bld (by have := HTL.out; have := HDL.out; simp [rnd]; omega) HBI1.out.le)
    go_wp2_with ((with_reducible show wpList _ _ _ (Oper.mk (some 16) _ _ _ _ _ :: _) _ _); refine wpList_val rfl (exec_cat (x := rnd) (y := decZ r) rfl rfl rfl (by have := HDL.out; simp [rnd]; omega)) ?_)
    refine HWS.out.mono ?_
    rintro e wb ⟨rfl, hp⟩
    have HBI2 := Lib.hid (HBI1.out.post hp)
    have HOK2 : Hid (Lib.OthersKept 5 (some w.heap.size) wr wb ∧ wr.heap.size ≤ wb.heap.size) := Lib.hid ⟨HOK1.out.1.trans hp.2.2.1, Nat.le_trans HOK1.out.2 hp.2.2.2⟩
    clear hp HWS HBI1 HOK1
    have HRD := Lib.hid (round_any l lv r wb (HS.out.below HBI2.out.bel) HLL.out)
    go_wp2_with fail
    refine HRD.out.mono ?_
    rintro e w3 ⟨rfl, v', hD1, hD2, ho, hb⟩
    have HBI3 := Lib.hid (HBI2.out.below hb)
    have HOK : Hid (Lib.OthersKept 5 (some w.heap.size) wr w3) := Lib.hid (HOK2.out.1.trans (othersOfBelow hb))
    have HWZ : Hid (wr.heap.size ≤ w3.heap.size) := Nat.le_trans HOK2.out.2 hb.size
    have HW13 := Lib.hid HBI3.out.ok
    have HW1Z := Lib.hid HBI3.out.sz
    have hDs : wb.heap.size + 2 ≤ w3.heap.size := by have := hD2.lt; omega
    have hbD : w.heap.size < wb.heap.size := HBI2.out.bld.lt.2
    have hS3 : Snaps w3 v' l := Rd.of_owns encS_len ho (by omega)
    have hko : ∀ q, v'.ownBlock = some q → wb.heap.size + 2 ≤ q ∧ q < w3.heap.size ∧ ∀ c fz, w3.heap[q]? ≠ some (.cells c 5 fz) := fun q hq => by
      have := ho.lt q hq
      refine ⟨this.1, this.2, fun c fz e => ?_⟩
      rcases ho.2 with ⟨rfl, _⟩ | ⟨g, cap, cur, rfl, _, hh, _⟩
      · simp [Value.ownBlock] at hq
      · have : g = q := by simpa [Value.ownBlock] using hq
        subst this
        rw [hh] at e; cases e
    have HW3 : Hid (∀ E : Nat, wr.heap[E]? = some (Obj.deferred (some [])) → w3.heap[E]? = some (Obj.deferred (some []))) := fun E hE => by
      have hne : some E ≠ some w.heap.size := fun e => by
        cases e
        obtain ⟨cs, fz, hb⟩ := HBI.out.bld.blk
        rw [hb] at hE; cases hE
      exact HOK.out E _ hE hne (fun c fz e => by cases e)
    clear HOK2 HRD hb HBI2 ho
    generalize wb.heap.size = D at *
    clear wb
    obtain ⟨p, hp⟩ : ∃ p : Nat → Prop, p = fun q => q = D ∨ q = D + 1 ∨ v'.ownBlock = some q := ⟨_, rfl⟩
    have hpb : ∀ q, p q → q < w3.heap.size ∧ q ≠ w.heap.size ∧ ∀ c fz, w3.heap[q]? ≠ some (.cells c 5 fz) := by
      subst hp
      rintro q (rfl | rfl | hq)
      · exact ⟨hD1.lt, by omega, fun c fz e => by rw [show w3.heap[q]? = _ from hD1] at e; cases e⟩
      · exact ⟨hD2.lt, by omega, fun c fz e => by rw [show w3.heap[D + 1]? = _ from hD2] at e; cases e⟩
      · have := hko q hq
        exact ⟨this.2.1, by omega, this.2.2⟩
    have hL : ∀ W', KQ w.heap.size p w3 W' → Snaps W' v' (lg.map Subtype.val) := fun W' hW' => by rw [HLG.out]; exact hW'.reads hS3 (fun b o n c e => by rw [hp]; exact .inr (.inr (by rw [e]; rfl)))
    have hseq := round_stopsq 2 (by omega) D (D + 1) w.heap.size p v' lg r w3 (by omega) (hD1.cell 0) (hD2.cell 0) (by rw [hp]; exact .inr (.inl rfl)) hL
    have HPB := Lib.hid hpb
    have HLGL : Hid (lg.length ≤ 300) := by have := congrArg List.length HLG.out; rw [List.length_map] at this; have := HLL.out; show _ ≤ _; omega
    have hI0 : BI w w.heap.size w.heap.size w3 (T ++ (rnd ++ decZ r) ++ (([] : List SnG).map Subtype.val).flatMap txt) w3 := by
      have := BI.start HBI3.out.bld HBI3.out.bel
      simpa using this
    clear hp hL hS3 hko hD1 hD2 HBI3 HOK
    go_wp2_with fail
    refine (wpIn_wide (n := 3)).1 ?_
    refine wpIn_rangeFunc_ownH rfl (by omega) (gf := 31) (lb := #[.pointer (some ⟨D, 0, none⟩), .pointer (some ⟨D + 1, 0, none⟩)]) rfl trivial (enters_of Try.func31 (by kernel_rfl) rfl) hseq (fun h k => KQ.trans h k) (KQ.put (by omega) (fun k hk => (HPB.out k hk).1)) (Below.refl _ _) (fun _ => rfl)
      (fun pre W => BI w w.heap.size w.heap.size w3 (T ++ (rnd ++ decZ r) ++ (pre.map Subtype.val).flatMap txt) W) (fun _ _ _ => False) (BI.own (f := fun pre : List SnG => T ++ (rnd ++ decZ r) ++ (pre.map Subtype.val).flatMap txt) (Nat.le_refl _) (by omega)) (fun _ _ _ _ _ h _ _ => h) hI0
      (fun x => TA w w3.heap.size x.val)
      (fun x a' s A B row hs hg hr => by obtain ⟨U, bx, h1, h2, h3⟩ := hs; exact ⟨U, bx, h1, Blk.own _ _ _ s A B row h2 hg (fun r e => (hr r e).2), h3⟩)
      ?assign ?body ?done ?stop
    case assign =>
      rintro y pre x W K hI hK
      unfold encG'
      gi_wp2_with (refine wpListIn_storeW W41 rfl rfl rfl (encS x.val) rfl rfl (encS_one x.val) rfl ?_)
      exact hK _ _ ((KeepsOthers.alloc _ _).from _) (KQ.of_below (below1 _ _) hI.le) (hI.below (below1 _ _)) (TA.mk' W.heap.size rfl (Blk.new' rfl) hI.sz)
    case body =>
      rintro y pre x a' W hl0 hr0 hI ⟨U2, bx, rfl, hBx, hHx⟩ hlen
      have hbxb : bx ≠ w.heap.size := by have := hI.sz; have := hbD; omega
      obtain ⟨T1, hT1⟩ : ∃ T1, T ++ (rnd ++ decZ r) ++ (pre.map Subtype.val).flatMap txt = T1 := ⟨_, rfl⟩
      have hgx := x.2
      have HTS : Hid (T ++ (rnd ++ decZ r) ++ ((pre ++ [x]).map Subtype.val).flatMap txt = ((((T1 ++ [32]) ++ decZ x.val.i) ++ [letC x.val.s]) ++ decZ x.val.t5)) := by
        show _ = _
        rw [List.map_append, List.flatMap_append, ← List.append_assoc, hT1]
        simp [txt]
      have HTL1 : Hid (T1.length ≤ 4000000) := by
        have h1 := txts_len (pre.map Subtype.val) (fun y hy => by obtain ⟨z, _, rfl⟩ := List.mem_map.1 hy; exact z.2)
        rw [List.length_map] at h1
        have := HTL.out; have := HDL.out; have := HLGL.out
        show _ ≤ _
        rw [← hT1]
        simp only [List.length_append]
        have h6 : rnd.length = 6 := rfl
        omega
      have HI0 : Hid (BI w w.heap.size w.heap.size w3 T1 W) := by rw [← hT1]; exact hI
      have HBI0 : Hid (BI w w.heap.size w.heap.size W T1 W) := Lib.hid (BI.start HI0.out.bld HI0.out.bel)
      have HX0 := Lib.hid hBx
      have HLI := Lib.hid (decZ_len hgx.2.1.1 hgx.2.1.2)
      have HLM := Lib.hid (decZ_len hgx.2.2.2.1 hgx.2.2.2.2)
      have HGX := Lib.hid hgx
      have HFIN : Hid (∀ X, BI w w.heap.size w.heap.size W (((((T1 ++ [32]) ++ decZ x.val.i) ++ [letC x.val.s]) ++ decZ x.val.t5)) X → KeepsFrom w3.heap.size W X ∧ KQ w.heap.size p W X ∧ BI w w.heap.size w.heap.size w3 (T ++ (rnd ++ decZ r) ++ ((pre ++ [x]).map Subtype.val).flatMap txt) X) := fun X hX =>
        ⟨(hX.others HI0.out.bld).from _, BI.kq HI0.out hX HPB.out, by rw [HTS.out]; exact HI0.out.join hX⟩
      clear hI hl0 hr0 hT1 hBx hgx HI0 HTS hseq
      generalize x.val = xv at *
      clear hlen
      gi_wp2_with fail
      refine ⟨trivial, ?_⟩
      refine (CallsIn.inRound y (callsIn_wide.2 (wbyte_any w.heap.size w.heap.size T1 32 W HBI0.out.bld (by have := HTL1.out; omega) HBI0.out.le))).mono ?_
      rintro e W1 ⟨rfl, hp⟩
      have HBI1 := Lib.hid (HBI0.out.post hp)
      have HX1 := Lib.hid (blk_post HX0.out hp hbxb)
      clear hp HBI0 HX0
      have ci : W1.cell? ⟨bx, 1, none⟩ = some (.int .i64 xv.i) := HX1.out.list0 rfl
      gi_wp2_with fail
      refine ⟨trivial, ?_⟩
      refine (CallsIn.inRound y (callsIn_wide.2 (HRN.out xv.i W1 HGX.out.2.1))).mono ?_
      rintro e W2 ⟨rfl, hb⟩
      have HBI2 := Lib.hid (HBI1.out.below hb)
      have HX2 := Lib.hid (HX1.out.keep hb)
      clear hb HBI1 HX1
      clear ci
      gi_wp2_with fail
      refine ⟨trivial, ?_⟩
      refine (CallsIn.inRound y (callsIn_wide.2 (wstr_any w.heap.size w.heap.size (T1 ++ [32]) (decZ xv.i) W2 HBI2.out.bld (by have := HTL1.out; have := HLI.out; simp; omega) HBI2.out.le))).mono ?_
      rintro e W3 ⟨rfl, hp⟩
      have HBI3 := Lib.hid (HBI2.out.post hp)
      have HX3 := Lib.hid (blk_post HX2.out hp hbxb)
      clear hp HBI2 HX2
      have cs : W3.cell? ⟨bx, 2, none⟩ = some (.int .i64 xv.s) := HX3.out.list0 rfl
      gi_wp2_with fail
      refine ⟨trivial, ?_⟩
      refine (CallsIn.inRound y (callsIn_wide.2 (letter_any xv.s W3))).mono ?_
      rintro e W4 ⟨rfl, rfl⟩
      clear cs
      gi_wp2_with fail
      refine ⟨trivial, ?_⟩
      refine (CallsIn.inRound y (callsIn_wide.2 (wbyte_any w.heap.size w.heap.size ((T1 ++ [32]) ++ decZ xv.i) (letC xv.s) W3 HBI3.out.bld (by have := HTL1.out; have := HLI.out; simp; omega) HBI3.out.le))).mono ?_
      rintro e W5 ⟨rfl, hp⟩
      have HBI5 := Lib.hid (HBI3.out.post hp)
      have HX5 := Lib.hid (blk_post HX3.out hp hbxb)
      clear hp HBI3 HX3
      have cm : W5.cell? ⟨bx, 7, none⟩ = some (.int .i64 xv.t5) := HX5.out.list0 rfl
      gi_wp2_with fail
      refine ⟨trivial, ?_⟩
      refine (CallsIn.inRound y (callsIn_wide.2 (HRN.out xv.t5 W5 HGX.out.2.2.2))).mono ?_
      rintro e W6 ⟨rfl, hb⟩
      have HBI6 := Lib.hid (HBI5.out.below hb)
      have HX6 := Lib.hid (HX5.out.keep hb)
      clear hb HBI5 HX5
      clear cm
      gi_wp2_with fail
      refine ⟨trivial, ?_⟩
      refine (CallsIn.inRound y (callsIn_wide.2 (wstr_any w.heap.size w.heap.size (((T1 ++ [32]) ++ decZ xv.i) ++ [letC xv.s]) (decZ xv.t5) W6 HBI6.out.bld (by have := HTL1.out; have := HLI.out; have := HLM.out; simp; omega) HBI6.out.le))).mono ?_
      rintro e W7 ⟨rfl, hp⟩
      have HBI7 := Lib.hid (HBI6.out.post hp)
      have HX7 := Lib.hid (blk_post HX6.out hp hbxb)
      clear hp HBI6 HX6
      gi_wp2
      exact HFIN.out _ HBI7.out
    case done =>
      rintro DD ys W hDD hys hI hK
      have hT2 : T ++ (rnd ++ decZ r) ++ (ys.map Subtype.val).flatMap txt ++ [10] = (R.take (k + 1)).flatMap (rowT l) := by
        rw [HSN.out, HTT.out]
        unfold rowT
        rw [hys, ofG_val, HLG.out]
        have : lg.length = l.length := by rw [← HLG.out, List.length_map]
        rw [this]
        simp
      obtain ⟨T2, hT2'⟩ : ∃ T2, T ++ (rnd ++ decZ r) ++ (ys.map Subtype.val).flatMap txt = T2 := ⟨_, rfl⟩
      have HI2 : Hid (BI w w.heap.size w.heap.size w3 T2 W) := by rw [← hT2']; exact hI
      rw [hT2'] at hT2
      have HT2 := Lib.hid hT2
      have HT2L : Hid (T2.length ≤ 4000000) := by
        have h1 := txts_len (ys.map Subtype.val) (fun y hy => by obtain ⟨z, _, rfl⟩ := List.mem_map.1 hy; exact z.2)
        rw [List.length_map] at h1
        have h2 : ys.length ≤ lg.length := by rw [hys]; unfold ofG; exact Nat.le_trans (List.length_filter_le _ _) (List.length_take_le' _ _)
        have := HTL.out; have := HDL.out; have := HLGL.out
        show _ ≤ _
        rw [← hT2']
        simp only [List.length_append]
        have h6 : rnd.length = 6 := rfl
        omega
      have HW10 : Hid (Calls Try.prog 39 #[.pointer (some ⟨w.heap.size, 0, none⟩), .int .u8 10] W fun e w' => e = .returned .nilIface ∧ BPost w.heap.size w.heap.size (T2 ++ [10]) W w') := Lib.hid (wbyte_any w.heap.size w.heap.size T2 10 W HI2.out.bld (by have := HT2L.out; omega) HI2.out.le)
      have HMK3 : Hid (Marks w.heap.size W ({ target := .collected DD, args := #[] } :: ds)) := Lib.hid (HMK.out.add (fun E hE => by
        have h3 := HW3.out E hE
        exact HI2.out.ok E _ h3 (fun e => by
          cases e
          obtain ⟨cs, fz, hb⟩ := HBI.out.bld.blk
          rw [hb] at hE; cases hE) (fun c fz e => by cases e)) (by have := HWZ.out; omega) (by omega) hK)
      have HNE : Hid (∀ E : Nat, W.heap[E]? = some (Obj.deferred (some [])) → some E ≠ some w.heap.size) := fun E hE e => by
        cases e
        obtain ⟨cs, fz, hb⟩ := HI2.out.bld.blk
        rw [hb] at hE; cases hE
      have HJN : Hid (Lib.OthersKept 5 (some w.heap.size) w1 W) := Lib.hid (fun q o hq hqb ho => HI2.out.ok q o (HW13.out q o hq hqb ho) hqb ho)
      clear hys hI hK hT2 hT2' hseq
      go_wp2_with fail
      refine HW10.out.mono ?_
      rintro e W5 ⟨rfl, hp5⟩
      have HB5 : Hid (BI w w.heap.size w.heap.size w1 ((R.take (k + 1)).flatMap (rowT l)) W5) := Lib.hid (by
        have := HI2.out.post hp5
        rw [HT2.out] at this
        exact ⟨this.bld, HJN.out.trans hp5.2.2.1, this.bel, Nat.le_trans HW1Z.out this.sz⟩)
      have HMK5 : Hid (Marks w.heap.size W5 ({ target := .collected DD, args := #[] } :: ds)) := Lib.hid (HMK3.out.keep (fun E hE => hp5.2.2.1 E _ hE (HNE.out E hE) (fun c fz e => by cases e)))
      clear hp5
      go_wp2
      refine ⟨TJ.mk' _ (k + 1) rfl (by omega) HMK5.out HB5.out, ?_⟩
      show m - ((k : Int) + 1).toNat < m - (k : Int).toNat
      omega
    case stop =>
      rintro DD c pre W hDD hp h hK
      exact h.elim
  · have hkm : k = m := by omega
    subst hkm
    have HFIN : Hid (T = tblL l R) := by
      rw [← HTT.out, List.take_of_length_le (by rw [HM.out]; exact Nat.le_refl _)]
      rfl
    have HST := Lib.hid (Try.Builder_String_any_k w.heap.size w.heap.size T wr HBI.out.bld HBI.out.le)
    have HPF : Hid (∀ X, Below w.heap.size w X → POST (.returned (.string ⟨T.toArray⟩)) X) := fun X hX => by rw [HFIN.out]; exact HPO.out R X hX HU.out
    have HNE : Hid (∀ E : Nat, wr.heap[E]? = some (Obj.deferred (some [])) → some E ≠ some w.heap.size) := fun E hE e => by
      cases e
      obtain ⟨cs, fz, hb⟩ := HBI.out.bld.blk
      rw [hb] at hE; cases hE
    go_wp2_with fail
    refine HST.out.mono ?_
    rintro e W5 ⟨rfl, -, hb5, hk5⟩
    have HB5 := Lib.hid (HBI.out.bel.trans hb5)
    have HMK5 := Lib.hid (HMK.out.keep (fun E hE => hk5 E _ hE (HNE.out E hE) (fun c fz e => by cases e)))
    clear hb5 hk5 HST
    go_wp2
    obtain ⟨Ds, hd1, rfl, hd2⟩ := HMK5.out
    exact leave_marks Ds _ hd1 hd2 (fun X hX => ⟨by simp [results, Try.f27, go_sem], HPF.out X (HB5.out.trans hX)⟩)
end Go.Proofs.Ytjaaldeaknmmbaa
