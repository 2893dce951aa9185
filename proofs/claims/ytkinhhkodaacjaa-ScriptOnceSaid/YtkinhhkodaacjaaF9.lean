/- Clean of faults. -/
import Derived.Test.YtkinhhkodaacjaaF8
import Derived.Test.YtkinhhkodaacjaaF4
import Derived.Test.YtkinhhkodaacjaaLA
namespace Go.Proofs.Ytkinhhkodaacjaa
open Go.RowKit Go.Shelf
open Md

/-- What Clean has so far: the row u of R. -/
structure CI (w : World) (m : Me) (R : List Fa) (u : Value) (W : World) : Prop where
  bel : Below w.heap.size w W
  mm : Blk W w.heap.size 25 (encMe m).toArray
  own : W.ownsRow w.heap.size 39 7 u R.length (R.flatMap encF)
theorem CI.keep {w W W' : World} {m : Me} {R : List Fa} {u : Value} (h : CI w m R u W) (hb : Below W.heap.size W W') : CI w m R u W' := ⟨h.bel.trans (hb.mono h.bel.size), h.mm.keep hb, ow_below h.own hb⟩
theorem CI.app {w W W' : World} {m : Me} {R : List Fa} {u u' : Value} {x : Fa} (h : CI w m R u W) (ho : W'.ownsRow w.heap.size 39 7 u' (R.length + 1) (R.flatMap encF ++ encF x)) (hg : W.grownBy W' u.ownBlock) : CI w m (R ++ [x]) u' W' :=
  ⟨h.bel.grown hg h.bel.size (fun k e => (h.own.lt k e).1), h.mm.kept hg (fun e => own_blk_ne h.own h.mm (by decide) e.symm), by simpa using ho⟩
def cleanF (m : Me) (l : List Fa) : List Fa := if okM m then cleanB (mayF m) l else []
def CleanPost (m : Me) (l : List Fa) (w : World) (e : Ending) (w' : World) : Prop :=
  (∃ v', e = .returned v' ∧ w'.ownsRow w.heap.size 39 7 v' (cleanF m l).length ((cleanF m l).flatMap encF)) ∧ Below w.heap.size w w'
set_option maxRecDepth 100000 in
set_option maxHeartbeats 1600000 in
theorem clean_any (m : Me) (v : Value) (l : List Fa) (w : World) (hm : GoodMe w m) (hv : Rd encF 7 w v l) (hl : l.length ≤ 8192) : Calls Try.prog 26 #[mev m, v] w (CleanPost m l w) := by
  have HP : Hid (∀ w' u R, Below w.heap.size w w' → R = cleanF m l → w'.ownsRow w.heap.size 39 7 u R.length (R.flatMap encF) → CleanPost m l w (.returned u) w') := fun w' u R h1 h2 h3 => by subst h2; exact ⟨⟨_, rfl, h3⟩, h1⟩
  generalize CleanPost m l w = POST at *
  have HV := Lib.hid hv
  have HG := Lib.hid hm
  obtain ⟨a, cap, rfl, hcap, hcm, -⟩ := hv.shape
  have HB0 := Lib.hid (below1 w (.cells (encMe m).toArray 25))
  have HM0 : Hid (Blk (w.alloc (.cells (encMe m).toArray 25)) w.heap.size 25 (encMe m).toArray) := Blk.new' rfl
  obtain ⟨n, hn⟩ : ∃ n, n = l.length := ⟨_, rfl⟩
  rw [← hn] at hl hcap HV ⊢
  have HN := Lib.hid hn
  clear hv hm hn
  change Calls Try.prog 26 #[.agg (encMe m).toArray, .slice a n cap] w POST
  go_enter Try.func26, Try.ntmps26
  go_upto_region 1 with fail
  change Code.wp _ _ _ _ (w.alloc (.cells (encMe m).toArray 25))
  generalize w.alloc (.cells (encMe m).toArray 25) = W0 at *
  go_wp2_with ((with_reducible show wpList _ _ _ (Oper.mk (some 8) _ _ _ _ _ :: _) _ _); refine wpList_loadW W25 rfl rfl rfl (encMe m) rfl HM0.out.list ?_)
  refine (mcheck_any m W0 (HG.out.below HB0.out)).mono ?_
  rintro e W1 ⟨rfl, hb1⟩
  have HC0 : Hid (CI w m [] (.slice none 0 0) W1) := ⟨HB0.out.trans (hb1.mono HB0.out.size), HM0.out.keep hb1, World.ownsRow_nil _ _ _ _⟩
  clear hb1 HM0 HB0 HG
  by_cases hm : okM m = true
  · have HD := Lib.hid (okM_bd hm)
    have HCL : Hid (∀ R, Up R → (∀ x, x ∈ R ↔ x ∈ l ∧ mayF m x = true) → R = cleanF m l) := fun R h1 h2 => by unfold cleanF; rw [if_pos hm]; exact cleanB_of h1 h2
    rw [show errM m = 0 from if_pos hm]
    clear hm
    go_wp2_with fail
    go_loopw [5, 13] (fun u i wr => ∃ k : Nat, k ≤ n ∧ i = .int .i64 k ∧ Hid (CI w m ((l.take k).filter (mayF m)) u wr)) (fun _ i _ => n - (intOf i).toNat)
    case atStart => exact ⟨0, by omega, rfl, HC0⟩
    case round =>
      clear HC0
      obtain ⟨k, hk, rfl, HC⟩ := hrel
      obtain ⟨wo, rfl⟩ : ∃ wo : World, wo = wr := ⟨_, rfl⟩
      obtain ⟨R, hR⟩ : ∃ R, R = (l.take k).filter (mayF m) := ⟨_, rfl⟩
      rw [← hR] at HC
      have HRL : Hid (R.length ≤ k) := by show _ ≤ _; rw [hR]; exact Nat.le_trans (List.length_filter_le _ _) (by rw [List.length_take]; omega)
      have HRE := Lib.hid hR
      clear hR
      obtain ⟨ua, uc, hue, -⟩ := owns_shape HC.out.own
      subst hue
      by_cases hlt : k < n
      · obtain ⟨x, hx⟩ : ∃ x, l[k]? = some x := ⟨_, List.getElem?_eq_getElem (by have := HN.out; omega)⟩
        obtain ⟨bl, off, rfl, hbl, hc⟩ := (HV.out.below HC.out.bel).row (by rintro rfl; simp at hx)
        have HCX := Lib.hid (hc k x hx)
        have HTK : Hid ((l.take (k + 1)).filter (mayF m) = if mayF m x = true then R ++ [x] else R) := by
          show _ = _
          rw [take_snoc hx, List.filter_append, HRE.out]
          cases hq : mayF m x <;> simp [hq]
        clear hx hc
        go_upto_region 7 with (first | ((with_reducible show wpList _ _ _ (Oper.mk (some 16) _ _ _ _ _ :: _) _ _); refine wpList_loadW W33 rfl rfl rfl (encF x) rfl HCX.out ?_) | ((with_reducible show wpList _ _ _ (Oper.mk none (Op.store 39 _ _) _ _ _ _ :: _) _ _); refine wpList_boxW W33 rfl rfl rfl (encF x) rfl rfl (encF_one _) rfl ?_; intro W1 hbx hbel hsz; have HBX := Lib.hid hbx; have HE := Lib.hid hbel; clear hbx hbel hsz))
        have HC1 := Lib.hid (HC.out.keep HE.out)
        generalize wo.heap.size = bx at *
        clear HC HE HCX
        go_wp2_with (first | ((with_reducible show wpList _ _ _ (Oper.mk (some 17) _ _ _ _ _ :: _) _ _); refine wpList_loadW W25 rfl rfl rfl (encMe m) rfl HC1.out.mm.list ?_) | ((with_reducible show wpList _ _ _ (Oper.mk (some 18) _ _ _ _ _ :: _) _ _); refine wpList_loadW W33 rfl rfl rfl (encF x) rfl HBX.out.list ?_))
        refine (may_any m x W1 HD.out).mono ?_
        rintro e W2 ⟨rfl, hb2⟩
        have HC2 := Lib.hid (HC1.out.keep hb2)
        have HBX2 := Lib.hid (HBX.out.keep hb2)
        clear hb2 HC1 HBX
        by_cases hmx : mayF m x = true
        · rw [hmx]
          have HTK2 : Hid ((l.take (k + 1)).filter (mayF m) = R ++ [x]) := by show _ = _; rw [HTK.out, if_pos hmx]
          have hby : (R.length + 1) * 56 ≤ 140737488355328 := by have := HRL.out; omega
          have hwz : w.heap.size ≤ W2.heap.size := HC2.out.bel.size
          clear hmx HTK
          go_wp2_with (first | ((with_reducible show wpList _ _ _ (Oper.mk (some 21) _ _ _ _ _ :: _) _ _); refine wpList_loadW W33 rfl rfl rfl (encF x) rfl HBX2.out.list ?_) | ((with_reducible show wpList _ _ _ (Oper.mk (some 22) _ _ _ _ _ :: _) _ _); refine wpList_sliceW E26 (by decide) rfl rfl (encF x) rfl rfl ?_) | ((with_reducible show wpList _ _ _ (Oper.mk (some 23) _ _ _ _ _ :: _) _ _); refine wpList_app1 E26 rfl (.tmp 20) (.tmp 22) rfl HC2.out.own (encF x) rfl (encF_one x) rfl rfl hby hwz ?_; intro v3 w3 ho3 hg3; have HC3 := Lib.hid (HC2.out.app ho3 hg3); clear ho3 hg3))
          go_roundw
          case rel => exact ⟨k + 1, by omega, by go_num, by rw [HTK2.out]; exact HC3⟩
          case measure => simp [intOf]; omega
        · rw [show mayF m x = false by simpa using hmx]
          have HTK2 : Hid ((l.take (k + 1)).filter (mayF m) = R) := by show _ = _; rw [HTK.out, if_neg hmx]
          clear hmx HTK
          go_wp2
          go_roundw
          case rel => exact ⟨k + 1, by omega, by go_num, by rw [HTK2.out]; exact HC2⟩
          case measure => simp [intOf]; omega
      · obtain rfl : n = k := by omega
        have HRF : Hid (R = l.filter (mayF m)) := by show _ = _; rw [HRE.out, List.take_of_length_le (by have := HN.out; omega)]
        clear hlt hk HRE
        go_wp2_with fail
        refine (sort_any R (.slice ua R.length uc) w.heap.size w wo HC.out.bel HC.out.bel.size (by have := HRL.out; omega) HC.out.own).mono ?_
        rintro e W2 ⟨rfl, ⟨S, hp, hs, ho⟩, hb2⟩
        have HO2 := Lib.hid ho
        have HB2 := Lib.hid hb2
        have HSL : Hid (S.length ≤ 16384) := by show _ ≤ _; rw [hp.length_eq]; have := HRL.out; omega
        have HFIN : Hid (compL S = cleanF m l) := HCL.out _ (compL_up hs) fun x => by rw [compL_mem, hp.mem_iff, HRF.out, List.mem_filter]
        clear hp hs ho hb2 HC
        go_wp2_with fail
        refine (compact_any (.slice ua R.length uc) S w.heap.size W2 HO2.out HSL.out HB2.out.size).mono ?_
        rintro e W3 ⟨v', rfl, ho3, hg3⟩
        have HO3 := Lib.hid ho3
        have HB3 : Hid (Below w.heap.size w W3) := HB2.out.grown hg3 HB2.out.size (fun k e => (HO2.out.lt k e).1)
        clear ho3 hg3
        go_wp2
        exact HP.out _ _ _ HB3.out HFIN.out HO3.out
  · have HE : Hid ([] = cleanF m l) := by show _ = _; unfold cleanF; rw [if_neg hm]
    rw [show errM m = 70 from if_neg hm]
    clear hm
    go_wp2
    exact HP.out _ _ _ HC0.out.bel HE.out HC0.out.own
end Go.Proofs.Ytkinhhkodaacjaa
