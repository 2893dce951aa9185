/- told of Round; few; Last. -/
import Derived.Test.YtjaaldeaknmmbaaDoorS6
import Derived.Test.YtjaaldeaknmmbaaDoorLA
import Derived.Deep.DeepMust
namespace Go.Proofs.YtjaaldeaknmmbaaDoor
open Go.RowKit Go.Shelf

theorem round_stops (n : Nat) (hn : 1 ≤ n) (g1 g2 n₀ lo hi : Nat) (v : Value) (l : List Sn) (r : Int) (w : World)
    (hn₀ : n₀ ≤ w.heap.size) (h1 : w.cell? ⟨g1, 0, none⟩ = some v) (h2 : w.cell? ⟨g2, 0, none⟩ = some (.int .i64 r)) (b2 : lo ≤ g2 ∧ g2 < hi) (hL : ∀ W', KP n₀ lo hi w W' → Snaps W' v l) :
    SeqStopsK Fence.wide n Tryd.prog 52 #[.pointer (some ⟨g1, 0, none⟩), .pointer (some ⟨g2, 0, none⟩)] encQ (KP n₀ lo hi) (fun xs => xs = ofR l r l.length) (fun pre => pre <+: ofR l r l.length) l.length w :=
  fun y J Jx W hW hJ _ hY h0 => round1_in n hn y g1 g2 n₀ lo hi v l r J Jx W hJ hY (Nat.le_trans hn₀ hW.size) (keepCell hW h1) (keepCell hW h2) b2 (fun W' hW' => hL W' ((KP.of_below hW hn₀).trans hW')) h0

/-- Messages. -/
structure Ms where
  da : Option Addr
  (dn dc : Nat)
  age : Int
def encM (x : Ms) : List Value := [.slice x.da x.dn x.dc, .int .i64 x.age]
theorem encM_len (x : Ms) : (encM x).length = 2 := rfl
theorem encM_one (x : Ms) : ∀ u ∈ encM x, u.oneCell' = true := by
  intro v hv
  simp [encM] at hv
  rcases hv with rfl | rfl <;> rfl
theorem W60 : Wide Tryd.prog 49 2 := ⟨⟨_, Tryd.underlying49, rfl⟩, by kernel_rfl⟩
/-- A snap whose slices may be read. -/
def GoodS (w : World) (x : Sn) (ms : List Ms) : Prop := x.on ≤ 140737488351232 ∧ Rd encM 2 w (.slice x.ia x.nn x.ic) ms ∧ ∀ m ∈ ms, m.dn ≤ 140737488351232
theorem GoodS.below {w w' : World} {x : Sn} {ms : List Ms} (h : GoodS w x ms) (hb : Below w.heap.size w w') : GoodS w' x ms := ⟨h.1, h.2.1.below hb, h.2.2⟩
theorem GoodS.nn {w : World} {x : Sn} {ms : List Ms} (h : GoodS w x ms) : ms.length = x.nn := by
  obtain ⟨a, c, e, _⟩ := h.2.1.shape
  simp only [Value.slice.injEq] at e
  exact e.2.1.symm

/-- What few tells of a snap: its lists are short. -/
def Short (x : Sn) (ms : List Ms) : Prop := x.on ≤ 5000 ∧ x.nn ≤ 50 ∧ ∀ m ∈ ms, m.dn ≤ 5000
def FewI (l : List (Sn × List Ms)) (n : Int) (k : Nat) : Prop := 0 ≤ n ∧ n ≤ 1048576 ∧ (∀ x ∈ l.take k, x.1.nn ≤ 50) ∧ (n ≤ 5000 → ∀ x ∈ l.take k, Short x.1 x.2)
def FewJ (ms : List Ms) (n0 n : Int) (j : Nat) : Prop := 0 ≤ n ∧ n ≤ 1048576 ∧ (n ≤ 5000 → n0 ≤ 5000 ∧ ∀ m ∈ ms.take j, m.dn ≤ 5000)
theorem fewJ_step {ms : List Ms} {n0 n : Int} {j : Nat} {m : Ms} (h : FewJ ms n0 n j) (hm : ms[j]? = some m) : FewJ ms n0 (imin (n + m.dn) 1048576) (j + 1) := by
  obtain ⟨h1, h2, h3⟩ := h
  obtain ⟨k1, k2, k3⟩ := imin_le (n + m.dn) 1048576
  refine ⟨by omega, by omega, fun hn => ?_⟩
  obtain ⟨q1, q2⟩ := h3 (by omega)
  refine ⟨q1, fun y hy => ?_⟩
  rw [take_snoc hm] at hy
  rcases List.mem_append.1 hy with hy | hy
  · exact q2 y hy
  · obtain rfl := List.mem_singleton.1 hy
    omega
theorem fewI_step {l : List (Sn × List Ms)} {n n1 : Int} {k : Nat} {x : Sn} {ms : List Ms} (h : FewI l n k) (hx : l[k]? = some (x, ms)) (hl : ms.length = x.nn) (hnn : x.nn ≤ 50) (h1 : FewJ ms (imin (n + x.nn + x.on) 1048576) n1 ms.length) : FewI l n1 (k + 1) := by
  obtain ⟨q1, q2, q3, q4⟩ := h
  obtain ⟨k1, k2, k3⟩ := imin_le (n + x.nn + x.on) 1048576
  obtain ⟨j1, j2, j3⟩ := h1
  rw [List.take_length] at j3
  refine ⟨j1, j2, fun y hy => ?_, fun hn y hy => ?_⟩
  · rw [take_snoc hx] at hy
    rcases List.mem_append.1 hy with hy | hy
    · exact q3 y hy
    · obtain rfl := List.mem_singleton.1 hy
      exact hnn
  · obtain ⟨j4, j5⟩ := j3 hn
    rw [take_snoc hx] at hy
    rcases List.mem_append.1 hy with hy | hy
    · exact q4 (by omega) y hy
    · obtain rfl := List.mem_singleton.1 hy
      exact ⟨by show x.on ≤ 5000; omega, hnn, j5⟩
def FewPost (l : List (Sn × List Ms)) (w : World) (e : Ending) (w' : World) : Prop := (∃ b, e = .returned (.bool b) ∧ (b = true → l.length ≤ 260 ∧ ∀ x ∈ l, Short x.1 x.2)) ∧ Below w.heap.size w w'
theorem W39 : Wide Tryd.prog 41 22 := ⟨⟨_, Tryd.underlying41, rfl⟩, by kernel_rfl⟩

set_option maxRecDepth 100000 in
set_option maxHeartbeats 1600000 in
theorem few_any (l : List (Sn × List Ms)) (v : Value) (w : World) (h : Snaps w v (l.map (·.1))) (hg : ∀ x ∈ l, GoodS w x.1 x.2) :
    Calls Tryd.prog 6 #[v] w (FewPost l w) := by
  have HS := Lib.hid h
  have HG := Lib.hid (fun (k : Nat) x ms (hk : l[k]? = some (x, ms)) => hg _ (List.mem_of_getElem? hk))
  obtain ⟨a, c, rfl, q1, q2, q3⟩ := h.shape
  have HI0 : Hid (FewI l 0 0) := ⟨by omega, by omega, by simp, by simp⟩
  clear h hg
  have HP : Hid (∀ e w', (∃ b, e = .returned (.bool b) ∧ (b = true → l.length ≤ 260 ∧ ∀ x ∈ l, Short x.1 x.2)) ∧ Below w.heap.size w w' → FewPost l w e w') := fun _ _ h => h
  rw [List.length_map] at *
  have HE : Hid (∀ n : Int, ∀ k : Nat, FewI l n k → n ≤ 5000 → l.length ≤ k → ∀ x ∈ l, Short x.1 x.2) := fun n k hf hn hk => by
    have := hf.2.2.2 hn
    rwa [List.take_of_length_le hk] at this
  have HN : Hid (∀ k, k < l.length → ∃ x ms, l[k]? = some (x, ms)) := fun k hk => ⟨_, _, List.getElem?_eq_getElem hk⟩
  have HM : Hid (∀ (k : Nat) x ms, l[k]? = some (x, ms) → (l.map (·.1))[k]? = some x) := fun k x ms hk => by rw [List.getElem?_map, hk]; rfl
  have him := imin_le (l.length : Int) 300
  generalize l.length = L at *
  go_enter Tryd.func6, Tryd.ntmps6
  generalize hm : imin (L : Int) 300 = M0 at *
  have hm' := hm
  clear hm
  obtain ⟨M, rfl⟩ : ∃ M : Nat, M0 = M := ⟨M0.toNat, by omega⟩
  have HMM := Lib.hid hm'
  clear hm'
  go_wp2_with (refine wpList_min rfl rfl rfl rfl ?_; rw [HMM.out])
  go_loopw [3, 14] (fun nv i wr => ∃ (k : Nat) (n : Int), k ≤ M ∧ i = .int .i64 k ∧ nv = .int .i64 n ∧ 0 ≤ n ∧ n ≤ 1048576 ∧ Hid (FewI l n k) ∧ Hid (Below w.heap.size w wr)) (fun _ i _ => M - (intOf i).toNat)
  case atStart => exact ⟨0, 0, Nat.zero_le _, rfl, rfl, by omega, by omega, HI0, Below.refl _ _⟩
  case round =>
    rename World => wo
    obtain ⟨k, n, hk, rfl, rfl, hn1, hn2, HF, HW⟩ := hrel
    by_cases hlt : k < M
    · obtain ⟨x, ms, hs⟩ := HN.out k (by omega)
      have hgd := (HG.out k x ms hs).below HW.out
      obtain ⟨b, off, rfl, hbl, hc⟩ := (HS.out.below HW.out).row (by intro e; have := HM.out k x ms hs; rw [e] at this; simp at this)
      have HC := Lib.hid (sn_at hc (HM.out k x ms hs))
      have HQ := Lib.hid hs
      have hlm := hgd.nn
      have g1 := hgd.1
      have g2 : x.nn ≤ 140737488351232 := by have := hgd.2.1.len; omega
      obtain ⟨_, _, eic, g3, g4, _⟩ := hgd.2.1.shape
      simp only [Value.slice.injEq] at eic
      obtain ⟨rfl, -, rfl⟩ := eic
      rw [hlm] at g3
      obtain ⟨n1, hn⟩ : ∃ n1, imin (n + x.nn + x.on) 1048576 = n1 := ⟨_, rfl⟩
      have hb1 := imin_le (n + x.nn + x.on) 1048576
      rw [hn] at hb1
      obtain ⟨J, hJ⟩ : ∃ J : Nat, imin (x.nn : Int) 50 = J := ⟨(imin (x.nn : Int) 50).toNat, by have := imin_le (x.nn : Int) 50; omega⟩
      have hb2 := imin_le (x.nn : Int) 50
      rw [hJ] at hb2
      have HN1 := Lib.hid hn
      have HJ := Lib.hid hJ
      have HR := Lib.hid hgd.2
      have HLM := Lib.hid hlm
      have HF0 : Hid (FewJ ms n1 n1 0) := ⟨by omega, by omega, fun h => ⟨h, by simp⟩⟩
      have hbw := HW.out.size
      clear hc hs hgd hn hJ hlm
      go_wp2_with (first
        | (refine wpList_loadW W41 rfl rfl rfl (encS x) rfl HC.out ?_)
        | (refine wpList_boxW W41 rfl rfl rfl (encS x) rfl rfl (encS_one x) rfl ?_; go_must (intro W1 HX hal hz1; have k0 : W1.cell? ⟨wo.heap.size, 19, none⟩ = some (.slice x.oa x.on x.oc) := HX.list0 rfl; have k1 : W1.cell? ⟨wo.heap.size, 20, none⟩ = some (.slice x.ia x.nn x.ic) := HX.list0 rfl; have zz : wo.heap.size < W1.heap.size := (by omega); have HB1 := Lib.hid hal; clear HX hal))
        | (refine wpList_min (o := ⟨some 31, _, _, _, _, _⟩) rfl rfl rfl rfl ?_; go_must (rw [HN1.out]))
        | (refine wpList_min (o := ⟨some 41, _, _, _, _, _⟩) rfl rfl rfl rfl ?_; go_must (rw [HJ.out])))
      go_loopw [3, 44] (fun nv i wi => ∃ (j : Nat) (m : Int), j ≤ J ∧ i = .int .i64 j ∧ nv = .int .i64 m ∧ 0 ≤ m ∧ m ≤ 1048576 ∧ Hid (FewJ ms n1 m j) ∧ Hid (Below W1.heap.size W1 wi)) (fun _ i _ => J - (intOf i).toNat)
      case atStart => exact ⟨0, n1, Nat.zero_le _, rfl, rfl, by omega, by omega, HF0, Below.refl _ _⟩
      case round =>
        obtain ⟨j, m, hj, rfl, rfl, hm1, hm2, HFJ, HWI⟩ := hrel
        have hwr := HWI.out.size
        have p1 := keepCell HWI.out k1
        have HBW : Hid (Below w.heap.size w wr) := (HW.out.trans (HB1.out.mono hbw)).trans (HWI.out.mono (by omega))
        by_cases hjt : j < J
        · obtain ⟨y, hy⟩ : ∃ y, ms[j]? = some y := ⟨_, List.getElem?_eq_getElem (by rw [HLM.out]; omega)⟩
          have hRD := (HR.out.1.below HB1.out).below HWI.out
          obtain ⟨bm, om, hia, hbm, hcm⟩ := hRD.row (by rintro rfl; simp at hy)
          have HCM := Lib.hid (hcm j y hy)
          have hdn := HR.out.2 y (List.mem_of_getElem? hy)
          have HST := Lib.hid (fewJ_step HFJ.out hy)
          obtain ⟨xr, xi, xs, xt1, xt2, xt3, xt4, xt5, xm1, xm2, xm3, xm4, xm5, xm6, xm7, xtm, xbg, xsu, xhi, xoa, xon, xoc, xia, xnn, xic, xlf, xwt⟩ := x
          simp only at hia
          subst hia
          clear hRD hcm hy
          go_wp2_with (first
            | (refine wpList_loadW W60 rfl rfl rfl (encM y) rfl HCM.out ?_)
            | (refine wpList_boxW W60 rfl rfl rfl (encM y) rfl rfl (encM_one y) rfl ?_; go_must (intro W2 HX hal hz2; have r0 : W2.cell? ⟨wr.heap.size, 0, none⟩ = some (.slice y.da y.dn y.dc) := HX.list0 rfl; have zz2 : wr.heap.size < W2.heap.size := (by omega); have HB2 := Lib.hid hal; clear HX hal))
            | (refine wpList_min (o := ⟨some 53, _, _, _, _, _⟩) rfl rfl rfl rfl ?_))
          have hb3 := imin_le (m + y.dn) 1048576
          go_roundw
          case rel => exact ⟨j + 1, imin (m + y.dn) 1048576, by omega, by go_num, rfl, by omega, by omega, HST, HWI.out.trans (HB2.out.mono (by omega))⟩
          case measure => simp [intOf]; omega
        · obtain rfl : J = j := by omega
          by_cases h50 : x.nn ≤ 50
          · have hd : decide ((50 : Int) < (x.nn : Int)) = false := by simp; omega
            have HJN : Hid (J = ms.length) := by show _ = _; rw [HLM.out]; omega
            have HNX := Lib.hid (fewI_step HF.out HQ.out HLM.out h50 (by rw [← HJN.out, HN1.out]; exact HFJ.out))
            go_wp2
            go_roundw
            case rel => exact ⟨k + 1, m, by omega, by go_num, rfl, by omega, by omega, HNX, HBW⟩
            case measure => simp [intOf]; omega
          · have hd : decide ((50 : Int) < (x.nn : Int)) = true := by simp; omega
            go_wp2
            go_ret
            exact HP.out _ _ ⟨⟨false, rfl, by simp⟩, HBW.out⟩
    · obtain rfl : M = k := by omega
      by_cases h260 : L ≤ 260
      · have hd : decide ((L : Int) ≤ 260) = true := by simp; omega
        by_cases h5 : n ≤ 5000
        · have hd2 : decide (n ≤ 5000) = true := by simpa using h5
          have HEE := Lib.hid (HE.out n M HF.out h5 (by omega))
          go_wp2
          go_ret
          exact HP.out _ _ ⟨⟨true, rfl, fun _ => ⟨h260, HEE.out⟩⟩, HW.out⟩
        · have hd2 : decide (n ≤ 5000) = false := by simpa using h5
          go_wp2
          go_ret
          exact HP.out _ _ ⟨⟨false, rfl, by simp⟩, HW.out⟩
      · have hd : decide ((L : Int) ≤ 260) = false := by simp; omega
        have hd' : decide (L ≤ 260) = false := by simp; omega
        go_wp2
        go_ret
        exact HP.out _ _ ⟨⟨false, rfl, by simp⟩, HW.out⟩
end Go.Proofs.YtjaaldeaknmmbaaDoor
