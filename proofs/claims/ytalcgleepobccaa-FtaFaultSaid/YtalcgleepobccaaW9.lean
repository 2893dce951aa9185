/- The walk of FtaFault. -/
import Derived.Test.YtalcgleepobccaaW8
import Derived.Test.YtalcgleepobccaaP2
namespace Go.Proofs.Ytalcgleepobccaa
open Go.RowKit Go.Shelf

/-- A slice value of 16-bit integers that reads as l. -/
def Shorts (w : World) (v : Value) (l : List Int) : Prop :=
  ∃ a cap, v = .slice a l.length cap ∧ l.length ≤ 140737488351232 ∧ (∀ x ∈ l, -32768 ≤ x ∧ x ≤ 32767) ∧
    (l = [] ∨ ∃ b off, a = some ⟨b, off, none⟩ ∧ b < w.heap.size ∧ ∀ j, j < l.length → w.cell? ⟨b, off + j, none⟩ = some (.int .i16 (l.getD j 0)))

theorem Src.newL {w : World} {t : TypeId} (cs : List Value) (n c : Nat) (hn : cs.length = n) (h1 : ∀ u ∈ cs, u.oneCell' = true) : Src (w.alloc (.cells cs.toArray t)) (.slice (some ⟨w.heap.size, 0, none⟩) n c) n cs 1 :=
  ⟨_, _, rfl, by omega, h1, .inr ⟨_, rfl, fun j u hu => by
    rw [Addr.add_lit, World.cell?_alloc_at _ _ _ _ rfl]
    simpa using hu⟩⟩

theorem cells2 {u v : Value} (hu : u.oneCell' = true) (hv : v.oneCell' = true) : ∀ x ∈ [u, v], x.oneCell' = true := by
  intro x hx
  simp at hx
  rcases hx with rfl | rfl
  · exact hu
  · exact hv
theorem max_ite (e d : Int) : (if e < d then d else e) = max e d := by split <;> omega

set_option maxRecDepth 100000 in
set_option maxHeartbeats 1600000 in
theorem fault_walk (l0 : List Int) (v0 : Value) (off : List Int) (v1 : Value) (a mine other : Int) (w : World) (h : Ints w v0 l0) (ho : Shorts w v1 off) (ha : 0 ≤ a) (ha2 : a ≤ 255)
    (hm1 : -9223372036854775808 ≤ mine) (hm2 : mine ≤ 9223372036854775807) (hm3 : -9223372036854775808 ≤ other) (hm4 : other ≤ 9223372036854775807) :
    Calls Try.prog 5 #[v0, v1, .int .u8 a, .int .i64 mine, .int .i64 other] w fun e w' => e = .returned (.bool true) ∧ Below w.heap.size w w' := by
  go_enter Try.func5, Try.ntmps5
  go_wp2_with fail
  refine (few_any l0 v0 w h).mono ?_
  rintro e w' ⟨⟨v, rfl, hv⟩, rfl⟩
  clear h
  have h60 : (l0.take 60).length ≤ 60 := List.length_take_le _ _
  generalize l0.take 60 = l at *
  go_wp2_with fail
  refine (begun_any _).mono ?_
  rintro e w1 ⟨rfl, hb1⟩
  have hv1 := hv.below hb1
  have hbdl := hv.bd
  clear hv
  obtain ⟨av, cap, rfl, q1, q2, q3⟩ := hv1.shape
  by_cases h4 : l.length < 4
  · have hd : decide ((l.length : Int) < 4) = true := by simp; omega
    clear hv1
    go_wp2_with fail
    refine (begun_any _).mono ?_
    rintro e w2 ⟨rfl, hb2⟩
    go_wp2_with fail
    go_ret
    exact ⟨rfl, hb1.trans (hb2.mono hb1.size)⟩
  · have hd : decide ((l.length : Int) < 4) = false := by simp; omega
    have hne : l ≠ [] := by rintro rfl; simp at h4
    obtain ⟨k, hk, hkl⟩ : ∃ k : Nat, a % (l.length : Int) = k ∧ k < l.length := ⟨(a % (l.length : Int)).toNat, by have := Int.emod_nonneg a (show (l.length : Int) ≠ 0 by omega); omega, by
      have h1 := Int.emod_nonneg a (show (l.length : Int) ≠ 0 by omega)
      have h2 := Int.emod_lt_of_pos a (show (0 : Int) < l.length by omega)
      omega⟩
    go_wp2_with fail
    refine (clone_any l _ _ hv1).mono ?_
    rintro e w2 ⟨⟨u, rfl, hu⟩, hb2⟩
    have hv2 := hv1.below hb2
    obtain ⟨ga, capa, rfl, hga, hgal, hlca, hcapa, _, _⟩ := own_head hu hne
    go_wp2_with fail
    refine (clone_any l _ _ hv2).mono ?_
    rintro e w3 ⟨⟨u, rfl, hu2⟩, hb3⟩
    obtain ⟨gb, capb, rfl, hgb, hgbl, hlcb, hcapb, _, _⟩ := own_head hu2 hne
    go_wp2_with fail
    have hbase12 := hb2.size
    have hb123 : Below w.heap.size w w3 := hb1.trans ((hb2.trans (hb3.mono hb2.size)).mono hb1.size)
    have hrowa : w3.ownsRow w1.heap.size 2 1 (.slice (some ⟨ga, 0, none⟩) l.length capa) l.length (l.map (.int .i64)) := hu.kept (row := none) ⟨hb3.os, hb3.tape, hb3.output, hb3.size, fun k hk _ => hb3.block k hk⟩ (.inr (by simp [Value.ownBlock]))
    obtain ⟨a1, cap1, rfl, ho1, ho2, ho3⟩ := ho
    have hdl := Fta.dl_bd ho2
    clear hu hv1 hv2 hlca hlcb ho2 hb2 hb3
    go_loopw [14, 15, 44] (fun g e i wr => ∃ j : Nat, j ≤ l.length ∧ i = .int .i64 j ∧ e = .int .i64 (Fta.el off k j) ∧ wr.ownsRow w3.heap.size 2 1 g (Fta.gl l off k j).length ((Fta.gl l off k j).map (.int .i64)) ∧
        wr.ownsRow w1.heap.size 2 1 (.slice (some ⟨ga, 0, none⟩) l.length capa) l.length (l.map (.int .i64)) ∧ wr.ownsRow w2.heap.size 2 1 (.slice (some ⟨gb, 0, none⟩) l.length capb) l.length ((Fta.bl l off k j).map (.int .i64)) ∧
        Hid (∀ t, t < j → t ≠ k → -1099511627776 ≤ l.getD t 0 ∧ l.getD t 0 ≤ 1099511627776) ∧ Below w.heap.size w wr ∧ w3.heap.size ≤ wr.heap.size) (fun _ _ i _ => l.length - (intOf i).toNat)
    case atStart => exact ⟨0, Nat.zero_le _, rfl, rfl, by simpa [Fta.gl] using World.ownsRow_nil _ _ _ _, hrowa, by rw [Fta.bl_zero]; exact hu2, fun t ht => by omega, hb123, Nat.le_refl _⟩
    case round =>
      obtain ⟨j, hj, rfl, rfl, hgood, hra, hrb, hin, hbw, hszw⟩ := hrel
      clear hrowa hu2
      by_cases hlt : j < l.length
      · by_cases hjk : j = k
        · subst hjk
          have e1 := Lib.hid (Fta.gl_skip l off j)
          have e2 := Lib.hid (Fta.bl_skip l off j)
          have e3 : Hid (Fta.el off j (j + 1) = Fta.el off j j) := if_pos rfl
          have e4 : Hid (∀ t, t < j + 1 → t ≠ j → -1099511627776 ≤ l.getD t 0 ∧ l.getD t 0 ≤ 1099511627776) := fun t ht hk => hin.out t (by omega) hk
          have g1 : Hid (wr.ownsRow w3.heap.size 2 1 u14 (Fta.gl l off j (j + 1)).length ((Fta.gl l off j (j + 1)).map (.int .i64))) := by show World.ownsRow _ _ _ _ _ _ _; rw [e1.out]; exact hgood
          have g2 : Hid (wr.ownsRow w2.heap.size 2 1 (.slice (some ⟨gb, 0, none⟩) l.length capb) l.length ((Fta.bl l off j (j + 1)).map (.int .i64))) := by show World.ownsRow _ _ _ _ _ _ _; rw [e2.out]; exact hrb
          clear e1 e2 hgood hrb
          go_wp2
          go_roundw
          case rel => exact ⟨j + 1, by omega, by go_num, by rw [e3.out], g1.out, hra, g2.out, e4, hbw, hszw⟩
          case measure => simp [intOf]; omega
        · have hjk' : ((j : Int) == (k : Int)) = false := by simp; omega
          have hca := own_at hra (j := j) (u := .int .i64 (l.getD j 0)) (by simp [List.getD_eq_getElem?_getD, hlt])
          have hcb := own_at hrb (j := j) (u := .int .i64 (l.getD j 0)) (by rw [List.getElem?_map, Fta.bl_get _ _ _ _ _ hlt, if_neg (by omega)]; rfl)
          have hca1 := hca.1
          have hcb1 := hcb.1
          have hcb2 := hcb.2
          have HS1 := Lib.hid (Fta.bl_step l off k j hlt hjk)
          have HS2 := Lib.hid (Fta.gl_step l off k j hjk)
          have HS3 : Hid (Fta.el off k (j + 1) = max (max (Fta.el off k j) (Fta.dl off j)) (-(Fta.dl off j))) := if_neg hjk
          have hgl := Fta.gl_len l off k j
          have he0 := Fta.el_nonneg off k j
          have he1 := Fta.el_le off k j (D := 32768) (by omega) (fun t => by have := hdl t; omega)
          have hd0 := hdl j
          have HI : Hid (-1099511627776 ≤ l.getD j 0 → l.getD j 0 ≤ 1099511627776 → ∀ t, t < j + 1 → t ≠ k → -1099511627776 ≤ l.getD t 0 ∧ l.getD t 0 ≤ 1099511627776) := fun h1 h2 t ht hk => by
            by_cases e : t = j
            · subst e; exact ⟨h1, h2⟩
            · exact hin.out t (by omega) hk
          have HC1 : Hid ((l.map (Value.int .i64))[j]? = some (.int .i64 (l.getD j 0))) := by show _ = _; simp [List.getD_eq_getElem?_getD, hlt]
          have HC2 : Hid (((Fta.bl l off k (j + 1)).map (Value.int .i64))[j]? = some (.int .i64 (l.getD j 0 + Fta.dl off j))) := by
            show _ = _
            rw [List.getElem?_map, Fta.bl_get _ _ _ _ _ hlt, if_pos ⟨by omega, hjk⟩]; rfl
          clear hca hcb hjk hin hdl hbdl
          generalize l.getD j 0 = x at *
          by_cases hr1 : x < -1099511627776
          · have hr1' : decide (x < -1099511627776) = true := by simpa using hr1
            go_wp2
            go_ret
            exact ⟨rfl, hbw⟩
          · have hr1' : decide (x < -1099511627776) = false := by simpa using hr1
            by_cases hr2 : 1099511627776 < x
            · have hr2' : decide (1099511627776 < x) = true := by simpa using hr2
              go_wp2
              go_ret
              exact ⟨rfl, hbw⟩
            · have hr2' : decide (1099511627776 < x) = false := by simpa using hr2
              have HI2 : Hid (∀ t, t < j + 1 → t ≠ k → -1099511627776 ≤ l.getD t 0 ∧ l.getD t 0 ≤ 1099511627776) := HI.out (by omega) (by omega)
              have HD : Hid (Fta.dl off j = if off = [] then 0 else off.getD (j % off.length) 0) := rfl
              clear HI
              generalize Fta.dl off j = d at *
              go_upto_if 64 with fail
              go_cut [17] (fun s wx => s = .int .i64 d ∧ wx = wr)
              case first =>
                by_cases hoff : off = []
                · subst hoff
                  have hd : d = 0 := HD.out
                  have HD2 := Lib.hid hd
                  clear hd HD
                  go_wp2_with fail
                  go_meet
                  exact ⟨by rw [HD2.out], rfl⟩
                · obtain ⟨b1, off1, rfl, hb1l, hc1⟩ := ho3.resolve_left hoff
                  have hop : 0 < off.length := List.length_pos_iff.2 hoff
                  have hml : j % off.length < off.length := Nat.mod_lt _ hop
                  have hco : wr.cell? ⟨b1, off1 + j % off.length, none⟩ = some (.int .i16 d) := by
                    rw [hbw.cell hb1l, hc1 _ hml, HD.out, if_neg hoff]
                  obtain ⟨q, hq⟩ : ∃ q, q = j % off.length := ⟨_, rfl⟩
                  have hmod : (j : Int) % (off.length : Int) = (q : Int) := by rw [hq]; omega
                  rw [← hq] at hml hco
                  have hqi : (q : Int) < off.length := by omega
                  clear hq
                  have hpos : (0 : Int) < off.length := by omega
                  clear HD hc1 hoff
                  go_wp2_with fail
                  go_meet
                  exact ⟨rfl, rfl⟩
              case rest =>
                obtain ⟨rfl, rfl⟩ := hcut
                obtain ⟨wA, rfl⟩ : ∃ wA, wA = wc := ⟨_, rfl⟩
                go_upto_region 18 with fail
                go_cut [15] (fun s wx => s = .int .i64 (Fta.el off k (j + 1)) ∧ wx = wA.setCell ⟨gb, j, none⟩ (.int .i64 (x + d)))
                case first =>
                  generalize Fta.el off k j = ee at *
                  generalize Fta.el off k (j + 1) = ee2 at *
                  go_wp2_with fail
                  all_goals (go_meet; exact ⟨by rw [HS3.out]; (congr 1; omega), rfl⟩)
                case rest =>
                  obtain ⟨rfl, hW⟩ := hcut
                  have hst := hrb.stored j (.int .i64 (x + d))
                  rw [map_set, HS1.out, ← hW] at hst
                  have hgab : ga ≠ gb := by omega
                  have hszw2 : w3.heap.size ≤ wc.heap.size := by rw [hW]; simpa using hszw
                  have hra2 := hra.kept hst.2 (.inr (by simp [Value.ownBlock]; omega))
                  have hrb2 := hst.1
                  have hgood2 := ownsRow_setCell_below hgood (a := ⟨gb, j, none⟩) (show gb < w3.heap.size by omega) (.int .i64 (x + d))
                  have hbw2 := hbw.setCell (p := ⟨gb, j, none⟩) (show w.heap.size ≤ gb by have := hb1.size; omega) (.int .i64 (x + d))
                  rw [← hW] at hgood2 hbw2
                  clear hW hst hra hrb hgood hbw HS1 hca1 hcb1 hcb2 hszw
                  obtain ⟨c1, _⟩ := own_at hra2 (j := j) (u := .int .i64 x) HC1.out
                  obtain ⟨c2, _⟩ := own_at hrb2 (j := j) (u := .int .i64 (x + d)) HC2.out
                  go_upto_region 19 with fail
                  have hgd := hgood2.alloc (.cells #[.int .i64 x, .int .i64 (x + d)] 2)
                  have hgd' := hgd.drew
                  go_region_law (refine step_app E22 rfl _ _ rfl hgd' (Src.newL [.int .i64 x, .int .i64 (x + d)] 2 2 rfl (cells2 rfl rfl)) rfl rfl (by omega) (by simp; omega) ?_; intro g2 w5 hg2 hgr2)
                  all_goals (
                    have ra5 := (hra2.alloc (.cells #[.int .i64 x, .int .i64 (x + d)] 2)).drew.kept hgr2 (.inr (fun e => by have := hgd'.lt ga e.symm; omega))
                    have rb5 := (hrb2.alloc (.cells #[.int .i64 x, .int .i64 (x + d)] 2)).drew.kept hgr2 (.inr (fun e => by have := hgd'.lt gb e.symm; omega))
                    have hal := (hbw2.alloc hbw2.size (.cells #[.int .i64 x, .int .i64 (x + d)] 2)).drew
                    have hb5 := below_app hal hb123.size hgd' hgr2 hal.size
                    have hs5 : w3.heap.size ≤ w5.heap.size := by have := hgr2.size; simp at this; omega
                    have hg5 : w5.ownsRow w3.heap.size 2 1 g2 (Fta.gl l off k (j + 1)).length ((Fta.gl l off k (j + 1)).map (.int .i64)) := by
                      rw [HS2.out]; simpa using hg2
                    clear hra2 hrb2 hgood2 hgd hgd' hg2 hgr2 hal hbw2 c1 c2
                    go_wp2_with fail
                    go_roundw
                    case rel => exact ⟨j + 1, by omega, by go_num, rfl, hg5, ra5, rb5, HI2, hb5, hs5⟩
                    case measure => simp [intOf]; omega)
      · obtain rfl : j = l.length := by omega
        have hca := own_at hra (j := k) (u := .int .i64 (l.getD k 0)) (by simp [List.getD_eq_getElem?_getD, hkl])
        have hcb := own_at hrb (j := k) (u := .int .i64 (l.getD k 0)) (by rw [List.getElem?_map, Fta.bl_get _ _ _ _ _ hkl, if_neg (by omega)]; rfl)
        have hca1 := hca.1
        have hca2 := hca.2
        have hcb1 := hcb.1
        have hcb2 := hcb.2
        have hgab : ga ≠ gb := by omega
        have sa := hra.stored k (.int .i64 mine)
        have sb := (hrb.kept sa.2 (.inr (by simp [Value.ownBlock]; omega))).stored k (.int .i64 other)
        have ra2 := sa.1.kept sb.2 (.inr (by simp [Value.ownBlock]; omega))
        have rb2 := sb.1
        have hg2 := ownsRow_setCell_below (ownsRow_setCell_below hgood (a := ⟨ga, k, none⟩) (show ga < w3.heap.size by omega) (.int .i64 mine)) (a := ⟨gb, k, none⟩) (show gb < w3.heap.size by omega) (.int .i64 other)
        have hbw2 := (hbw.setCell (p := ⟨ga, k, none⟩) (show w.heap.size ≤ ga by have := hb1.size; omega) (.int .i64 mine)).setCell (p := ⟨gb, k, none⟩) (show w.heap.size ≤ gb by have := hb1.size; omega) (.int .i64 other)
        rw [map_set] at ra2 rb2
        have hglb := Fta.gl_bd (l := l) (off := off) (k := k) (i := l.length) (D := 1099511627776) hdl (fun t ht hk => hin.out t ht hk)
        have hspb := Fta.spread_bd (l := Fta.gl l off k l.length) (D := 1099511660544) (by omega) (fun y hy => by have := hglb y hy; omega)
        have ia := Ints.of_owns (l := l.set k mine) (by rw [List.length_set]; exact ra2) (by simp; omega) (fun y hy => by
          rcases List.mem_or_eq_of_mem_set hy with hy | rfl
          · exact hbdl y hy
          · exact ⟨hm1, hm2⟩)
        have ib := Ints.of_owns (l := (Fta.bl l off k l.length).set k other) (by rw [List.length_set, Fta.bl_len]; exact rb2) (by simp [Fta.bl_len]; omega) (fun y hy => by
          rcases List.mem_or_eq_of_mem_set hy with hy | rfl
          · exact Fta.bl_bd hdl (fun t ht hk => hin.out t ht hk) hbdl y hy
          · exact ⟨hm3, hm4⟩)
        have ig := Ints.of_owns hg2 (by have := Fta.gl_len l off k l.length; omega) (fun y hy => by have := hglb y hy; unfold I64; omega)
        have he0 := Fta.el_nonneg off k l.length
        have he1 := Fta.el_le off k l.length (D := 32768) (by omega) (fun t => by have := hdl t; omega)
        have hpl := Fta.fault_plain l off k (by omega) mine other
        have hba := Fta.mid_bd (l.set k mine)
        have hbb := Fta.mid_bd ((Fta.bl l off k l.length).set k other)
        clear hca hcb sa sb hra hrb hgood hg2 ra2 rb2 hglb hin hbdl hdl
        go_wp2_with fail
        refine (mid_any _ _ _ ia).mono ?_
        rintro e w4 ⟨rfl, hb4⟩
        have ib4 := ib.below hb4
        have ig4 := ig.below hb4
        have bw4 := hbw2.trans (hb4.mono hbw2.size)
        clear ia ib ig hb4
        generalize (Fta.mid (l.set k mine)).1 = m at *
        generalize (Fta.mid (l.set k mine)).2 = z at *
        go_wp2_with fail
        have hlb : ((Fta.bl l off k l.length).set k other).length = l.length := by simp [Fta.bl_len]
        have hmb := mid_any _ _ _ ib4
        refine hmb.mono ?_
        rintro e w5 ⟨rfl, hb5⟩
        have ig5 := ig4.below hb5
        have bw5 := bw4.trans (hb5.mono bw4.size)
        clear ib4 ig4 hb5 hmb hlb
        generalize (Fta.mid ((Fta.bl l off k l.length).set k other)).1 = n at *
        generalize (Fta.mid ((Fta.bl l off k l.length).set k other)).2 = y at *
        generalize Fta.el off k l.length = ee at *
        have hsp := spread_any _ _ _ ig5
        rw [wrap_small _ (by omega) (by omega)] at hsp
        clear ig5
        generalize Fta.spread (Fta.gl l off k l.length) = S at *
        by_cases hz : z = 0
        · subst hz
          by_cases hy : y = 0
          · subst hy
            have hfin := hpl rfl rfl
            clear hpl
            go_wp2_with fail
            refine hsp.mono ?_
            rintro e w' ⟨rfl, rfl⟩
            have f1 : 2 * (m - n) ≤ S + ee + 2 := by omega
            have f2 : 2 * (n - m) ≤ S + ee + 2 := by omega
            obtain ⟨p1, p2⟩ := hspb
            obtain ⟨ma1, ma2⟩ := hba
            obtain ⟨mb1, mb2⟩ := hbb
            clear hfin hsp
            go_wp2_with fail
            go_ret
            exact ⟨ret_bool (decide_eq_true (by omega)), bw5⟩
          · have hy' : (y != 0) = true := by simpa using hy
            clear hpl hy
            go_wp2
            go_ret
            exact ⟨rfl, bw5⟩
        · have hz' : (z != 0) = true := by simpa using hz
          clear hpl hz
          go_wp2
          go_ret
          exact ⟨rfl, bw5⟩
end Go.Proofs.Ytalcgleepobccaa
