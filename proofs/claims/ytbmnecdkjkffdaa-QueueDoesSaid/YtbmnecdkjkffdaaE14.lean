/- QueueOrder: what is taken rises, and is what was put. -/
import Derived.Test.YtbmnecdkjkffdaaE13
import Derived.Test.YtbmnecdkjkffdaaMm
import Derived.Test.YtbmnecdkjkffdaaKp
import Derived.IntWalk
namespace Go.Proofs.Ytbmnecdkjkffdaa
open Go.RowKit

theorem exec_cmlook' {w : World} {o : Oper} {a : Act} {m x : Operand} {b n : Nat} {f : Ev → Int} {e : Ev} {c : Int} (h : Cm w b n f) (hc : f e = c) (ho : o.op = .lookup 29 m x false) (hm : a.eval m = .map (some b)) (hx : a.eval x = .agg (encE e).toArray) : (execOp a.eval o).run Try.prog w = .ok (.value (.int .i64 c)) w := by
  subst hc
  exact exec_cmlook h ho hm hx
/-- How long the queue at q is. -/
def qlen (W : World) (q : Nat) : Nat := match W.cell? ⟨q, 1, none⟩ with | some (.slice _ n _) => n | _ => 0
theorem qlen_of {W : World} {q : Nat} {sv : Value} {h : List Ev} {now : Int} (hq : Qu W q sv h now) : qlen W q = h.length := by
  obtain ⟨a, cap, rfl, -⟩ := owns_shape hq.2
  unfold qlen
  rw [hq.1.cell 1]
  rfl
theorem CT_pop {h : List Ev} {x : Ev} (hx : h[0]? = some x) : upd (CT h) x (CT h x - 1) = CT (popL h) := by
  rw [CT_perm (popL_perm hx)]
  exact CT_sub _ x
theorem CT_pos {h : List Ev} {x : Ev} (hx : h[0]? = some x) : 0 < CT h x := by
  have := List.count_pos_iff.2 (List.mem_of_getElem? hx)
  unfold CT
  omega
def True1 (w : World) (e : Ending) (w' : World) : Prop := e = .returned (.bool true) ∧ Below w.heap.size w w'
set_option maxRecDepth 100000 in
set_option maxHeartbeats 1600000 in
theorem order_long (v vs : Value) (l : List Ev) (w : World) (hv : Rd encE 4 w v l) (hl : 200 < l.length) : Calls Try.prog 3 #[v, vs] w (True1 w) := by
  have HP : Hid (∀ w', Below w.heap.size w w' → True1 w (.returned (.bool true)) w') := fun w' h => ⟨rfl, h⟩
  have HC := Lib.hid begun_any
  obtain ⟨a, cap, rfl, hcap, hcm, hlen⟩ := hv.shape
  clear hv
  go_enter Try.func3, Try.ntmps3
  go_wp2_with fail
  refine (HC.out _).mono ?_
  rintro e w1 ⟨rfl, hb1⟩
  have HB1 := Lib.hid hb1
  clear hb1
  go_wp2_with fail
  refine (HC.out _).mono ?_
  rintro e w2 ⟨rfl, hb2⟩
  have HB2 := Lib.hid hb2
  clear hb2
  go_wp2
  go_ret
  exact HP.out _ (bt HB1.out HB2.out)
set_option maxRecDepth 100000 in
set_option maxHeartbeats 3200000 in
theorem order_any (v vs : Value) (l : List Ev) (s : List DoV) (w : World) (hv : Rd encE 4 w v l) (hs : Rd encD 5 w vs s) (hl : l.length ≤ 200) : Calls Try.prog 3 #[v, vs] w (True1 w) := by
  have HP : Hid (∀ w', Below w.heap.size w w' → True1 w (.returned (.bool true)) w') := fun w' h => ⟨rfl, h⟩
  have HBG := Lib.hid begun_any
  have HV := Lib.hid hv
  have HSR := Lib.hid hs
  obtain ⟨a, cap, rfl, hcap, hcm, hlen⟩ := hv.shape
  obtain ⟨sa, sc, rfl, hscap, hscm, hslen⟩ := hs.shape
  obtain ⟨n, hn⟩ : ∃ n, n = l.length := ⟨_, rfl⟩
  obtain ⟨m, hm⟩ : ∃ m, m = s.length := ⟨_, rfl⟩
  rw [← hn] at hl hcap hlen HV
  rw [← hm] at hscap hslen HSR
  rw [← hn, ← hm]
  have HN := Lib.hid hn
  have HM := Lib.hid hm
  clear hv hs hn hm
  go_enter Try.func3, Try.ntmps3
  go_wp2_with fail
  refine (HBG.out _).mono ?_
  rintro e w1 ⟨rfl, hb1⟩
  have HB1 := Lib.hid hb1
  clear hb1 HBG
  by_cases hbad : l.any badE = true
  · have HNW := Lib.hid (new_bad _ l w1 (HV.out.below HB1.out) (by have := HN.out; omega) hbad)
    have HE : Hid (newE l = 140) := by show _ = _; unfold newE; rw [if_neg (by have := HN.out; omega), if_pos hbad]
    clear hbad
    go_wp2_with fail
    refine HNW.out.mono ?_
    rintro e w2 ⟨rfl, hb2⟩
    rw [HE.out]
    have HB2 := Lib.hid hb2
    clear hb2 HNW
    go_wp2
    go_ret
    exact HP.out _ (bt HB1.out HB2.out)
  · have HNW := Lib.hid (new_good _ l w1 (HV.out.below HB1.out) (by have := HN.out; omega) (by simpa using hbad))
    have HGOOD : Hid (∀ x ∈ l, 0 ≤ x.a) := fun x hx => by
      have h : ¬ badE x = true := fun h => hbad (List.any_eq_true.2 ⟨x, hx, h⟩)
      unfold badE at h
      simp at h
      omega
    clear hbad
    go_wp2_with fail
    refine HNW.out.mono ?_
    rintro e w2 ⟨q, sv, rfl, hq, hQ, hb2⟩
    have HJM : Hid (OJ w q w2.heap.size (newL l) 0 [] (w2.alloc (.map #[] 0))) := by
      have hbb := bt HB1.out hb2
      exact ⟨⟨sv, hQ.below (below1 _ _)⟩, newL_heap l, ⟨0, Cm.made w2⟩, fun x hx => HGOOD.out x ((newL_perm l).mem_iff.1 hx), by rw [newL_len]; have := HN.out; omega, hbb.trans ((below1 _ _).mono hbb.size), Nat.le_trans HB1.out.size hq, hbb.size⟩
    have HW1 := Lib.hid (bt HB1.out hb2)
    have HLN0 : Hid (l.length ≤ 16384) := by show _ ≤ _; have := HN.out; omega
    clear hq hQ hb2 HNW HGOOD
    have hmk := @run_makeMap Try.prog
    go_upto_region 7 with fail
    clear hmk
    generalize w2.alloc (.map #[] 0) = W0 at *
    generalize w2.heap.size = mb at *
    go_wp2_with fail
    go_loopw [39] (fun i wr => ∃ k : Nat, k ≤ n ∧ i = .int .i64 k ∧ Hid (OJ w q mb (newL l) 0 (l.take k) wr)) (fun i _ => n - (intOf i).toNat)
    case atStart => exact ⟨0, by omega, rfl, by simpa using HJM⟩
    case round =>
      clear HJM
      obtain ⟨k, hk, rfl, HJ0⟩ := hrel
      obtain ⟨wo, rfl⟩ : ∃ wo : World, wo = wr := ⟨_, rfl⟩
      by_cases hlt : k < n
      · obtain ⟨x, hx⟩ : ∃ x, l[k]? = some x := ⟨_, List.getElem?_eq_getElem (by have := HN.out; omega)⟩
        have HPERM : Hid ((x :: l.take k).Perm (l.take (k + 1))) := by show List.Perm _ _; rw [take_snoc hx]; exact (List.perm_append_comm (l₁ := l.take k) (l₂ := [x])).symm
        obtain ⟨bl, off, rfl, hbl, hc⟩ := (HV.out.below HJ0.out.bel).row (by rintro rfl; simp at hx)
        have HC := Lib.hid (hc k x hx)
        have HLN : Hid ((l.take k).length ≤ 16384) := by show _ ≤ _; have := HLN0.out; simp; omega
        clear hx hc
        go_upto_region 10 with (first | ((with_reducible show wpList _ _ _ (Oper.mk (some 42) _ _ _ _ _ :: _) _ _); refine wpList_loadW W31 rfl rfl rfl (encE x) rfl HC.out ?_) | ((with_reducible show wpList _ _ _ (Oper.mk none (Op.store 31 _ _) _ _ _ _ :: _) _ _); refine wpList_boxW W31 rfl rfl rfl (encE x) rfl rfl (encE_one x) rfl ?_; intro W1 hbx hbel hsz; have HBX := Lib.hid hbx; have HE := Lib.hid hbel; have HZ := Lib.hid hsz; clear hbx hbel hsz))
        obtain ⟨bx, hbx⟩ : ∃ bx, wo.heap.size = bx := ⟨_, rfl⟩
        rw [hbx]
        rw [hbx] at HBX
        clear hbx HZ
        have HJ := Lib.hid (HJ0.out.keep HE.out)
        clear HJ0 HE HC
        have HJd := Lib.hid (HJ.out.keep (Below.refl _ _).drew)
        have hS : Hid (Blk W1.drew bx 31 (encE x).toArray) := HBX.out.keep (Below.refl _ _).drew
        obtain ⟨nm, hcm⟩ := HJd.out.cm
        have HNB : Hid (some bx ≠ some mb) := fun e => hcm.ne_cells (HBX.out.keep (Below.refl _ _).drew) rfl (by cases e; rfl)
        obtain ⟨c, hc⟩ : ∃ c, CT (l.take k) x = c := ⟨_, rfl⟩
        have hcb := CT_bd (l.take k) x
        rw [hc] at hcb
        obtain ⟨W2, sm, hrun, ⟨es, clk, hE, hmem⟩, hg2⟩ := cm_entry hcm x
        obtain ⟨W3, hrun3, hcm3, hg3⟩ := cm_store hE hmem (c + 1)
        have HJ3 : Hid (OJ w q mb (newL l) 0 (x :: l.take k) W3) := HJd.out.map (g' := (x :: l.take k)) (n := nm + 1) (by have e := CT_add (l.take k) x; rw [hc] at e; rw [← e]; exact hcm3) (hg2.trans hg3)
        have HBX3 : Hid (Blk W3 bx 31 (encE x).toArray) := ((HBX.out.keep (Below.refl _ _).drew).kept hg2 HNB.out).kept hg3 HNB.out
        rw [hc] at hrun
        have hcb1 : 0 ≤ c := hcb.1
        have hcb2 : c ≤ 20000 := by have := hcb.2; have := HLN.out; omega
        have HCV := Lib.hid hc
        have HCM := Lib.hid hcm
        have HCM2 : Hid (Cm W2 mb (nm + 1) (CT (l.take k))) := ⟨_, _, hE⟩
        have HRUN := Lib.hid hrun
        have HRUN3 := Lib.hid hrun3
        have HG2 := Lib.hid hg2
        have HG3 := Lib.hid hg3
        clear hc hcb hcm hrun hE hmem hg2 hrun3 hcm3 hg3
        have hwr : IntKind.i64.wrap (c + 1) = c + 1 := IntWalk.i64_in _ (by omega)
        go_upto_region 10 with fail
        refine wp_region_held_drew (S := fun X => Hid (Blk X bx 31 (encE x).toArray)) (by kernel_rfl) hS (fun hHeld => ?_)
        (refine takeW (i := 0) (v := ?_) rfl (by kernel_rfl) (by kernel_rfl) (by kernel_rfl) (fun _ _ _ h => h) (by rfl) (by assumption) ?_ ?_; rotate_left; (intro W hW; (try dsimp only at hW); go_simp; try with_reducible rfl); (try simp only [Act.put, List.setIfInBounds_toArray, List.set_cons_zero, List.set_cons_succ]))
        (refine takeW (i := 1) rfl (by kernel_rfl) (by kernel_rfl) (by kernel_rfl) (fun _ _ _ h => h) (by rfl) (by assumption) (fun W hW => exec_loadW W31 rfl rfl (cs := encE x) rfl hW.out.list) ?_; (try simp only [Act.put, List.setIfInBounds_toArray, List.set_cons_zero, List.set_cons_succ]))
        refine takeV2 (i := 2) (j := 4) rfl rfl (by kernel_rfl) (by rfl) (by rfl) (exec_cmlook' (by first | exact HCM.out | exact HCM2.out) HCV.out rfl rfl rfl) (hHeld) (exec_cmentry HRUN.out rfl rfl rfl) (Lib.hid (hHeld.out.kept HG2.out HNB.out)) ?_ ?_
        · (try simp only [Act.put, List.setIfInBounds_toArray, List.set_cons_zero, List.set_cons_succ])
          have hHeld : Hid (Blk W1.drew bx 31 (encE x).toArray) := hHeld
          (refine takeW (i := 3) (v := ?_) rfl (by kernel_rfl) (by kernel_rfl) (by kernel_rfl) (fun _ _ _ h => h) (by rfl) (by assumption) ?_ ?_; rotate_left; (intro W hW; (try dsimp only at hW); go_simp; try with_reducible rfl); (try simp only [Act.put, List.setIfInBounds_toArray, List.set_cons_zero, List.set_cons_succ]))
          refine takeV (i := 4) rfl (by kernel_rfl) (by rfl) (exec_cmentry HRUN.out rfl rfl rfl) (Lib.hid (hHeld.out.kept HG2.out HNB.out)) ?_
          (try simp only [Act.put, List.setIfInBounds_toArray, List.set_cons_zero, List.set_cons_succ])
          have hHeld : Hid (Blk W2 bx 31 (encE x).toArray) := Lib.hid (hHeld.out.kept HG2.out HNB.out)
          (refine takeW (i := 5) (v := ?_) rfl (by kernel_rfl) (by kernel_rfl) (by kernel_rfl) (fun _ _ _ h => h) (by rfl) (by assumption) ?_ ?_; rotate_left; (intro W hW; (try dsimp only at hW); go_simp; try with_reducible rfl); (try simp only [Act.put, List.setIfInBounds_toArray, List.set_cons_zero, List.set_cons_succ]))
          refine takeVs (i := 6) rfl (by kernel_rfl) (by rfl) (exec_cmstore HRUN3.out rfl rfl rfl rfl) (Lib.hid (hHeld.out.kept HG3.out HNB.out)) ?_
          have hHeld : Hid (Blk W3 bx 31 (encE x).toArray) := Lib.hid (hHeld.out.kept HG3.out HNB.out)
          refine wpAnyH_done (by kernel_rfl) ?_ _
          clear hwr HCM HCM2 HRUN HRUN3 HG2 HG3 HJd HNB
          go_wp2
          go_roundw
          case rel => exact ⟨k + 1, by omega, by go_num, HJ3.out.count HPERM.out⟩
          case measure => simp [intOf]; omega
        · (try simp only [Act.put, List.setIfInBounds_toArray, List.set_cons_zero, List.set_cons_succ])
          have hHeld : Hid (Blk W2 bx 31 (encE x).toArray) := Lib.hid (hHeld.out.kept HG2.out HNB.out)
          (refine takeW (i := 5) (v := ?_) rfl (by kernel_rfl) (by kernel_rfl) (by kernel_rfl) (fun _ _ _ h => h) (by rfl) (by assumption) ?_ ?_; rotate_left; (intro W hW; (try dsimp only at hW); go_simp; try with_reducible rfl); (try simp only [Act.put, List.setIfInBounds_toArray, List.set_cons_zero, List.set_cons_succ]))
          refine takeV (i := 2) rfl (by kernel_rfl) (by rfl) (exec_cmlook' (by first | exact HCM.out | exact HCM2.out) HCV.out rfl rfl rfl) (hHeld) ?_
          (try simp only [Act.put, List.setIfInBounds_toArray, List.set_cons_zero, List.set_cons_succ])
          have hHeld : Hid (Blk W2 bx 31 (encE x).toArray) := hHeld
          (refine takeW (i := 3) (v := ?_) rfl (by kernel_rfl) (by kernel_rfl) (by kernel_rfl) (fun _ _ _ h => h) (by rfl) (by assumption) ?_ ?_; rotate_left; (intro W hW; (try dsimp only at hW); go_simp; try with_reducible rfl); (try simp only [Act.put, List.setIfInBounds_toArray, List.set_cons_zero, List.set_cons_succ]))
          refine takeVs (i := 6) rfl (by kernel_rfl) (by rfl) (exec_cmstore HRUN3.out rfl rfl rfl rfl) (Lib.hid (hHeld.out.kept HG3.out HNB.out)) ?_
          have hHeld : Hid (Blk W3 bx 31 (encE x).toArray) := Lib.hid (hHeld.out.kept HG3.out HNB.out)
          refine wpAnyH_done (by kernel_rfl) ?_ _
          clear hwr HCM HCM2 HRUN HRUN3 HG2 HG3 HJd HNB
          go_wp2
          go_roundw
          case rel => exact ⟨k + 1, by omega, by go_num, HJ3.out.count HPERM.out⟩
          case measure => simp [intOf]; omega
      · obtain rfl : n = k := by omega
        have HJ1 : Hid (OJ w q mb (newL l) 0 (newL l) wo) := HJ0.out.count (by rw [HN.out, List.take_length]; exact (newL_perm l).symm)
        clear hlt hk HJ0
        have hMM : ∃ M : Nat, imin (m : Int) 200 = M := ⟨(imin (m : Int) 200).toNat, by have := imin_le (m : Int) 200; omega⟩
        obtain ⟨M, hM⟩ := hMM
        have hMb := imin_le (m : Int) 200
        rw [hM] at hMb
        have hM1 : M ≤ m := by omega
        have hM2 : M ≤ 200 := by omega
        have hM3 : M ≤ sc := by omega
        have HMI := Lib.hid hM
        clear hM hMb
        have HJ2 : Hid (∃ h, OJ w q mb h 0 h wo) := ⟨_, HJ1.out⟩
        clear HJ1
        go_wp2_with ((with_reducible show wpList _ _ _ (Oper.mk (some 53) _ _ _ _ _ :: _) _ _); refine wpList_min rfl rfl rfl rfl ?_; go_must (rw [HMI.out]))
        go_loopw [10, 56] (fun u i wr => ∃ (j : Nat) (la : Int), j ≤ M ∧ i = .int .i64 j ∧ u = .int .i64 la ∧ Hid (∃ h, OJ w q mb h la h wr)) (fun _ i _ => M - (intOf i).toNat)
        case atStart => exact ⟨0, 0, by omega, rfl, rfl, HJ2⟩
        case round =>
          clear HJ2
          obtain ⟨j, la, hj, rfl, rfl, HJ0⟩ := hrel
          obtain ⟨wo, rfl⟩ : ∃ wo : World, wo = wr := ⟨_, rfl⟩
          obtain ⟨h, hJ0⟩ := HJ0.out
          clear HJ0
          have HJ0 := Lib.hid hJ0
          clear hJ0
          have HLN : Hid (h.length ≤ 16384) := HJ0.out.len
          by_cases hlt : j < M
          · obtain ⟨d, hd⟩ : ∃ d, s[j]? = some d := ⟨_, List.getElem?_eq_getElem (by have := HM.out; omega)⟩
            obtain ⟨bl, off, rfl, hbl, hc⟩ := (HSR.out.below HJ0.out.bel).row (by rintro rfl; simp at hd)
            have HC := Lib.hid (hc j d hd)
            clear hd hc
            go_upto_region 16 with (first | ((with_reducible show wpList _ _ _ (Oper.mk (some 59) _ _ _ _ _ :: _) _ _); refine wpList_loadW W33 rfl rfl rfl (encD d) rfl HC.out ?_) | ((with_reducible show wpList _ _ _ (Oper.mk none (Op.store 33 _ _) _ _ _ _ :: _) _ _); refine wpList_boxW W33 rfl rfl rfl (encD d) rfl rfl (encD_one d) rfl ?_; intro W1 hbx hbel hsz; have HBX := Lib.hid hbx; have HE := Lib.hid hbel; have HZ := Lib.hid hsz; clear hbx hbel hsz))
            obtain ⟨bx, hbx⟩ : ∃ bx, wo.heap.size = bx := ⟨_, rfl⟩
            rw [hbx]
            rw [hbx] at HBX
            have HBS := Lib.hid hbx
            clear hbx HZ
            have HJ := Lib.hid (HJ0.out.keep HE.out)
            have hdk : W1.cell? ⟨bx, 0, none⟩ = some (.int .i64 d.k) := HBX.out.list0 rfl
            obtain ⟨sv, hQ⟩ := HJ.out.qu
            have hbq : bx ≠ q := fun e => by
              have h1 := HBX.out
              subst e
              rw [Blk, show W1.heap[bx]? = _ from hQ.1] at h1
              cases h1
            have hbs : sv.ownBlock ≠ some bx := own_blk_ne hQ.2 HBX.out (by decide)
            have HBA : Hid (bx ≠ q ∧ sv.ownBlock ≠ some bx) := ⟨hbq, hbs⟩
            have HQ := Lib.hid hQ
            clear HJ0 HE HC hQ hbq hbs
            by_cases h0 : d.k = 0
            · have e0 : (d.k == 0) = true := by simp [h0]
              have HPU := Lib.hid (push_any q sv h la d.e W1 HQ.out HLN.out)
              have HT := Lib.hid (encD_tail d (off := 0) HBX.out.list)
              clear h0
              go_wp2_with ((with_reducible show wpList _ _ _ (Oper.mk (some 66) _ _ _ _ _ :: _) _ _); refine wpList_loadW W31 rfl rfl rfl (encE d.e) rfl HT.out ?_)
              refine HPU.out.mono ?_
              rintro e w4 ⟨rfl, sv', hQ', hS'⟩
              have HJ4 := Lib.hid (HJ.out.push HQ.out hQ' hS')
              have HBX4 : Hid (Blk w4 bx 33 (encD d).toArray) := blk_qk hS'.k HBX.out HBA.out.1 HBA.out.2
              clear HPU hQ' hS' HT hdk HJ HBX HQ HBA
              have HJ := HJ4
              have HBX := HBX4
              clear HJ4 HBX4
              by_cases hp : pushE h la d.e = 0
              · have HPR := Lib.hid (pushL_yes hp)
                rw [hp]
                clear hp
                generalize pushL h la d.e = h2 at *
                have HLN2 := Lib.hid HJ.out.len
                have HJd := Lib.hid (HJ.out.keep (Below.refl _ _).drew)
                have hS : Hid (Blk w4.drew bx 33 (encD d).toArray) := HBX.out.keep (Below.refl _ _).drew
                obtain ⟨nm, hcm⟩ := HJd.out.cm
                have HNB : Hid (some bx ≠ some mb) := fun e => hcm.ne_cells (HBX.out.keep (Below.refl _ _).drew) rfl (by cases e; rfl)
                obtain ⟨c, hc⟩ : ∃ c, CT h d.e = c := ⟨_, rfl⟩
                have hcb := CT_bd h d.e
                rw [hc] at hcb
                obtain ⟨W2, sm, hrun, ⟨es, clk, hE, hmem⟩, hg2⟩ := cm_entry hcm d.e
                obtain ⟨W3, hrun3, hcm3, hg3⟩ := cm_store hE hmem (c + 1)
                have HJ3 : Hid (OJ w q mb h2 la (d.e :: h) W3) := HJd.out.map (g' := (d.e :: h)) (n := nm + 1) (by have e := CT_add h d.e; rw [hc] at e; rw [← e]; exact hcm3) (hg2.trans hg3)
                have HBX3 : Hid (Blk W3 bx 33 (encD d).toArray) := ((HBX.out.keep (Below.refl _ _).drew).kept hg2 HNB.out).kept hg3 HNB.out
                rw [hc] at hrun
                have hcb1 : 0 ≤ c := hcb.1
                have hcb2 : c ≤ 20000 := by have := hcb.2; have := HLN.out; omega
                have HCV := Lib.hid hc
                have HCM := Lib.hid hcm
                have HCM2 : Hid (Cm W2 mb (nm + 1) (CT h)) := ⟨_, _, hE⟩
                have HRUN := Lib.hid hrun
                have HRUN3 := Lib.hid hrun3
                have HG2 := Lib.hid hg2
                have HG3 := Lib.hid hg3
                clear hc hcb hcm hrun hE hmem hg2 hrun3 hcm3 hg3
                have hwr : IntKind.i64.wrap (c + 1) = c + 1 := IntWalk.i64_in _ (by omega)
                go_upto_region 19 with fail
                refine wp_region_held_drew (S := fun X => Hid (Blk X bx 33 (encD d).toArray)) (by kernel_rfl) hS (fun hHeld => ?_)
                (refine takeW (i := 0) (v := ?_) rfl (by kernel_rfl) (by kernel_rfl) (by kernel_rfl) (fun _ _ _ h => h) (by rfl) (by assumption) ?_ ?_; rotate_left; (intro W hW; (try dsimp only at hW); go_simp; try with_reducible rfl); (try simp only [Act.put, List.setIfInBounds_toArray, List.set_cons_zero, List.set_cons_succ]))
                (refine takeW (i := 1) (v := ?_) rfl (by kernel_rfl) (by kernel_rfl) (by kernel_rfl) (fun _ _ _ h => h) (by rfl) (by assumption) ?_ ?_; rotate_left; (intro W hW; (try dsimp only at hW); go_simp; try with_reducible rfl); (try simp only [Act.put, List.setIfInBounds_toArray, List.set_cons_zero, List.set_cons_succ]))
                (refine takeW (i := 2) rfl (by kernel_rfl) (by kernel_rfl) (by kernel_rfl) (fun _ _ _ h => h) (by rfl) (by assumption) (fun W hW => exec_loadW W31 rfl rfl (cs := encE d.e) rfl (encD_tail d (off := 0) hW.out.list)) ?_; (try simp only [Act.put, List.setIfInBounds_toArray, List.set_cons_zero, List.set_cons_succ]))
                refine takeV2 (i := 3) (j := 5) rfl rfl (by kernel_rfl) (by rfl) (by rfl) (exec_cmlook' (by first | exact HCM.out | exact HCM2.out) HCV.out rfl rfl rfl) (hHeld) (exec_cmentry HRUN.out rfl rfl rfl) (Lib.hid (hHeld.out.kept HG2.out HNB.out)) ?_ ?_
                · (try simp only [Act.put, List.setIfInBounds_toArray, List.set_cons_zero, List.set_cons_succ])
                  have hHeld : Hid (Blk w4.drew bx 33 (encD d).toArray) := hHeld
                  (refine takeW (i := 4) (v := ?_) rfl (by kernel_rfl) (by kernel_rfl) (by kernel_rfl) (fun _ _ _ h => h) (by rfl) (by assumption) ?_ ?_; rotate_left; (intro W hW; (try dsimp only at hW); go_simp; try with_reducible rfl); (try simp only [Act.put, List.setIfInBounds_toArray, List.set_cons_zero, List.set_cons_succ]))
                  refine takeV (i := 5) rfl (by kernel_rfl) (by rfl) (exec_cmentry HRUN.out rfl rfl rfl) (Lib.hid (hHeld.out.kept HG2.out HNB.out)) ?_
                  (try simp only [Act.put, List.setIfInBounds_toArray, List.set_cons_zero, List.set_cons_succ])
                  have hHeld : Hid (Blk W2 bx 33 (encD d).toArray) := Lib.hid (hHeld.out.kept HG2.out HNB.out)
                  (refine takeW (i := 6) (v := ?_) rfl (by kernel_rfl) (by kernel_rfl) (by kernel_rfl) (fun _ _ _ h => h) (by rfl) (by assumption) ?_ ?_; rotate_left; (intro W hW; (try dsimp only at hW); go_simp; try with_reducible rfl); (try simp only [Act.put, List.setIfInBounds_toArray, List.set_cons_zero, List.set_cons_succ]))
                  refine takeVs (i := 7) rfl (by kernel_rfl) (by rfl) (exec_cmstore HRUN3.out rfl rfl rfl rfl) (Lib.hid (hHeld.out.kept HG3.out HNB.out)) ?_
                  have hHeld : Hid (Blk W3 bx 33 (encD d).toArray) := Lib.hid (hHeld.out.kept HG3.out HNB.out)
                  refine wpAnyH_done (by kernel_rfl) ?_ _
                  clear hwr HCM HCM2 HRUN HRUN3 HG2 HG3 HJd HNB
                  go_wp2
                  go_roundw
                  case rel => exact ⟨j + 1, la, by omega, by go_num, rfl, ⟨h2, HJ3.out.count HPR.out.symm⟩⟩
                  case measure => simp [intOf]; omega
                · (try simp only [Act.put, List.setIfInBounds_toArray, List.set_cons_zero, List.set_cons_succ])
                  have hHeld : Hid (Blk W2 bx 33 (encD d).toArray) := Lib.hid (hHeld.out.kept HG2.out HNB.out)
                  (refine takeW (i := 6) (v := ?_) rfl (by kernel_rfl) (by kernel_rfl) (by kernel_rfl) (fun _ _ _ h => h) (by rfl) (by assumption) ?_ ?_; rotate_left; (intro W hW; (try dsimp only at hW); go_simp; try with_reducible rfl); (try simp only [Act.put, List.setIfInBounds_toArray, List.set_cons_zero, List.set_cons_succ]))
                  refine takeV (i := 3) rfl (by kernel_rfl) (by rfl) (exec_cmlook' (by first | exact HCM.out | exact HCM2.out) HCV.out rfl rfl rfl) (hHeld) ?_
                  (try simp only [Act.put, List.setIfInBounds_toArray, List.set_cons_zero, List.set_cons_succ])
                  have hHeld : Hid (Blk W2 bx 33 (encD d).toArray) := hHeld
                  (refine takeW (i := 4) (v := ?_) rfl (by kernel_rfl) (by kernel_rfl) (by kernel_rfl) (fun _ _ _ h => h) (by rfl) (by assumption) ?_ ?_; rotate_left; (intro W hW; (try dsimp only at hW); go_simp; try with_reducible rfl); (try simp only [Act.put, List.setIfInBounds_toArray, List.set_cons_zero, List.set_cons_succ]))
                  refine takeVs (i := 7) rfl (by kernel_rfl) (by rfl) (exec_cmstore HRUN3.out rfl rfl rfl rfl) (Lib.hid (hHeld.out.kept HG3.out HNB.out)) ?_
                  have hHeld : Hid (Blk W3 bx 33 (encD d).toArray) := Lib.hid (hHeld.out.kept HG3.out HNB.out)
                  refine wpAnyH_done (by kernel_rfl) ?_ _
                  clear hwr HCM HCM2 HRUN HRUN3 HG2 HG3 HJd HNB
                  go_wp2
                  go_roundw
                  case rel => exact ⟨j + 1, la, by omega, by go_num, rfl, ⟨h2, HJ3.out.count HPR.out.symm⟩⟩
                  case measure => simp [intOf]; omega
              · have HPR := Lib.hid (pushL_no hp)
                have ep : (pushE h la d.e == 0) = false := by simpa using hp
                clear hp
                rw [HPR.out] at HJ
                generalize pushE h la d.e = pe at *
                go_wp2
                go_roundw
                case rel => exact ⟨j + 1, la, by omega, by go_num, rfl, ⟨h, HJ.out⟩⟩
                case measure => simp [intOf]; omega
            · have e0 : (d.k == 0) = false := by simpa using h0
              by_cases h1 : d.k = 1
              · have e1 : (d.k == 1) = true := by simp [h1]
                clear h0 h1
                by_cases hh : h = []
                · subst hh
                  have HPO := Lib.hid (pop_none q sv la W1 HQ.out)
                  go_wp2_with fail
                  refine HPO.out.mono ?_
                  rintro e w4 ⟨rfl, hb4⟩
                  have HJ4 := Lib.hid (HJ.out.keep hb4)
                  clear HPO hb4 hdk HJ HBX HQ HBA
                  go_wp2_with ((with_reducible show wpList _ _ _ (Oper.mk none (Op.store 31 _ _) _ _ _ _ :: _) _ _); refine wpList_boxW W31 rfl rfl rfl (encE E0) rfl rfl (encE_one _) rfl ?_; intro W1 hbx hbel hsz; have HE := Lib.hid hbel; clear hbx hbel hsz)
                  go_roundw
                  case rel => exact ⟨j + 1, la, by omega, by go_num, rfl, ⟨[], HJ4.out.keep HE.out⟩⟩
                  case measure => simp [intOf]; omega
                · obtain ⟨x, hx⟩ : ∃ x, h[0]? = some x := ⟨_, List.getElem?_eq_getElem (List.length_pos_iff.2 hh)⟩
                  have HPO := Lib.hid (pop_some q sv h la x W1 HQ.out HLN.out hx)
                  have hlow : (la ≤ x.a) := HJ.out.low x (List.mem_of_getElem? hx)
                  have hlow2 : decide (x.a < la) = false := decide_eq_false (by omega)
                  have HPOS := Lib.hid (CT_pos hx)
                  have HSUB := Lib.hid (CT_pop hx)
                  have HX := Lib.hid hx
                  clear hx hh
                  go_wp2_with fail
                  refine HPO.out.mono ?_
                  rintro e w4 ⟨rfl, sv', hQ', hS'⟩
                  have HJ4 := Lib.hid (HJ.out.pop HQ.out HX.out hQ' hS')
                  clear HPO hQ' hS' hdk HJ HBX HQ HBA HBS
                  generalize hh2 : popL h = h2 at *
                  clear hh2
                  obtain ⟨cc, hcc⟩ : ∃ cc, CT h x = cc := ⟨_, rfl⟩
                  have hccp : (cc == 0) = false := by have := HPOS.out; rw [hcc] at this; simp; omega
                  obtain ⟨n4, hcm4⟩ := HJ4.out.cm
                  have HCMH := Lib.hid hcm4
                  have HCC := Lib.hid hcc
                  clear hcm4 hcc HPOS
                  go_upto_region 26 with (first | ((with_reducible show wpList _ _ _ (Oper.mk none (Op.store 31 _ _) _ _ _ _ :: _) _ _); refine wpList_boxW W31 rfl rfl rfl (encE x) rfl rfl (encE_one x) rfl ?_; intro W1 hbx hbel hsz; have HBX := Lib.hid hbx; have HE := Lib.hid hbel; clear hbx hbel hsz; have xa0 : W1.cell? ⟨w4.heap.size, 0, none⟩ = some (.int .i64 x.a) := HBX.out.list0 rfl) | ((with_reducible show wpList _ _ _ (Oper.mk (some 91) _ _ _ _ _ :: _) _ _); refine wpList_loadW W31 rfl rfl rfl (encE x) rfl HBX.out.list ?_) | ((with_reducible show wpList _ _ _ (Oper.mk (some 92) _ _ _ _ _ :: _) _ _); refine wpList_val rfl (exec_cmlook' (HCMH.out.keep HE.out) HCC.out rfl rfl rfl) ?_))
                  obtain ⟨bx, hbx⟩ : ∃ bx, w4.heap.size = bx := ⟨_, rfl⟩
                  rw [hbx]
                  rw [hbx] at HBX
                  have HJ := Lib.hid (HJ4.out.keep HE.out)
                  clear hbx HJ4 HCMH HCC HE hccp xa0 hlow hlow2
                  have HJd := Lib.hid (HJ.out.keep (Below.refl _ _).drew)
                  have hS : Hid (Blk W1.drew bx 31 (encE x).toArray) := HBX.out.keep (Below.refl _ _).drew
                  obtain ⟨nm, hcm⟩ := HJd.out.cm
                  have HNB : Hid (some bx ≠ some mb) := fun e => hcm.ne_cells (HBX.out.keep (Below.refl _ _).drew) rfl (by cases e; rfl)
                  obtain ⟨c, hc⟩ : ∃ c, CT h x = c := ⟨_, rfl⟩
                  have hcb := CT_bd h x
                  rw [hc] at hcb
                  obtain ⟨W2, sm, hrun, ⟨es, clk, hE, hmem⟩, hg2⟩ := cm_entry hcm x
                  obtain ⟨W3, hrun3, hcm3, hg3⟩ := cm_store hE hmem (c - 1)
                  have HJ3 : Hid (OJ w q mb h2 x.a h2 W3) := HJd.out.map (g' := h2) (n := nm + 1) (by have e := HSUB.out; rw [hc] at e; rw [← e]; exact hcm3) (hg2.trans hg3)
                  have HBX3 : Hid (Blk W3 bx 31 (encE x).toArray) := ((HBX.out.keep (Below.refl _ _).drew).kept hg2 HNB.out).kept hg3 HNB.out
                  rw [hc] at hrun
                  have hcb1 : 0 ≤ c := hcb.1
                  have hcb2 : c ≤ 20000 := by have := hcb.2; have := HLN.out; omega
                  have HCV := Lib.hid hc
                  have HCM := Lib.hid hcm
                  have HCM2 : Hid (Cm W2 mb (nm + 1) (CT h)) := ⟨_, _, hE⟩
                  have HRUN := Lib.hid hrun
                  have HRUN3 := Lib.hid hrun3
                  have HG2 := Lib.hid hg2
                  have HG3 := Lib.hid hg3
                  clear hc hcb hcm hrun hE hmem hg2 hrun3 hcm3 hg3
                  have hwr : IntKind.i64.wrap (c - 1) = c - 1 := IntWalk.i64_in _ (by omega)
                  go_upto_region 26 with fail
                  refine wp_region_held_drew (S := fun X => Hid (Blk X bx 31 (encE x).toArray)) (by kernel_rfl) hS (fun hHeld => ?_)
                  (refine takeW (i := 0) (v := ?_) rfl (by kernel_rfl) (by kernel_rfl) (by kernel_rfl) (fun _ _ _ h => h) (by rfl) (by assumption) ?_ ?_; rotate_left; (intro W hW; (try dsimp only at hW); go_simp; try with_reducible rfl); (try simp only [Act.put, List.setIfInBounds_toArray, List.set_cons_zero, List.set_cons_succ]))
                  (refine takeW (i := 1) rfl (by kernel_rfl) (by kernel_rfl) (by kernel_rfl) (fun _ _ _ h => h) (by rfl) (by assumption) (fun W hW => exec_loadW W31 rfl rfl (cs := encE x) rfl hW.out.list) ?_; (try simp only [Act.put, List.setIfInBounds_toArray, List.set_cons_zero, List.set_cons_succ]))
                  refine takeV2 (i := 2) (j := 4) rfl rfl (by kernel_rfl) (by rfl) (by rfl) (exec_cmlook' (by first | exact HCM.out | exact HCM2.out) HCV.out rfl rfl rfl) (hHeld) (exec_cmentry HRUN.out rfl rfl rfl) (Lib.hid (hHeld.out.kept HG2.out HNB.out)) ?_ ?_
                  · (try simp only [Act.put, List.setIfInBounds_toArray, List.set_cons_zero, List.set_cons_succ])
                    have hHeld : Hid (Blk W1.drew bx 31 (encE x).toArray) := hHeld
                    (refine takeW (i := 3) (v := ?_) rfl (by kernel_rfl) (by kernel_rfl) (by kernel_rfl) (fun _ _ _ h => h) (by rfl) (by assumption) ?_ ?_; rotate_left; (intro W hW; (try dsimp only at hW); go_simp; try with_reducible rfl); (try simp only [Act.put, List.setIfInBounds_toArray, List.set_cons_zero, List.set_cons_succ]))
                    refine takeV (i := 4) rfl (by kernel_rfl) (by rfl) (exec_cmentry HRUN.out rfl rfl rfl) (Lib.hid (hHeld.out.kept HG2.out HNB.out)) ?_
                    (try simp only [Act.put, List.setIfInBounds_toArray, List.set_cons_zero, List.set_cons_succ])
                    have hHeld : Hid (Blk W2 bx 31 (encE x).toArray) := Lib.hid (hHeld.out.kept HG2.out HNB.out)
                    (refine takeW (i := 5) (v := ?_) rfl (by kernel_rfl) (by kernel_rfl) (by kernel_rfl) (fun _ _ _ h => h) (by rfl) (by assumption) ?_ ?_; rotate_left; (intro W hW; (try dsimp only at hW); go_simp; try with_reducible rfl); (try simp only [Act.put, List.setIfInBounds_toArray, List.set_cons_zero, List.set_cons_succ]))
                    refine takeVs (i := 6) rfl (by kernel_rfl) (by rfl) (exec_cmstore HRUN3.out rfl rfl rfl rfl) (Lib.hid (hHeld.out.kept HG3.out HNB.out)) ?_
                    have hHeld : Hid (Blk W3 bx 31 (encE x).toArray) := Lib.hid (hHeld.out.kept HG3.out HNB.out)
                    refine wpAnyH_done (by kernel_rfl) ?_ _
                    clear hwr HCM HCM2 HRUN HRUN3 HG2 HG3 HJd HNB
                    go_wp2
                    go_roundw
                    case rel => exact ⟨j + 1, x.a, by omega, by go_num, rfl, ⟨h2, HJ3.out⟩⟩
                    case measure => simp [intOf]; omega
                  · (try simp only [Act.put, List.setIfInBounds_toArray, List.set_cons_zero, List.set_cons_succ])
                    have hHeld : Hid (Blk W2 bx 31 (encE x).toArray) := Lib.hid (hHeld.out.kept HG2.out HNB.out)
                    (refine takeW (i := 5) (v := ?_) rfl (by kernel_rfl) (by kernel_rfl) (by kernel_rfl) (fun _ _ _ h => h) (by rfl) (by assumption) ?_ ?_; rotate_left; (intro W hW; (try dsimp only at hW); go_simp; try with_reducible rfl); (try simp only [Act.put, List.setIfInBounds_toArray, List.set_cons_zero, List.set_cons_succ]))
                    refine takeV (i := 2) rfl (by kernel_rfl) (by rfl) (exec_cmlook' (by first | exact HCM.out | exact HCM2.out) HCV.out rfl rfl rfl) (hHeld) ?_
                    (try simp only [Act.put, List.setIfInBounds_toArray, List.set_cons_zero, List.set_cons_succ])
                    have hHeld : Hid (Blk W2 bx 31 (encE x).toArray) := hHeld
                    (refine takeW (i := 3) (v := ?_) rfl (by kernel_rfl) (by kernel_rfl) (by kernel_rfl) (fun _ _ _ h => h) (by rfl) (by assumption) ?_ ?_; rotate_left; (intro W hW; (try dsimp only at hW); go_simp; try with_reducible rfl); (try simp only [Act.put, List.setIfInBounds_toArray, List.set_cons_zero, List.set_cons_succ]))
                    refine takeVs (i := 6) rfl (by kernel_rfl) (by rfl) (exec_cmstore HRUN3.out rfl rfl rfl rfl) (Lib.hid (hHeld.out.kept HG3.out HNB.out)) ?_
                    have hHeld : Hid (Blk W3 bx 31 (encE x).toArray) := Lib.hid (hHeld.out.kept HG3.out HNB.out)
                    refine wpAnyH_done (by kernel_rfl) ?_ _
                    clear hwr HCM HCM2 HRUN HRUN3 HG2 HG3 HJd HNB
                    go_wp2
                    go_roundw
                    case rel => exact ⟨j + 1, x.a, by omega, by go_num, rfl, ⟨h2, HJ3.out⟩⟩
                    case measure => simp [intOf]; omega
              · have e1 : (d.k == 1) = false := by simpa using h1
                clear h0 h1
                go_wp2
                go_roundw
                case rel => exact ⟨j + 1, la, by omega, by go_num, rfl, ⟨h, HJ.out⟩⟩
                case measure => simp [intOf]; omega
          · have HJ1 : Hid (∃ h, OJ w q mb h la h wo) := ⟨h, HJ0.out⟩
            have hlt2 : decide (j < M) = false := decide_eq_false hlt
            clear hlt hj HJ0 HLN
            go_wp2_with fail
            clear hlt2
            go_loopw [10] (fun u wr => ∃ la : Int, u = .int .i64 la ∧ Hid (∃ h, OJ w q mb h la h wr)) (fun _ wr => qlen wr q)
            case atStart => exact ⟨la, rfl, HJ1⟩
            case round =>
              clear HJ1
              obtain ⟨la, rfl, HJ0⟩ := hrel
              obtain ⟨W1, rfl⟩ : ∃ W1 : World, W1 = wr := ⟨_, rfl⟩
              obtain ⟨h, hJ0⟩ := HJ0.out
              clear HJ0
              have HJ0 := Lib.hid hJ0
              clear hJ0
              have HLN : Hid (h.length ≤ 16384) := HJ0.out.len
              have hlb : h.length ≤ 16384 := HLN.out
              obtain ⟨sv, hQ⟩ := HJ0.out.qu
              have HQ := Lib.hid hQ
              clear hQ
              have HLE := Lib.hid (len_any q sv h la W1 HQ.out)
              have HQL := Lib.hid (qlen_of HQ.out)
              by_cases hh : h = []
              · subst hh
                have HLE0 : Hid (Calls Try.prog 12 #[.pointer (some ⟨q, 0, none⟩)] W1 fun e w' => e = .returned (.int .i64 0) ∧ W1 = w') := HLE.out
                have HBF := Lib.hid HJ0.out.bel
                obtain ⟨nz, hcz⟩ := HJ0.out.cm
                have HCZ : Hid (Cm W1 mb nz (CT [])) := hcz
                clear hcz HLE HQ HQL HJ0 HLN hlb
                go_wp2_with fail
                refine HLE0.out.mono ?_
                rintro e w2 ⟨rfl, rfl⟩
                clear HLE0
                go_wp2_with fail
                go_loopw [136] (fun i wr => ∃ k : Nat, k ≤ n ∧ i = .int .i64 k ∧ Hid (Below W1.heap.size W1 wr)) (fun i _ => n - (intOf i).toNat)
                case atStart => exact ⟨0, by omega, rfl, Below.refl _ _⟩
                case round =>
                  obtain ⟨k, hk, rfl, HW⟩ := hrel
                  obtain ⟨wo, rfl⟩ : ∃ wo : World, wo = wr := ⟨_, rfl⟩
                  have HB2 : Hid (Below w.heap.size w wo) := HBF.out.trans (HW.out.mono HBF.out.size)
                  by_cases hlt : k < n
                  · obtain ⟨x, hx⟩ : ∃ x, l[k]? = some x := ⟨_, List.getElem?_eq_getElem (by have := HN.out; omega)⟩
                    obtain ⟨bl, off, rfl, hbl, hc⟩ := (HV.out.below HB2.out).row (by rintro rfl; simp at hx)
                    have HC := Lib.hid (hc k x hx)
                    have HCW := Lib.hid (HCZ.out.keep HW.out)
                    clear hx hc
                    go_wp2_with (first | ((with_reducible show wpList _ _ _ (Oper.mk (some 139) _ _ _ _ _ :: _) _ _); refine wpList_loadW W31 rfl rfl rfl (encE x) rfl HC.out ?_) | ((with_reducible show wpList _ _ _ (Oper.mk none (Op.store 31 _ _) _ _ _ _ :: _) _ _); refine wpList_boxW W31 rfl rfl rfl (encE x) rfl rfl (encE_one x) rfl ?_; intro W1 hbx hbel hsz; have HBX := Lib.hid hbx; have HE := Lib.hid hbel; have HZ := Lib.hid hsz; clear hbx hbel hsz) | ((with_reducible show wpList _ _ _ (Oper.mk (some 141) _ _ _ _ _ :: _) _ _); refine wpList_loadW W31 rfl rfl rfl (encE x) rfl HBX.out.list ?_) | ((with_reducible show wpList _ _ _ (Oper.mk (some 142) _ _ _ _ _ :: _) _ _); refine wpList_val rfl (exec_cmlook' (c := 0) (HCW.out.keep HE.out) rfl rfl rfl rfl) ?_))
                    go_roundw
                    case rel => exact ⟨k + 1, by omega, by go_num, HW.out.trans (HE.out.mono HW.out.size)⟩
                    case measure => simp [intOf]; omega
                  · have hlt2 : decide (k < n) = false := decide_eq_false hlt
                    clear hlt hk
                    go_wp2
                    go_ret
                    exact HP.out _ HB2.out
              · obtain ⟨x, hx⟩ : ∃ x, h[0]? = some x := ⟨_, List.getElem?_eq_getElem (List.length_pos_iff.2 hh)⟩
                have HPO := Lib.hid (pop_some q sv h la x W1 HQ.out HLN.out hx)
                have hlow2 : decide (x.a < la) = false := decide_eq_false (by have : la ≤ x.a := HJ0.out.low x (List.mem_of_getElem? hx); omega)
                have HPOS := Lib.hid (CT_pos hx)
                have HSUB := Lib.hid (CT_pop hx)
                have HX := Lib.hid hx
                have hlpos : 0 < h.length := List.length_pos_iff.2 hh
                have HML : Hid ((popL h).length < h.length) := by show _ < _; have := (popL_perm hx).length_eq; simp at this; omega
                clear hx hh
                go_wp2_with fail
                refine HLE.out.mono ?_
                rintro e w2 ⟨rfl, rfl⟩
                clear HLE
                go_wp2_with fail
                refine HPO.out.mono ?_
                rintro e w4 ⟨rfl, sv', hQ', hS'⟩
                have HJ4 := Lib.hid (HJ0.out.pop HQ.out HX.out hQ' hS')
                clear HPO hQ' hS' HJ0 HQ
                generalize hh2 : popL h = h2 at *
                clear hh2
                obtain ⟨cc, hcc⟩ : ∃ cc, CT h x = cc := ⟨_, rfl⟩
                have hccp : (cc == 0) = false := by have := HPOS.out; rw [hcc] at this; simp; omega
                obtain ⟨n4, hcm4⟩ := HJ4.out.cm
                have HCMH := Lib.hid hcm4
                have HCC := Lib.hid hcc
                clear hcm4 hcc HPOS
                go_upto_region 33 with (first | ((with_reducible show wpList _ _ _ (Oper.mk none (Op.store 31 _ _) _ _ _ _ :: _) _ _); refine wpList_boxW W31 rfl rfl rfl (encE x) rfl rfl (encE_one x) rfl ?_; intro W5 hbx hbel hsz; have HBX := Lib.hid hbx; have HE := Lib.hid hbel; clear hbx hbel hsz; have xa0 : W5.cell? ⟨w4.heap.size, 0, none⟩ = some (.int .i64 x.a) := HBX.out.list0 rfl) | ((with_reducible show wpList _ _ _ (Oper.mk (some 122) _ _ _ _ _ :: _) _ _); refine wpList_loadW W31 rfl rfl rfl (encE x) rfl HBX.out.list ?_) | ((with_reducible show wpList _ _ _ (Oper.mk (some 123) _ _ _ _ _ :: _) _ _); refine wpList_val rfl (exec_cmlook' (HCMH.out.keep HE.out) HCC.out rfl rfl rfl) ?_))
                obtain ⟨bx, hbx⟩ : ∃ bx, w4.heap.size = bx := ⟨_, rfl⟩
                rw [hbx]
                rw [hbx] at HBX
                have HJ := Lib.hid (HJ4.out.keep HE.out)
                clear hbx HJ4 HCMH HCC HE hccp xa0 hlow2 hlpos
                have HJd := Lib.hid (HJ.out.keep (Below.refl _ _).drew)
                have hS : Hid (Blk W5.drew bx 31 (encE x).toArray) := HBX.out.keep (Below.refl _ _).drew
                obtain ⟨nm, hcm⟩ := HJd.out.cm
                have HNB : Hid (some bx ≠ some mb) := fun e => hcm.ne_cells (HBX.out.keep (Below.refl _ _).drew) rfl (by cases e; rfl)
                obtain ⟨c, hc⟩ : ∃ c, CT h x = c := ⟨_, rfl⟩
                have hcb := CT_bd h x
                rw [hc] at hcb
                obtain ⟨W2, sm, hrun, ⟨es, clk, hE, hmem⟩, hg2⟩ := cm_entry hcm x
                obtain ⟨W3, hrun3, hcm3, hg3⟩ := cm_store hE hmem (c - 1)
                have HJ3 : Hid (OJ w q mb h2 x.a h2 W3) := HJd.out.map (g' := h2) (n := nm + 1) (by have e := HSUB.out; rw [hc] at e; rw [← e]; exact hcm3) (hg2.trans hg3)
                have HBX3 : Hid (Blk W3 bx 31 (encE x).toArray) := ((HBX.out.keep (Below.refl _ _).drew).kept hg2 HNB.out).kept hg3 HNB.out
                rw [hc] at hrun
                have hcb1 : 0 ≤ c := hcb.1
                have hcb2 : c ≤ 20000 := by have := hcb.2; have := HLN.out; omega
                have HCV := Lib.hid hc
                have HCM := Lib.hid hcm
                have HCM2 : Hid (Cm W2 mb (nm + 1) (CT h)) := ⟨_, _, hE⟩
                have HRUN := Lib.hid hrun
                have HRUN3 := Lib.hid hrun3
                have HG2 := Lib.hid hg2
                have HG3 := Lib.hid hg3
                clear hc hcb hcm hrun hE hmem hg2 hrun3 hcm3 hg3
                have hwr : IntKind.i64.wrap (c - 1) = c - 1 := IntWalk.i64_in _ (by omega)
                go_upto_region 33 with fail
                refine wp_region_held_drew (S := fun X => Hid (Blk X bx 31 (encE x).toArray)) (by kernel_rfl) hS (fun hHeld => ?_)
                (refine takeW (i := 0) (v := ?_) rfl (by kernel_rfl) (by kernel_rfl) (by kernel_rfl) (fun _ _ _ h => h) (by rfl) (by assumption) ?_ ?_; rotate_left; (intro W hW; (try dsimp only at hW); go_simp; try with_reducible rfl); (try simp only [Act.put, List.setIfInBounds_toArray, List.set_cons_zero, List.set_cons_succ]))
                (refine takeW (i := 1) rfl (by kernel_rfl) (by kernel_rfl) (by kernel_rfl) (fun _ _ _ h => h) (by rfl) (by assumption) (fun W hW => exec_loadW W31 rfl rfl (cs := encE x) rfl hW.out.list) ?_; (try simp only [Act.put, List.setIfInBounds_toArray, List.set_cons_zero, List.set_cons_succ]))
                refine takeV2 (i := 2) (j := 4) rfl rfl (by kernel_rfl) (by rfl) (by rfl) (exec_cmlook' (by first | exact HCM.out | exact HCM2.out) HCV.out rfl rfl rfl) (hHeld) (exec_cmentry HRUN.out rfl rfl rfl) (Lib.hid (hHeld.out.kept HG2.out HNB.out)) ?_ ?_
                · (try simp only [Act.put, List.setIfInBounds_toArray, List.set_cons_zero, List.set_cons_succ])
                  have hHeld : Hid (Blk W5.drew bx 31 (encE x).toArray) := hHeld
                  (refine takeW (i := 3) (v := ?_) rfl (by kernel_rfl) (by kernel_rfl) (by kernel_rfl) (fun _ _ _ h => h) (by rfl) (by assumption) ?_ ?_; rotate_left; (intro W hW; (try dsimp only at hW); go_simp; try with_reducible rfl); (try simp only [Act.put, List.setIfInBounds_toArray, List.set_cons_zero, List.set_cons_succ]))
                  refine takeV (i := 4) rfl (by kernel_rfl) (by rfl) (exec_cmentry HRUN.out rfl rfl rfl) (Lib.hid (hHeld.out.kept HG2.out HNB.out)) ?_
                  (try simp only [Act.put, List.setIfInBounds_toArray, List.set_cons_zero, List.set_cons_succ])
                  have hHeld : Hid (Blk W2 bx 31 (encE x).toArray) := Lib.hid (hHeld.out.kept HG2.out HNB.out)
                  (refine takeW (i := 5) (v := ?_) rfl (by kernel_rfl) (by kernel_rfl) (by kernel_rfl) (fun _ _ _ h => h) (by rfl) (by assumption) ?_ ?_; rotate_left; (intro W hW; (try dsimp only at hW); go_simp; try with_reducible rfl); (try simp only [Act.put, List.setIfInBounds_toArray, List.set_cons_zero, List.set_cons_succ]))
                  refine takeVs (i := 6) rfl (by kernel_rfl) (by rfl) (exec_cmstore HRUN3.out rfl rfl rfl rfl) (Lib.hid (hHeld.out.kept HG3.out HNB.out)) ?_
                  have hHeld : Hid (Blk W3 bx 31 (encE x).toArray) := Lib.hid (hHeld.out.kept HG3.out HNB.out)
                  refine wpAnyH_done (by kernel_rfl) ?_ _
                  clear hwr HCM HCM2 HRUN HRUN3 HG2 HG3 HJd HNB
                  have HM3 : Hid (qlen W3 q < qlen W1 q) := by
                    obtain ⟨sv3, hq3⟩ := HJ3.out.qu
                    show _ < _
                    rw [qlen_of hq3, HQL.out]
                    exact HML.out
                  go_wp2
                  go_roundw
                  case rel => (repeat apply Exists.intro); exact ⟨⟨x.a, rfl, ⟨h2, HJ3.out⟩⟩, rfl⟩
                  case measure => exact HM3.out
                · (try simp only [Act.put, List.setIfInBounds_toArray, List.set_cons_zero, List.set_cons_succ])
                  have hHeld : Hid (Blk W2 bx 31 (encE x).toArray) := Lib.hid (hHeld.out.kept HG2.out HNB.out)
                  (refine takeW (i := 5) (v := ?_) rfl (by kernel_rfl) (by kernel_rfl) (by kernel_rfl) (fun _ _ _ h => h) (by rfl) (by assumption) ?_ ?_; rotate_left; (intro W hW; (try dsimp only at hW); go_simp; try with_reducible rfl); (try simp only [Act.put, List.setIfInBounds_toArray, List.set_cons_zero, List.set_cons_succ]))
                  refine takeV (i := 2) rfl (by kernel_rfl) (by rfl) (exec_cmlook' (by first | exact HCM.out | exact HCM2.out) HCV.out rfl rfl rfl) (hHeld) ?_
                  (try simp only [Act.put, List.setIfInBounds_toArray, List.set_cons_zero, List.set_cons_succ])
                  have hHeld : Hid (Blk W2 bx 31 (encE x).toArray) := hHeld
                  (refine takeW (i := 3) (v := ?_) rfl (by kernel_rfl) (by kernel_rfl) (by kernel_rfl) (fun _ _ _ h => h) (by rfl) (by assumption) ?_ ?_; rotate_left; (intro W hW; (try dsimp only at hW); go_simp; try with_reducible rfl); (try simp only [Act.put, List.setIfInBounds_toArray, List.set_cons_zero, List.set_cons_succ]))
                  refine takeVs (i := 6) rfl (by kernel_rfl) (by rfl) (exec_cmstore HRUN3.out rfl rfl rfl rfl) (Lib.hid (hHeld.out.kept HG3.out HNB.out)) ?_
                  have hHeld : Hid (Blk W3 bx 31 (encE x).toArray) := Lib.hid (hHeld.out.kept HG3.out HNB.out)
                  refine wpAnyH_done (by kernel_rfl) ?_ _
                  clear hwr HCM HCM2 HRUN HRUN3 HG2 HG3 HJd HNB
                  have HM3 : Hid (qlen W3 q < qlen W1 q) := by
                    obtain ⟨sv3, hq3⟩ := HJ3.out.qu
                    show _ < _
                    rw [qlen_of hq3, HQL.out]
                    exact HML.out
                  go_wp2
                  go_roundw
                  case rel => (repeat apply Exists.intro); exact ⟨⟨x.a, rfl, ⟨h2, HJ3.out⟩⟩, rfl⟩
                  case measure => exact HM3.out
end Go.Proofs.Ytbmnecdkjkffdaa
