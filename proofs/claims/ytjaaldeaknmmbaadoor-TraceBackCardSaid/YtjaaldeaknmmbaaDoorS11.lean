/- Cliques, Agree, Clone of numbers, Last. -/
import Derived.Test.YtjaaldeaknmmbaaDoorS10
import Derived.Test.YtjaaldeaknmmbaaDoorMp
namespace Go.Proofs.YtjaaldeaknmmbaaDoor
open Go.RowKit Go.Shelf

theorem E28 : Elem Tryd.prog 45 67 (.slice none 0 0) 1 24 := ⟨Tryd.underlying45, by kernel_rfl, by kernel_rfl, by decide, by decide⟩
def CliquesPost (X : List Sn) (w : World) (e : Ending) (w' : World) : Prop :=
  (∃ (v : Value) (gs : List Gr), e = .returned v ∧ w'.ownsRow w.heap.size 67 1 v gs.length (gs.map (·.v)) ∧ (∀ g ∈ gs, w'.ownsRow w.heap.size 3 1 g.v g.ids.length (g.ids.map (.int .i64))) ∧ gs.map pg = clq [] X) ∧ Below w.heap.size w w'
set_option maxRecDepth 100000 in
set_option maxHeartbeats 800000 in
theorem cliques2_any (l : List Sn) (lv : Value) (r : Int) (w : World) (h : Snaps w lv l) (hl : l.length ≤ 300) :
    Calls Tryd.prog 13 #[lv, .int .i64 r] w (CliquesPost (ofR l r l.length) w) := by
  have hcon := cliques_any l lv r [] (.slice none 0 0) w h hl (Rd.nil w)
  have HCL := Lib.hid (clq_len [] (ofR l r l.length))
  have hol := ofR_len l r l.length
  obtain ⟨a, c, rfl, -⟩ := h.shape
  clear h
  generalize ofR l r l.length = X at *
  have HP : Hid (∀ e w', (∃ (v : Value) (gs : List Gr), e = .returned v ∧ w'.ownsRow w.heap.size 67 1 v gs.length (gs.map (·.v)) ∧ (∀ g ∈ gs, w'.ownsRow w.heap.size 3 1 g.v g.ids.length (g.ids.map (.int .i64))) ∧ gs.map pg = clq [] X) ∧ Below w.heap.size w w' → CliquesPost X w e w') := fun _ _ h => h
  go_enter Tryd.func13, Tryd.ntmps13
  go_wp2_with fail
  refine hcon.mono ?_
  rintro e w1 ⟨⟨v, gs, rfl, hg, hpg⟩, hb⟩
  have hgl : gs.length ≤ 300 := by
    have := HCL.out
    rw [← hpg] at this
    simp at this
    omega
  have HG := Lib.hid hg
  have HB := Lib.hid hb
  have HPG := Lib.hid hpg
  have hsz := hb.size
  obtain ⟨ga, gc, rfl, gq1, gq2, gq3⟩ := owns_shape hg.row
  have HQ := Lib.hid gq3
  clear hcon hg hb hpg gq3
  go_wp2
  go_loopw [5, 12] (fun u i wr => ∃ k : Nat, k ≤ gs.length ∧ i = .int .i64 k ∧ Hid (wr.ownsRow w1.heap.size 67 1 u k ((gs.take k).map (·.v))) ∧ Hid (Below w1.heap.size w1 wr)) (fun _ i _ => gs.length - (intOf i).toNat)
  case atStart => exact ⟨0, Nat.zero_le _, rfl, World.ownsRow_nil _ _ _ _, Below.refl _ _⟩
  case round =>
    obtain ⟨k, hk, rfl, HO, HW⟩ := hrel
    by_cases hlt : k < gs.length
    · obtain ⟨g, hg⟩ : ∃ g, gs[k]? = some g := ⟨_, List.getElem?_eq_getElem hlt⟩
      obtain ⟨gb, rfl, -⟩ := HQ.out (by omega)
      have hbs := HW.out.size
      have HGW := Lib.hid (HG.out.keep HW.out)
      have HC : Hid (∀ j u, (encG g)[j]? = some u → wr.cell? ⟨gb, k * 6 + j, none⟩ = some u) := fun j u hu => own_cell HGW.out.row (flat_get encG_len gs k g hg j u hu)
      have HT : Hid ((gs.take (k + 1)).map (·.v) = (gs.take k).map (·.v) ++ [g.v]) := map_snoc (fun g : Gr => g.v) hg
      have HE1 := Lib.hid (encG_one HGW.out (List.mem_of_getElem? hg))
      obtain ⟨va, vc, hv, -⟩ := owns_shape (HGW.out.each g (List.mem_of_getElem? hg))
      obtain ⟨c, gv, ids⟩ := g
      simp only at hv HT
      subst hv
      clear hg
      generalize ids.length = il at *
      go_wp2_with (first
        | (refine wpList_loadW W64 rfl rfl rfl (encG ⟨c, .slice va il vc, ids⟩) rfl HC.out ?_)
        | (refine wpList_boxW W64 rfl rfl rfl (encG ⟨c, .slice va il vc, ids⟩) rfl rfl HE1.out rfl ?_; go_must (intro W1 HX hal hz1; have k0 : W1.cell? ⟨wr.heap.size, 5, none⟩ = some (.slice va il vc) := HX.list0 rfl; have zz : wr.heap.size < W1.heap.size := (by omega); have HB1 := Lib.hid hal; have HO1 := Lib.hid (ow_below HO.out hal); clear HX hal hz1))
        | (at_builtin; go_must (refine wpList_app1 E28 rfl _ _ rfl HO1.out [.slice va il vc] rfl (by simp [Value.oneCell']) rfl rfl (by omega) (by omega) ?_; intro v' w3 ho3 hg3)))
      go_roundw
      case rel => exact ⟨k + 1, by omega, by go_num, by rw [HT.out]; exact ho3, (below_app (HW.out.trans (HB1.out.mono hbs)) (Nat.le_refl _) HO1.out hg3 (by omega))⟩
      case measure => simp [intOf]; omega
    · obtain rfl : k = gs.length := by omega
      obtain ⟨ao, co, rfl, -⟩ := owns_shape HO.out
      go_wp2
      go_ret
      refine HP.out _ _ ⟨⟨_, gs, rfl, ?_, fun g hg => ow_below (HG.out.each g hg) HW.out, HPG.out⟩, HB.out.trans (HW.out.mono hsz)⟩
      have := HO.out
      rw [List.take_length] at this
      exact ownsRow_mono this hsz

/-! ### Agree -/
def okR (l : List Sn) (but : List Int) (r : Int) : Bool := decide ((clq but (ofR l r l.length)).length ≤ 1)
def agreeS (l : List Sn) (but : List Int) : Bool := l.all (fun x => okR l but x.r)
def firsts (l : List Sn) (k : Nat) : List Int := ((l.take k).map (·.r)).reverse
theorem firsts_succ {l : List Sn} {k : Nat} {x : Sn} (h : l[k]? = some x) : firsts l (k + 1) = x.r :: firsts l k := by
  unfold firsts; rw [map_snoc (fun x : Sn => x.r) h]; simp
/-- What has been seen: just the rounds of the first k (in some order). -/
def SeenR (l : List Sn) (rs : List Int) (k : Nat) : Prop := ∀ r, rs.contains r = (l.take k).any (fun x => x.r == r)
theorem SeenR.skip {l : List Sn} {rs : List Int} {k : Nat} {x : Sn} (h : SeenR l rs k) (hx : l[k]? = some x) (hs : rs.contains x.r = true) : SeenR l rs (k + 1) := fun r => by
  rw [any_snoc (fun x : Sn => x.r == r) hx, h r]
  by_cases e : x.r = r
  · subst e; rw [h] at hs; simp [hs]
  · simp [e]
theorem SeenR.add {l : List Sn} {rs : List Int} {k : Nat} {x : Sn} (h : SeenR l rs k) (hx : l[k]? = some x) : SeenR l (x.r :: rs) (k + 1) := fun r => by
  rw [any_snoc (fun x : Sn => x.r == r) hx, List.contains_cons, h r, Bool.or_comm]
  congr 1
  rw [Bool.eq_iff_iff]
  simp
  exact ⟨fun e => e.symm, fun e => e.symm⟩
theorem hz4 (w : World) : (zeroValue 4).run Tryd.prog w = .ok (.bool false) w := by kernel_rfl

def AgreePost (b : Bool) (w : World) (e : Ending) (w' : World) : Prop := e = .returned (.bool b) ∧ Below w.heap.size w w'
set_option maxRecDepth 100000 in
set_option maxHeartbeats 1600000 in
theorem agree_any (l : List Sn) (lv : Value) (but : List Int) (bv : Value) (w : World) (h : Snaps w lv l) (hl : l.length ≤ 300) (hi : ∀ x ∈ l, I64 x.r) (hbt : Ns w bv but) :
    Calls Tryd.prog 12 #[lv, bv] w (AgreePost (agreeS l but) w) := by
  have HCON : Hid (∀ r W, Below w.heap.size w W → Calls Tryd.prog 24 #[lv, .int .i64 r, bv] W (CliqPost but (ofR l r l.length) W)) := fun r W hW => cliques_any l lv r but bv W (h.below hW) hl (hbt.below hW)
  have HS := Lib.hid h
  have HI := Lib.hid (fun (k : Nat) x (hk : l[k]? = some x) => hi x (List.mem_of_getElem? hk))
  obtain ⟨a, c, rfl, q1, q2, q3⟩ := h.shape
  obtain ⟨ba, bc, rfl, bq1, bq2, bq3⟩ := hbt.shape
  have HA : Hid (agreeS l but = l.all (fun x => okR l but x.r)) := rfl
  have HOK : Hid (∀ r, okR l but r = decide ((clq but (ofR l r l.length)).length ≤ 1)) := fun _ => rfl
  have HPO : Hid (∀ e w', e = .returned (.bool (agreeS l but)) ∧ Below w.heap.size w w' → AgreePost (agreeS l but) w e w') := fun _ _ h => h
  clear h hbt hi
  generalize agreeS l but = ag at *
  have HSN := Lib.hid (fun (k : Nat) x (hk : l[k]? = some x) => all_snoc (fun x : Sn => okR l but x.r) hk)
  have HOL := Lib.hid (fun r => ofR_len l r l.length)
  have HCL := Lib.hid (fun r => clq_len but (ofR l r l.length))
  generalize hbl : but.length = bl at *
  clear hbl
  generalize hnn : l.length = n at *
  have HN := Lib.hid hnn
  clear hnn
  have hmm := @run_makeMap Tryd.prog
  go_enter Tryd.func12, Tryd.ntmps12
  go_wp2
  clear hmm
  have hB0 : Below w.heap.size w (w.alloc (.map #[] 0)) := below1 w _
  have hS0 : Seen Tryd.prog 3 4 (w.alloc (.map #[] 0)) w.heap.size 0 [] := Seen.made w
  generalize w.alloc (.map #[] 0) = w0 at *
  go_loopw [11] (fun i wr => ∃ (k : Nat) (rs : List Int), k ≤ n ∧ i = .int .i64 k ∧ Hid (Seen Tryd.prog 3 4 wr w.heap.size k rs) ∧ Hid (SeenR l rs k) ∧ Hid ((l.take k).all (fun x => okR l but x.r) = true) ∧ Hid (Below w.heap.size w wr)) (fun i _ => n - (intOf i).toNat)
  case atStart => exact ⟨0, [], Nat.zero_le _, rfl, hS0, fun r => rfl, rfl, hB0⟩
  case round =>
    clear hS0 hB0
    obtain ⟨k, rs, hk, rfl, HM, HR, HL, HW⟩ := hrel
    by_cases hlt : k < n
    · obtain ⟨x, hs⟩ : ∃ x, l[k]? = some x := ⟨_, List.getElem?_eq_getElem (by rw [HN.out]; exact hlt)⟩
      obtain ⟨b, off, rfl, hbl, hc⟩ := (HS.out.below HW.out).row (by rintro rfl; simp at hs)
      have HC := Lib.hid (sn_at hc hs)
      have hx := HI.out k x hs
      have HSX := Lib.hid hs
      have hbs := HW.out.size
      have HX64 := Lib.hid hx
      clear hc hs hx
      cases hcn : rs.contains x.r with
      | true =>
        have HQ : Hid (rs.contains x.r = true) := hcn
        have hz := HL.out
        have HL2 : Hid ((l.take (k + 1)).all (fun x => okR l but x.r) = true) := by
          show _ = _
          rw [HSN.out k x HSX.out, HL.out, Bool.true_and]
          have h1 := hcn
          rw [HR.out x.r, List.any_eq_true] at h1
          obtain ⟨y, hy, hyr⟩ := h1
          have h2 := List.all_eq_true.1 HL.out y hy
          rw [show y.r = x.r by simpa using hyr] at h2
          exact h2
        have HR2 := Lib.hid (HR.out.skip HSX.out hcn)
        clear hcn hz
        go_wp2_with (first
          | (refine wpList_loadW W41 rfl rfl rfl (encS x) rfl HC.out ?_)
          | (refine wpList_boxW W41 rfl rfl rfl (encS x) rfl rfl (encS_one x) rfl ?_; go_must (intro W1 HX hal hz1; have k0 : W1.cell? ⟨wr.heap.size, 0, none⟩ = some (.int .i64 x.r) := HX.list0 rfl; have zz : wr.heap.size < W1.heap.size := (by omega); have HB1 := Lib.hid hal; have HM1 := Lib.hid (HM.out.keep hal); clear HX hal hz1))
          | (refine wpList_seen Tryd.underlying3 Tryd.underlying4 Tryd.underlying73 hz4 HM1.out rfl rfl rfl rfl HX64.out ?_; go_must (rw [HQ.out])))
        go_roundw
        case rel =>
          obtain ⟨D, e1, e2, e3⟩ := HM1.out
          exact ⟨k + 1, rs, by omega, by go_num, ⟨D, e1.mono (by omega), e2, e3⟩, HR2, HL2, HW.out.trans (HB1.out.mono hbs)⟩
        case measure => simp [intOf]; omega
      | false =>
        have HQ : Hid (rs.contains x.r = false) := hcn
        have HR2 := Lib.hid (HR.out.add HSX.out)
        have HOX := Lib.hid (HOK.out x.r)
        have HSX2 := Lib.hid (HSN.out k x HSX.out)
        clear hcn
        go_wp2_with (first
          | (refine wpList_loadW W41 rfl rfl rfl (encS x) rfl HC.out ?_)
          | (refine wpList_boxW W41 rfl rfl rfl (encS x) rfl rfl (encS_one x) rfl ?_; go_must (intro W1 HX hal hz1; have k0 : W1.cell? ⟨wr.heap.size, 0, none⟩ = some (.int .i64 x.r) := HX.list0 rfl; have zz : wr.heap.size < W1.heap.size := (by omega); have HB1 := Lib.hid (HW.out.trans (hal.mono hbs)); have HM1 := Lib.hid (HM.out.keep hal); have HXX := Lib.hid HX; clear HX hal hz1))
          | (refine wpList_seen Tryd.underlying3 Tryd.underlying4 Tryd.underlying73 hz4 HM1.out rfl rfl rfl rfl HX64.out ?_; go_must (rw [HQ.out]))
          | (refine wpList_see Tryd.underlying3 Tryd.underlying4 Tryd.underlying73 HM1.out (by omega) rfl rfl rfl rfl HX64.out rfl ?_; go_must (intro W2 hm2 hg2; have HM2 := Lib.hid hm2; have HB2 : Hid (Below w.heap.size w W2) := (HB1.out.grown hg2 HB1.out.size (fun j e => by cases e; exact Nat.le_refl _)); have HX2 := Lib.hid (HXX.out.kept hg2 (fun e => by have := HM.out.lt; simp at e; omega)); clear k0 zz hm2 hg2; have k0 : W2.cell? ⟨wr.heap.size, 0, none⟩ = some (.int .i64 x.r) := HX2.out.list0 rfl; have zz : wr.heap.size < W2.heap.size := HX2.out.lt))
          | (go_at_call 24; refine (HCON.out x.r W2 HB2.out).mono ?_; go_must (rintro e w3 ⟨⟨v, gs, rfl, hg, hpg⟩, hb3⟩; have HGL : Hid (gs.length = (clq but (ofR l x.r n)).length) := (by show _ = _; rw [← hpg]; simp); obtain ⟨ga, gc, rfl, -⟩ := owns_shape hg.row; have HM3 := Lib.hid (HM2.out.keep hb3); have HB3 : Hid (Below w.heap.size w w3) := HB2.out.trans (hb3.mono HB2.out.size); clear hg hpg hb3; have hg0 : gs.length ≤ 300 := (by have := HGL.out; have h1 := HOL.out x.r; have h2 := HCL.out x.r; omega))))
        · have hgt : 1 < gs.length := by omega
          have HF : Hid (ag = false) := by
            show _ = _
            have h1 : okR l but x.r = false := by rw [HOX.out, decide_eq_false_iff_not, ← HGL.out]; omega
            rw [HA.out, Bool.eq_false_iff]
            intro h2
            have h3 := List.all_eq_true.1 h2 x (List.mem_of_getElem? HSX.out)
            rw [h1] at h3; cases h3
          go_ret
          exact HPO.out _ _ ⟨ret_bool HF.out.symm, HB3.out⟩
        · have hgt : ¬ 1 < gs.length := by omega
          have HL2 : Hid ((l.take (k + 1)).all (fun x => okR l but x.r) = true) := by
            show _ = _
            have h1 : okR l but x.r = true := by rw [HOX.out, decide_eq_true_iff, ← HGL.out]; omega
            rw [HSX2.out, HL.out, h1]; rfl
          go_roundw
          case rel => exact ⟨k + 1, x.r :: rs, by omega, by go_num, HM3, HR2, HL2, HB3⟩
          case measure => simp [intOf]; omega
    · obtain rfl : n = k := by omega
      go_wp2
      go_ret
      refine HPO.out _ _ ⟨?_, HW.out⟩
      have := HL.out
      rw [List.take_of_length_le (by rw [HN.out]; exact Nat.le_refl _), ← HA.out] at this
      rw [this]; rfl
end Go.Proofs.YtjaaldeaknmmbaaDoor
