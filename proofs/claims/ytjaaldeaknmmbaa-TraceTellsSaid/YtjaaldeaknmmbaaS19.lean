/- The document's Cliques and Agree; slices.EqualFunc at rows of numbers. -/
import Derived.Test.YtjaaldeaknmmbaaS18
namespace Go.Proofs.Ytjaaldeaknmmbaa
open Go.RowKit Go.Shelf

theorem ofR_all (l : List Sn) (r : Int) : (ofR l r l.length).length ≤ l.length := ofR_len l r l.length
set_option maxRecDepth 100000 in
theorem rcliques_any (l : List Sn) (lv : Value) (r : Int) (w : World) (h : Snaps w lv l) (hl : l.length ≤ 300) : Calls Try.prog 17 #[lv, .int .i64 r] w (GroupsPost [] (ofR l r l.length) w) := by
  have hr := rround_any l lv r w h hl
  have hol := ofR_all l r
  have HPO : Hid (∀ (w1 : World) e w', Below w.heap.size w w1 → GroupsPost [] (ofR l r l.length) w1 e w' → GroupsPost [] (ofR l r l.length) w e w') := fun w1 e w' hb hg => by
    obtain ⟨⟨v, gs, he, h1, h2, h3⟩, h4⟩ := hg
    exact ⟨⟨v, gs, he, ownsRow_mono h1 hb.size, fun g hg => ownsRow_mono (h2 g hg) hb.size, h3⟩, hb.trans (h4.mono hb.size)⟩
  obtain ⟨a, c, rfl, _⟩ := h.shape
  clear h
  generalize ofR l r l.length = X at *
  generalize l.length = n at *
  go_enter Try.func17, Try.ntmps17
  go_wp2_with fail
  refine hr.mono ?_
  rintro e w1 ⟨⟨v', rfl, ho⟩, hb⟩
  have hg := groups_any X v' [] (.slice none 0 0) w1 (Rd.of_owns encS_len ho (by omega)) (by omega) (Rd.nil w1)
  have HB := Lib.hid hb
  clear hr ho hb
  go_wp2_with fail
  refine hg.mono ?_
  rintro e w2 hp
  have HQ := Lib.hid (HPO.out _ _ _ HB.out hp)
  obtain ⟨⟨v2, gs, rfl, ho2, -⟩, -⟩ := hp
  obtain ⟨va, vc, rfl, -⟩ := owns_shape ho2
  clear ho2 hg
  go_wp2
  go_ret
  exact HQ.out

set_option maxRecDepth 100000 in
set_option maxHeartbeats 800000 in
theorem ragree_any (l : List Sn) (lv : Value) (but : List Int) (bv : Value) (w : World) (h : Snaps w lv l) (hl : l.length ≤ 300) (hbt : Ns w bv but) :
    Calls Try.prog 21 #[lv, bv] w (AgreePost (agreeS l but) w) := by
  have HS := Lib.hid h
  have HNS := Lib.hid hbt
  have HR : Hid (∀ r W, Below w.heap.size w W → Calls Try.prog 15 #[lv, .int .i64 r] W fun e w' => (∃ v', e = .returned v' ∧ w'.ownsRow W.heap.size 41 23 v' (ofR l r l.length).length ((ofR l r l.length).flatMap encS)) ∧ Below W.heap.size W w') := fun r W hW => rround_any l lv r W (h.below hW) hl
  have HGR : Hid (∀ (X : List Sn) v W, X.length ≤ 300 → Snaps W v X → Below w.heap.size w W → Calls Try.prog 32 #[v, bv] W (GroupsPost but X W)) := fun X v W hX hS hW => groups_any X v but bv W hS hX (hbt.below hW)
  have HOL : Hid (∀ r, (ofR l r l.length).length ≤ 300) := fun r => Nat.le_trans (ofR_all l r) hl
  have HA : Hid (agreeS l but = l.all (fun x => okR l but x.r)) := rfl
  have HOK : Hid (∀ r, okR l but r = decide ((clq but (ofR l r l.length)).length ≤ 1)) := fun _ => rfl
  have HPO : Hid (∀ e w', e = .returned (.bool (agreeS l but)) ∧ Below w.heap.size w w' → AgreePost (agreeS l but) w e w') := fun _ _ h => h
  have HSN := Lib.hid (fun (k : Nat) x (hk : l[k]? = some x) => all_snoc (fun x : Sn => okR l but x.r) hk)
  have HG : Hid (∀ k, k < l.length → ∃ x, l[k]? = some x) := fun k hk => ⟨_, List.getElem?_eq_getElem hk⟩
  have HT : Hid (∀ k, l.length ≤ k → l.take k = l) := fun k hk => List.take_of_length_le hk
  have HCL := Lib.hid (fun r => clq_len but (ofR l r l.length))
  obtain ⟨a, c, rfl, q1, q2, q3⟩ := h.shape
  obtain ⟨ba, bc, rfl, bq1, bq2, bq3⟩ := hbt.shape
  clear h hbt
  generalize agreeS l but = ag at *
  generalize hnn : l.length = n at *
  clear hnn
  generalize but.length = bl at *
  go_enter Try.func21, Try.ntmps21
  go_wp2
  go_loopw [5] (fun i wr => ∃ k : Nat, k ≤ n ∧ i = .int .i64 k ∧ Hid ((l.take k).all (fun x => okR l but x.r) = true) ∧ Hid (Below w.heap.size w wr)) (fun i _ => n - (intOf i).toNat)
  case atStart => exact ⟨0, Nat.zero_le _, rfl, rfl, Below.refl _ _⟩
  case round =>
    obtain ⟨k, hk, rfl, HI, HW⟩ := hrel
    by_cases hlt : k < n
    · obtain ⟨x, hs⟩ := HG.out k hlt
      obtain ⟨b, off, rfl, hbl, hc⟩ := (HS.out.below HW.out).row (by rintro rfl; simp at hs)
      have c0 := sn_r hc hs
      have HSX := Lib.hid (HSN.out k x hs)
      have HMX := Lib.hid (List.mem_of_getElem? hs)
      have HOX := Lib.hid (HOK.out x.r)
      have hbs := HW.out.size
      have h15 := HR.out x.r wr HW.out
      clear hs hc
      go_wp2_with fail
      refine h15.mono ?_
      rintro e w1 ⟨⟨v1, rfl, ho⟩, hb⟩
      have HB1 := Lib.hid (HW.out.trans (hb.mono hbs))
      have h32 := HGR.out _ v1 w1 (HOL.out x.r) (Rd.of_owns encS_len ho (by have := HOL.out x.r; omega)) HB1.out
      have hol := HOL.out x.r
      have hcl := HCL.out x.r
      generalize ofR l x.r n = X at *
      obtain ⟨va, vc, rfl, -⟩ := owns_shape ho
      clear h15 ho hb
      go_wp2_with fail
      refine h32.mono ?_
      rintro e w2 ⟨⟨v2, gs, rfl, ho2, -, hpg⟩, hb⟩
      have HB2 := Lib.hid (HB1.out.trans (hb.mono HB1.out.size))
      have hgl : gs.length = (clq but X).length := by rw [← hpg]; simp
      have hg3 : gs.length ≤ 300 := by omega
      have HGL := Lib.hid hgl
      obtain ⟨ga, gc, rfl, -⟩ := owns_shape ho2
      clear h32 ho2 hb hpg hgl
      by_cases h1 : gs.length ≤ 1
      · have hd : decide ((1 : Int) < (gs.length : Int)) = false := decide_eq_false (by omega)
        have hd2 : decide (1 < gs.length) = false := decide_eq_false (by omega)
        have HI2 : Hid ((l.take (k + 1)).all (fun x => okR l but x.r) = true) := by
          show _ = _
          rw [HSX.out, HI.out, HOX.out, decide_eq_true (by rw [← HGL.out]; exact h1)]; rfl
        go_wp2
        go_roundw
        case rel => exact ⟨k + 1, by omega, by go_num, HI2, HB2⟩
        case measure => simp [intOf]; omega
      · have hd : decide ((1 : Int) < (gs.length : Int)) = true := decide_eq_true (by omega)
        have hd2 : decide (1 < gs.length) = true := decide_eq_true (by omega)
        have HF : Hid (ag = false) := by
          show _ = _
          have h2 : okR l but x.r = false := by rw [HOX.out, decide_eq_false_iff_not, ← HGL.out]; exact h1
          rw [HA.out, Bool.eq_false_iff]
          intro h3
          have h4 := List.all_eq_true.1 h3 x HMX.out
          rw [h2] at h4; cases h4
        go_wp2
        go_ret
        exact HPO.out _ _ ⟨ret_bool HF.out.symm, HB2.out⟩
    · obtain rfl : n = k := by omega
      have HF : Hid (ag = true) := by show _ = _; rw [HA.out, ← HI.out, HT.out _ (Nat.le_refl _)]
      go_wp2
      go_ret
      exact HPO.out _ _ ⟨ret_bool HF.out.symm, HW.out⟩

/-! ### The same rows of numbers -/
set_option maxRecDepth 100000 in
set_option maxHeartbeats 800000 in
theorem nequal_any (l : List Int) (v v' : Value) (w : World) (h : Ns w v l) (h' : Ns w v' l) : Calls Try.prog 19 #[v, v'] w (SamePost true w) := by
  have HPO : Hid (∀ w', Below w.heap.size w w' → SamePost true w (.returned (.bool true)) w') := fun _ hb => ⟨rfl, hb⟩
  have HR := Lib.hid h
  have HR' := Lib.hid h'
  obtain ⟨a, c, rfl, q1, q2, q3⟩ := h.shape
  obtain ⟨a', c', rfl, r1, r2, r3⟩ := h'.shape
  have HG : Hid (∀ k, k < l.length → ∃ y, l[k]? = some y) := fun k hk => ⟨_, List.getElem?_eq_getElem hk⟩
  clear h h'
  generalize l.length = n at *
  have e0 : ((n : Int) != (n : Int)) = false := by simp
  have e0' : (n != n) = false := by simp
  go_enter Try.func19, Try.ntmps19
  go_wp2
  go_loopw [13] (fun i wr => ∃ k : Nat, k ≤ n ∧ i = .int .i64 k ∧ Hid (Below w.heap.size w wr)) (fun i _ => n - (intOf i).toNat)
  case atStart => exact ⟨0, Nat.zero_le _, rfl, Below.refl _ _⟩
  case round =>
    obtain ⟨k, hk, rfl, HW⟩ := hrel
    by_cases hlt : k < n
    · obtain ⟨y, hy⟩ := HG.out k hlt
      obtain ⟨b, off, rfl, hbl, hc⟩ := (HR.out.below HW.out).row (by rintro rfl; simp at hy)
      obtain ⟨b', off', rfl, hbl', hc'⟩ := (HR'.out.below HW.out).row (by rintro rfl; simp at hy)
      have c0 : wr.cell? ⟨b, off + k, none⟩ = some (.int .i64 y) := hc.one (f := fun x => .int .i64 x) hy
      have c1 : wr.cell? ⟨b', off' + k, none⟩ = some (.int .i64 y) := hc'.one (f := fun x => .int .i64 x) hy
      have e1 : (y != y) = false := by simp
      have HB := Lib.hid (fun n => HW.out.trans (below_drewN (Below.refl w.heap.size wr) n))
      clear hy hc hc'
      go_upto_region 6 with fail
      go_quiet (fail)
      go_wp2
      go_roundw
      case rel => exact ⟨k + 1, by omega, by go_num, HB.out _⟩
      case measure => simp [intOf]; omega
    · obtain rfl : n = k := by omega
      go_wp2
      go_ret
      exact HPO.out _ HW.out
set_option maxHeartbeats 800000 in
theorem clo18_any (l : List Int) (v v' : Value) (w : World) (h : Ns w v l) (h' : Ns w v' l) : Calls Try.prog 18 #[v, v'] w (SamePost true w) := by
  have hq := nequal_any l v v' w h h'
  have HPO : Hid (∀ w', Below w.heap.size w w' → SamePost true w (.returned (.bool true)) w') := fun _ hb => ⟨rfl, hb⟩
  obtain ⟨a, c, rfl, q1, q2, q3⟩ := h.shape
  obtain ⟨a', c', rfl, r1, r2, r3⟩ := h'.shape
  clear h h'
  go_enter Try.func18, Try.ntmps18
  go_wp2_with fail
  refine hq.mono ?_
  rintro e w1 ⟨rfl, hb⟩
  have HB := Lib.hid hb
  clear hq hb
  go_wp2
  go_ret
  exact HPO.out _ HB.out
set_option maxRecDepth 100000 in
set_option maxHeartbeats 800000 in
theorem eqRows_any (gs gs' : List Gr) (v v' : Value) (w : World) (h : Rd (fun g : Gr => [g.v]) 1 w v gs) (h' : Rd (fun g : Gr => [g.v]) 1 w v' gs') (hg : ∀ g ∈ gs, Ns w g.v g.ids) (hg' : ∀ g ∈ gs', Ns w g.v g.ids) (he : gs.map pg = gs'.map pg) :
    Calls Try.prog 16 #[v, v', .func (.func 18) #[] #[]] w (SamePost true w) := by
  have HPO : Hid (∀ w', Below w.heap.size w w' → SamePost true w (.returned (.bool true)) w') := fun _ hb => ⟨rfl, hb⟩
  have HR := Lib.hid h
  have HR' := Lib.hid h'
  have hln : gs.length = gs'.length := by have := congrArg List.length he; simpa using this
  obtain ⟨a, c, rfl, q1, q2, q3⟩ := h.shape
  obtain ⟨a', c', rfl, r1, r2, r3⟩ := h'.shape
  have HG : Hid (∀ k, k < gs.length → ∃ g g', gs[k]? = some g ∧ gs'[k]? = some g' ∧ Ns w g.v g.ids ∧ Ns w g'.v g.ids) := fun k hk => by
    have hk' : k < gs'.length := by omega
    have e1 := List.getElem?_eq_getElem hk
    have e2 := List.getElem?_eq_getElem hk'
    refine ⟨_, _, e1, e2, hg _ (List.getElem_mem hk), ?_⟩
    have := congrArg (fun l => l[k]?) he
    simp only [List.getElem?_map, e1, e2, Option.map_some, Option.some.injEq, pg, Prod.mk.injEq] at this
    rw [this.2]
    exact hg' _ (List.getElem_mem hk')
  rw [← hln] at *
  clear h h' hg hg' he hln
  generalize gs.length = n at *
  have e0 : ((n : Int) != (n : Int)) = false := by simp
  have e0' : (n != n) = false := by simp
  go_enter Try.func16, Try.ntmps16
  go_wp2
  go_loopw [17] (fun i wr => ∃ k : Nat, k ≤ n ∧ i = .int .i64 k ∧ Hid (Below w.heap.size w wr)) (fun i _ => n - (intOf i).toNat)
  case atStart => exact ⟨0, Nat.zero_le _, rfl, Below.refl _ _⟩
  case round =>
    obtain ⟨k, hk, rfl, HW⟩ := hrel
    by_cases hlt : k < n
    · obtain ⟨g, g', hy, hy', n1, n2⟩ := HG.out k hlt
      obtain ⟨b, off, rfl, hbl, hc⟩ := (HR.out.below HW.out).row (by rintro rfl; simp at hy)
      obtain ⟨b', off', rfl, hbl', hc'⟩ := (HR'.out.below HW.out).row (by rintro rfl; simp at hy')
      have c0 : wr.cell? ⟨b, off + k, none⟩ = some g.v := hc.one (f := fun g : Gr => g.v) hy
      have c1 : wr.cell? ⟨b', off' + k, none⟩ = some g'.v := hc'.one (f := fun g : Gr => g.v) hy'
      have hcon := clo18_any g.ids g.v g'.v wr (n1.below HW.out) (n2.below HW.out)
      obtain ⟨x1, x2, e1, -⟩ := n1.shape
      obtain ⟨y1, y2, e2, -⟩ := n2.shape
      rw [e1] at c0 hcon
      rw [e2] at c1 hcon
      have hbs := HW.out.size
      clear hy hy' hc hc' n1 n2 e1 e2
      generalize g.ids.length = il at *
      go_wp2_with (go_at_call 18; refine hcon.mono ?_; rintro e w1 ⟨rfl, hb⟩; have HB1 := Lib.hid (HW.out.trans (hb.mono hbs)); clear hb)
      go_roundw
      case rel => exact ⟨k + 1, by omega, by go_num, HB1⟩
      case measure => simp [intOf]; omega
    · obtain rfl : n = k := by omega
      go_wp2
      go_ret
      exact HPO.out _ HW.out
end Go.Proofs.Ytjaaldeaknmmbaa
