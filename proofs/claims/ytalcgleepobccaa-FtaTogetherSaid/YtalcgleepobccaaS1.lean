/- The contract of the program's Settle and of the document's. -/
import Derived.Test.YtalcgleepobccaaP3
import Derived.Test.YtalcgleepobccaaR4
namespace Go.Proofs.Ytalcgleepobccaa
open Go.RowKit Go.Shelf

theorem settle_err {cl : List Int} {r : Int} {w w' : World} {z : Int} (hE : setE cl r = z) (hL : setL cl r = []) (hb : Below w.heap.size w w') :
    SettlePost cl r w (.returned (.tuple #[.slice none 0 0, .int .i64 z])) w' :=
  ⟨⟨_, by rw [hE], by rw [hL]; exact World.ownsRow_nil _ _ _ _⟩, hb⟩
theorem setE_arg {cl : List Int} {r : Int} (h : setBad cl r = true) : setE cl r = 2 ∧ setL cl r = [] := by
  unfold setE setL
  simp [h]
theorem setE_off {cl : List Int} {r : Int} (h : setBad cl r = false) (h' : cl.any (Fta.far B38) = true) : setE cl r = 80 ∧ setL cl r = [] := by
  unfold setE setL
  simp [h, h']
theorem setE_ok {cl : List Int} {r : Int} (h : setBad cl r = false) (h' : cl.any (Fta.far B38) = false) : setE cl r = 0 ∧ setL cl r = its cl r.toNat := by
  unfold setE setL
  simp [h, h']

theorem E42 : Elem Try.prog 42 22 (.slice none 0 0) 1 24 := ⟨Try.underlying42, by kernel_rfl, rfl, by decide, by decide⟩

/-- Rows of element types that differ lie in different blocks. -/
theorem own_ne {w : World} {b b' : Nat} {e e' : TypeId} {s s' : Nat} {v v' : Value} {n n' : Nat} {xs xs' : List Value} (h : w.ownsRow b e s v n xs) (h' : w.ownsRow b' e' s' v' n' xs') (hne : e ≠ e') :
    v.ownBlock = none ∨ v.ownBlock ≠ v'.ownBlock := by
  rcases h.2 with ⟨rfl, _⟩ | ⟨g, cap, cur, rfl, _, hh, _⟩
  · exact .inl rfl
  · rcases h'.2 with ⟨rfl, _⟩ | ⟨g', cap', cur', rfl, _, hh', _⟩
    · exact .inr (by simp [Value.ownBlock])
    · refine .inr fun e2 => ?_
      obtain rfl : g = g' := by simpa [Value.ownBlock] using e2
      rw [hh] at hh'
      simp at hh'
      exact hne (by first | exact hh'.2.1 | exact hh'.2)

/-- Rows of zeros of the call's own. -/
def OwnZeros (w : World) (B n : Nat) (rs : List Rw) : Prop := ∀ r ∈ rs, r.l = zeros n ∧ w.ownsRow B 2 1 (rwv r) r.l.length (r.l.map (.int .i64))
theorem OwnZeros.kept {w w' : World} {B n : Nat} {rs : List Rw} (h : OwnZeros w B n rs) {u : Value} {bo k : Nat} {xs : List Value} (ho : w.ownsRow bo 22 1 u k xs) (hg : w.grownBy w' u.ownBlock) : OwnZeros w' B n rs := fun r hr =>
  ⟨(h r hr).1, (h r hr).2.kept hg (own_ne (h r hr).2 ho (by decide))⟩
theorem OwnZeros.below {w w' : World} {B n : Nat} {rs : List Rw} (h : OwnZeros w B n rs) (hb : Below w.heap.size w w') : OwnZeros w' B n rs := fun r hr =>
  ⟨(h r hr).1, owK (h r hr).2 hb rfl⟩
theorem rw_flat (rs : List Rw) : rs.flatMap encRw = rs.map rwv := by
  induction rs with
  | nil => rfl
  | cons r rs ih => simp [List.flatMap_cons, encRw, ih]
theorem OwnZeros.mat {w : World} {B n : Nat} {rs : List Rw} (h : OwnZeros w B n rs) (hn : n ≤ 8) {bo : Nat} {u : Value} (hk : rs.length = n) (ho : w.ownsRow bo 22 1 u n (rs.map rwv)) : Mat w u rs ∧ allZero n rs := by
  refine ⟨⟨Rd.of_owns (enc := encRw) (fun _ => rfl) (base := bo) (e := 22) (by rw [rw_flat, hk]; exact ho) (by omega), fun r hr => ?_⟩, hk, fun r hr => (h r hr).1⟩
  have hl := (h r hr).1
  have hl2 : r.l.length = n := by rw [hl]; simp [zeros]
  exact Ints.of_owns (h r hr).2 (by omega) (fun x hx => by
    rw [hl] at hx
    rw [List.eq_of_mem_replicate hx]
    unfold I64; omega)
theorem made_zeros (n : Nat) : (madeCells (Value.int .i64 0).cells (n * 1)).toList = (zeros n).map (Value.int .i64) := by
  rw [made_part (fun _ => 0), part_zero]; rfl
theorem made_nils (n : Nat) : (madeCells (Value.slice none 0 0).cells (n * 1)).toList = List.replicate n (Value.slice none 0 0) := by
  apply List.ext_getElem?
  intro j
  by_cases hj : j < n
  · simp [madeCells, Value.cells, hj, Nat.mod_one]
  · simp [madeCells, hj]
theorem ints_its {w : World} {B : Nat} {u : Value} {cl : List Int} (k : Nat) (hn : cl ≠ []) (h8 : cl.length ≤ 8) (hc : cl.any (Fta.far B38) = false) (ho : w.ownsRow B 2 1 u (its cl k).length ((its cl k).map (.int .i64))) : Ints w u (its cl k) :=
  Ints.of_owns ho (by have := its_len cl k; omega) (fun x hx => by have := of_far (its_far hn hc k) x hx; unfold I64; omega)

theorem zrow_step {w : World} {B n j g b : Nat} {rs : List Rw} (hrs : rs.length = j) (hj : j < n) (hoz : OwnZeros w B n rs)
    (hrow : w.ownsRow B 22 1 (.slice (some ⟨g, 0, none⟩) n n) n (rs.map rwv ++ List.replicate (n - j) (.slice none 0 0))) (hnew : w.ownsRow B 2 1 (.slice (some ⟨b, 0, none⟩) n n) n ((zeros n).map (.int .i64))) :
    ∃ rs' : List Rw, rs'.length = j + 1 ∧ OwnZeros (w.setCell ⟨g, j, none⟩ (.slice (some ⟨b, 0, none⟩) n n)) B n rs' ∧
      (w.setCell ⟨g, j, none⟩ (.slice (some ⟨b, 0, none⟩) n n)).ownsRow B 22 1 (.slice (some ⟨g, 0, none⟩) n n) n (rs'.map rwv ++ List.replicate (n - (j + 1)) (.slice none 0 0)) := by
  obtain ⟨h1, h2⟩ := hrow.stored j (.slice (some ⟨b, 0, none⟩) n n)
  have hzl : (zeros n).length = n := by simp [zeros]
  have hrv : rwv ⟨some ⟨b, 0, none⟩, n, zeros n⟩ = .slice (some ⟨b, 0, none⟩) n n := by unfold rwv; simp only [hzl]
  refine ⟨rs ++ [⟨some ⟨b, 0, none⟩, n, zeros n⟩], by simp [hrs], fun r hr => ?_, ?_⟩
  · have h3 : some g = (Value.slice (some ⟨g, 0, none⟩) n n).ownBlock := by simp [Value.ownBlock]
    rcases List.mem_append.1 hr with hr | hr
    · exact (hoz.kept hrow (h3 ▸ h2)) r hr
    · simp at hr
      subst hr
      refine ⟨rfl, ?_⟩
      rw [hrv, hzl]
      exact hnew.kept h2 (h3 ▸ own_ne hnew hrow (by decide))
  · rw [List.set_append_right _ _ (by simp [hrs])] at h1
    simp only [List.length_map, hrs, Nat.sub_self] at h1
    rw [show n - j = n - (j + 1) + 1 by omega, List.replicate_succ, List.set_cons_zero] at h1
    simpa [hrv] using h1
theorem nil_at {n j : Nat} {rs : List Rw} (hrs : rs.length = j) (hj : j < n) : (rs.map rwv ++ List.replicate (n - j) (Value.slice none 0 0))[j]? = some (.slice none 0 0) := by
  rw [List.getElem?_append_right (by simp [hrs]), List.length_map, hrs, Nat.sub_self, List.getElem?_replicate, if_pos (by omega)]

set_option maxRecDepth 100000 in
set_option maxHeartbeats 1600000 in
/-- The program's Settle. -/
theorem settle_any (cl : List Int) (v : Value) (r : Int) (w : World) (h : Ints w v cl) (_hr : I64 r) :
    Calls Try.prog 21 #[v, .int .i64 r] w (SettlePost cl r w) := by
  have hcon := anyFar_any cl v 274877906944 w (by decide) (by decide) h
  have hcl : ∀ W, Below w.heap.size w W → Calls Try.prog 13 #[v] W fun e w' => (∃ v', e = .returned v' ∧ w'.ownsRow W.heap.size 2 1 v' cl.length (cl.map (.int .i64))) ∧ Below W.heap.size W w' := fun W hW => clone_any cl v W (h.below hW)
  obtain ⟨a, cap, rfl, q1, q2, q3⟩ := h.shape
  have hS : Hid (setBad cl r = (decide (r < 0) || decide (64 < r) || decide (cl.length < 4) || decide (8 < cl.length))) := rfl
  by_cases hb : setBad cl r = true
  · have hE := Lib.hid (setE_arg hb)
    rw [hS.out] at hb
    simp only [Bool.or_eq_true, decide_eq_true_eq] at hb
    clear hcon hcl h hS
    generalize cl.length = n at *
    rcases (show r < 0 ∨ (0 ≤ r ∧ 64 < r) ∨ (0 ≤ r ∧ r ≤ 64 ∧ (n : Int) < 4) ∨ (0 ≤ r ∧ r ≤ 64 ∧ 4 ≤ (n : Int) ∧ 8 < (n : Int)) by omega) with hz | ⟨hz, hz'⟩ | ⟨hz, hz', hz2⟩ | ⟨hz, hz', hz2, hz3⟩
    all_goals clear hb
    all_goals go_enter Try.func21, Try.ntmps21
    all_goals go_wp2
    all_goals go_ret2
    all_goals exact settle_err hE.out.1 hE.out.2 (Below.refl _ _)
  have hb : setBad cl r = false := by simpa using hb
  have hb' := hb
  rw [hS.out] at hb'
  simp only [Bool.or_eq_false_iff, decide_eq_false_iff_not] at hb'
  obtain ⟨⟨⟨r0, r1⟩, n4⟩, n8⟩ := hb'
  have r0' : 0 ≤ r := by omega
  have r1' : r ≤ 64 := by omega
  have n4' : (4 : Int) ≤ cl.length := by omega
  have n8' : (cl.length : Int) ≤ 8 := by omega
  by_cases hf : cl.any (Fta.far B38) = true
  · have hE := Lib.hid (setE_off hb hf)
    rw [show cl.any (Fta.far 274877906944) = true from hf] at hcon
    clear hcl h hS hb hf r0 r1 n4 n8
    generalize cl.length = n at *
    go_enter Try.func21, Try.ntmps21
    go_wp2_with fail
    refine hcon.mono ?_
    rintro e w1 ⟨rfl, hb1⟩
    go_wp2
    go_ret2
    exact settle_err hE.out.1 hE.out.2 hb1
  have hf : cl.any (Fta.far B38) = false := by simpa using hf
  have hE := Lib.hid (setE_ok hb hf)
  rw [show cl.any (Fta.far 274877906944) = false from hf] at hcon
  have hne : cl ≠ [] := by rintro rfl; simp at n4'
  have HF := Lib.hid hf
  have HNE := Lib.hid hne
  have hEl : Hid (cl.length = cl.length) := rfl
  obtain ⟨n, hn⟩ : ∃ n, cl.length = n := ⟨_, rfl⟩
  have HN := Lib.hid hn
  obtain ⟨R, hR⟩ : ∃ R : Nat, r = R := ⟨r.toNat, by omega⟩
  subst hR
  rw [show ((R : Int)).toNat = R by omega] at hE
  rw [hn] at hcon hcl q1 q3 n4' n8' ⊢
  clear hn hS hb hf hne h r0 r1 n4 n8 hEl
  obtain ⟨i0, hi, hz0, hz1, hz2⟩ := info_parts E22.info
  obtain ⟨i1, hi1, hy0, hy1, hy2⟩ := info_parts E42.info
  go_enter Try.func21, Try.ntmps21
  go_wp2_with fail
  refine hcon.mono ?_
  rintro e w1 ⟨rfl, hb1⟩
  clear hcon
  have hs1 := hb1.size
  go_wp2_with (at_make; refine wpList_make_full _ rfl _ _ 42 rfl w.heap.size 22 i1 (.slice none 0 0) 1 Try.underlying42 hi1 hy0 hy1 _ _ _ _ n rfl rfl rfl rfl (by rw [hy2]; omega) (by unfold maxLen; omega) hs1 ?_; intro w4 hown4 hgrow4; have b4 := hb1.grown hgrow4 hb1.size (by intro k hk; cases hk))
  rw [made_nils] at hown4
  generalize w1.heap.size = g at *
  clear hgrow4
  go_loopw [35] (fun i wr => ∃ j : Nat, j ≤ n ∧ i = .int .i64 j ∧ (∃ rs : List Rw, rs.length = j ∧ OwnZeros wr w.heap.size n rs ∧ wr.ownsRow w.heap.size 22 1 (.slice (some ⟨g, 0, none⟩) n n) n (rs.map rwv ++ List.replicate (n - j) (.slice none 0 0))) ∧ Below w.heap.size w wr) (fun i _ => n - (intOf i).toNat)
  case atStart => exact ⟨0, Nat.zero_le _, rfl, ⟨[], rfl, fun r hr => (by cases hr), hown4⟩, b4⟩
  case round =>
    obtain ⟨j, hj, rfl, ⟨rs, hrs, hoz, hrow⟩, hbr⟩ := hrel
    clear hown4 b4
    by_cases hlt : j < n
    · have HRS := Lib.hid hrs
      clear hrs
      go_wp2_with (at_make; refine wpList_make_full _ rfl _ _ 22 rfl w.heap.size 2 i0 (.int .i64 0) 1 Try.underlying22 hi hz0 hz1 _ _ _ _ n rfl rfl rfl rfl (by rw [hz2]; omega) (by unfold maxLen; omega) hbr.size ?_; intro w5 hown5 hgrow5; have b5 := hbr.grown hgrow5 hbr.size (by intro k hk; cases hk); have hrow5 := hrow.kept hgrow5 (.inr (by simp [Value.ownBlock])); obtain ⟨ho1, ho2⟩ := own_at hrow5 (nil_at HRS.out hlt); have hoz5 : OwnZeros w5 w.heap.size n rs := fun r hr => ⟨(hoz r hr).1, (hoz r hr).2.kept hgrow5 (by cases hv : (rwv r).ownBlock <;> simp)⟩)
      rw [made_zeros] at hown5
      have hstep := Lib.hid (zrow_step HRS.out hlt hoz5 hrow5 hown5)
      have hgB : w.heap.size ≤ g := (hrow5.lt g (by simp [Value.ownBlock])).1
      go_roundw
      case rel => exact ⟨j + 1, by omega, by go_num, hstep.out, b5.setCell (p := ⟨g, j, none⟩) hgB _⟩
      case measure => simp [intOf]; omega
    · have hjn : j = n := by omega
      have hmat := hoz.mat (u := .slice (some ⟨g, 0, none⟩) n n) (bo := w.heap.size) (by omega) (hrs.trans hjn) (by rw [hjn] at hrow; simpa using hrow)
      obtain ⟨hM, hZ⟩ := hmat
      have HZ := Lib.hid hZ
      clear hoz hrow hrs hjn hZ
      obtain ⟨w6, rfl⟩ : ∃ w6, w6 = wr := ⟨_, rfl⟩
      go_wp2_with fail
      refine (hcl w6 hbr).mono ?_
      rintro e w7 ⟨⟨cv, rfl, hcv⟩, hb7⟩
      clear hcl
      have hcv0 : w7.ownsRow w6.heap.size 2 1 cv (its cl 0).length ((its cl 0).map (.int .i64)) := by rw [its, HN.out]; exact hcv
      clear hcv
      go_wp2_with fail
      go_loopw [9, 47] (fun z i wr => ∃ k : Nat, k ≤ R ∧ i = .int .i64 k ∧ (∃ lv, lv = z ∧ wr.ownsRow w6.heap.size 2 1 lv (its cl k).length ((its cl k).map (.int .i64))) ∧ Below w6.heap.size w6 wr) (fun _ i _ => R - (intOf i).toNat)
      case atStart => exact ⟨0, Nat.zero_le _, rfl, ⟨_, rfl, hcv0⟩, hb7⟩
      case round =>
        obtain ⟨k, hk, rfl, ⟨lv, rfl, hlv⟩, hbi⟩ := hrel
        clear hcv0 hb7
        by_cases hlk : k < R
        · have hil := its_len cl k
          have hrd := round_any (its cl k) lv rs _ wr (ints_its k HNE.out (by rw [HN.out]; omega) HF.out hlv) (hM.below hbi)
          have hz := rnd_zero (cl := its cl k) (M := rs) (by rw [hil, HN.out]; omega) (by rw [hil, HN.out]; omega) (by rw [hil, HN.out]; exact HZ.out) (its_far HNE.out HF.out k)
          have HP : ∀ e w', RoundPost (its cl k) rs wr e w' → (∃ v', e = .returned (.tuple #[v', .int .i64 0]) ∧ w'.ownsRow wr.heap.size 2 1 v' (its cl (k + 1)).length ((its cl (k + 1)).map (.int .i64))) ∧ Below wr.heap.size wr w' := fun e w' ⟨⟨v', he, ho⟩, hb⟩ => by
            rw [hz.1] at he
            rw [hz.2] at ho
            exact ⟨⟨v', he, ho⟩, hb⟩
          have hrd := hrd.mono HP
          clear hil hz HP hlv hM
          go_wp2_with fail
          refine hrd.mono ?_
          rintro e w8 ⟨⟨nv, rfl, hnv⟩, hb8⟩
          clear hrd
          go_wp2
          go_roundw
          case rel => exact ⟨k + 1, by omega, by go_num, ⟨_, rfl, owBase hnv hbi.size⟩, hbi.trans (hb8.mono hbi.size)⟩
          case measure => simp [intOf]; omega
        · obtain rfl : k = R := by omega
          go_wp2
          go_ret2
          exact ⟨⟨_, by rw [hE.out.1]; rfl, by rw [hE.out.2]; exact owBase hlv hbr.size⟩, hbr.trans (hbi.mono hbr.size)⟩

theorem zrow_app {w w' : World} {B n j b : Nat} {rs : List Rw} {u : Value} (hrs : rs.length = j) (hoz : OwnZeros w B n rs) (hrow : w.ownsRow B 22 1 u j (rs.map rwv)) (hnew : w.ownsRow B 2 1 (.slice (some ⟨b, 0, none⟩) n n) n ((zeros n).map (.int .i64)))
    (hg : w.grownBy w' u.ownBlock) {u' : Value} (h : w'.ownsRow B 22 1 u' (j + 1) (rs.map rwv ++ [.slice (some ⟨b, 0, none⟩) n n])) :
    ∃ rs' : List Rw, rs'.length = j + 1 ∧ OwnZeros w' B n rs' ∧ w'.ownsRow B 22 1 u' (j + 1) (rs'.map rwv) := by
  have hzl : (zeros n).length = n := by simp [zeros]
  have hrv : rwv ⟨some ⟨b, 0, none⟩, n, zeros n⟩ = .slice (some ⟨b, 0, none⟩) n n := by unfold rwv; simp only [hzl]
  refine ⟨rs ++ [⟨some ⟨b, 0, none⟩, n, zeros n⟩], by simp [hrs], fun r hr => ?_, by simpa [hrv] using h⟩
  rcases List.mem_append.1 hr with hr | hr
  · exact (hoz.kept hrow hg) r hr
  · simp at hr
    subst hr
    refine ⟨rfl, ?_⟩
    rw [hrv, hzl]
    exact hnew.kept hg (own_ne hnew hrow (by decide))

set_option maxRecDepth 100000 in
set_option maxHeartbeats 1600000 in
/-- The document's Settle. -/
theorem rsettle_any (cl : List Int) (v : Value) (r : Int) (w : World) (h : Ints w v cl) (_hr : I64 r) :
    Calls Try.prog 22 #[v, .int .i64 r] w (SettlePost cl r w) := by
  have hcon := off_any cl v w h
  have hcl : ∀ W, Below w.heap.size w W → Src W v cl.length (cl.map (.int .i64)) 1 := fun W hW => (h.below hW).src
  obtain ⟨a, cap, rfl, q1, q2, q3⟩ := h.shape
  have hS : Hid (setBad cl r = (decide (r < 0) || decide (64 < r) || decide (cl.length < 4) || decide (8 < cl.length))) := rfl
  by_cases hb : setBad cl r = true
  · have hE := Lib.hid (setE_arg hb)
    rw [hS.out] at hb
    simp only [Bool.or_eq_true, decide_eq_true_eq] at hb
    clear hcon hcl h hS
    generalize cl.length = n at *
    rcases (show r < 0 ∨ (0 ≤ r ∧ 64 < r) ∨ (0 ≤ r ∧ r ≤ 64 ∧ (n : Int) < 4) ∨ (0 ≤ r ∧ r ≤ 64 ∧ 4 ≤ (n : Int) ∧ 8 < (n : Int)) by omega) with hz | ⟨hz, hz'⟩ | ⟨hz, hz', hz2⟩ | ⟨hz, hz', hz2, hz3⟩
    all_goals clear hb
    all_goals go_enter Try.func22, Try.ntmps22
    all_goals go_wp2
    all_goals go_ret2
    all_goals exact settle_err hE.out.1 hE.out.2 (Below.refl _ _)
  have hb : setBad cl r = false := by simpa using hb
  have hb' := hb
  rw [hS.out] at hb'
  simp only [Bool.or_eq_false_iff, decide_eq_false_iff_not] at hb'
  obtain ⟨⟨⟨r0, r1⟩, n4⟩, n8⟩ := hb'
  have r0' : 0 ≤ r := by omega
  have r1' : r ≤ 64 := by omega
  have n4' : (4 : Int) ≤ cl.length := by omega
  have n8' : (cl.length : Int) ≤ 8 := by omega
  by_cases hf : cl.any (Fta.far B38) = true
  · have hE := Lib.hid (setE_off hb hf)
    rw [hf] at hcon
    clear hcl h hS hb hf r0 r1 n4 n8
    generalize cl.length = n at *
    go_enter Try.func22, Try.ntmps22
    go_wp2_with fail
    refine hcon.mono ?_
    rintro e w1 ⟨rfl, rfl⟩
    go_wp2
    go_ret2
    exact settle_err hE.out.1 hE.out.2 (Below.refl _ _)
  have hf : cl.any (Fta.far B38) = false := by simpa using hf
  have hE := Lib.hid (setE_ok hb hf)
  rw [hf] at hcon
  have hne : cl ≠ [] := by rintro rfl; simp at n4'
  have HF := Lib.hid hf
  have HNE := Lib.hid hne
  obtain ⟨n, hn⟩ : ∃ n, cl.length = n := ⟨_, rfl⟩
  have HN := Lib.hid hn
  obtain ⟨R, hR⟩ : ∃ R : Nat, r = R := ⟨r.toNat, by omega⟩
  subst hR
  rw [show ((R : Int)).toNat = R by omega] at hE
  rw [hn] at hcon hcl q1 q3 n4' n8' ⊢
  clear hn hS hb hf hne h r0 r1 n4 n8
  obtain ⟨i0, hi, hz0, hz1, hz2⟩ := info_parts E22.info
  go_enter Try.func22, Try.ntmps22
  go_wp2_with fail
  refine hcon.mono ?_
  rintro e w1 ⟨rfl, rfl⟩
  clear hcon
  go_wp2
  go_loopw [6, 7] (fun z i wr => ∃ j : Nat, j ≤ n ∧ i = .int .i64 j ∧ (∃ sv, sv = z ∧ ∃ rs : List Rw, rs.length = j ∧ OwnZeros wr w.heap.size n rs ∧ wr.ownsRow w.heap.size 22 1 sv j (rs.map rwv)) ∧ Below w.heap.size w wr) (fun _ i _ => n - (intOf i).toNat)
  case atStart => exact ⟨0, Nat.zero_le _, rfl, ⟨_, rfl, [], rfl, fun r hr => (by cases hr), World.ownsRow_nil _ _ _ _⟩, Below.refl _ _⟩
  case round =>
    obtain ⟨j, hj, rfl, ⟨sv, rfl, rs, hrs, hoz, hrow⟩, hbr⟩ := hrel
    by_cases hlt : j < n
    · have HRS := Lib.hid hrs
      clear hrs
      go_wp2_with (first | (at_make; refine wpList_make_full _ rfl _ _ 22 rfl w.heap.size 2 i0 (.int .i64 0) 1 Try.underlying22 hi hz0 hz1 _ _ _ _ n rfl rfl rfl rfl (by rw [hz2]; omega) (by unfold maxLen; omega) hbr.size ?_; intro w5 hown5 hgrow5; have b5 := hbr.grown hgrow5 hbr.size (by intro k hk; cases hk); have hrow5 := hrow.kept hgrow5 (by cases hv : sv.ownBlock <;> simp); have hoz5 : OwnZeros w5 w.heap.size n rs := fun r hr => ⟨(hoz r hr).1, (hoz r hr).2.kept hgrow5 (by cases hv : (rwv r).ownBlock <;> simp)⟩; rw [made_zeros] at hown5; clear hoz hrow hgrow5) | (at_builtin; refine wpList_app1 E42 rfl _ _ rfl hrow5 [.slice (some ⟨wr.heap.size, 0, none⟩) n n] rfl (by simp [Value.oneCell']) rfl rfl (by omega) b5.size ?_; intro u2 w7 hu2 hg2; have b7 := below_app b5 (Nat.le_refl _) hrow5 hg2 b5.size; have hstep := Lib.hid (zrow_app HRS.out hoz5 hrow5 hown5 hg2 hu2); clear hoz5 hrow5 hown5 hg2 hu2))
      go_roundw
      case rel => exact ⟨j + 1, by omega, by go_num, ⟨_, rfl, hstep.out⟩, b7⟩
      case measure => simp [intOf]; omega
    · have hjn : j = n := by omega
      have hmat := hoz.mat (u := sv) (bo := w.heap.size) (by omega) (hrs.trans hjn) (by rw [hjn] at hrow; simpa using hrow)
      obtain ⟨hM, hZ⟩ := hmat
      have HZ := Lib.hid hZ
      obtain ⟨sa, scap, hsv, hsn, hsc, hs3⟩ := hM.1.shape
      have hrsl : rs.length = n := hrs.trans hjn
      rw [hrsl] at hsv hsn hs3
      subst hsv
      clear hoz hrow hrs hjn hZ hrsl
      obtain ⟨w6, rfl⟩ : ∃ w6, w6 = wr := ⟨_, rfl⟩
      have hown0 : w6.ownsRow w6.heap.size 2 1 (.slice none 0 0) 0 [] := World.ownsRow_nil _ _ _ _
      have hsrc := hcl w6 hbr
      go_wp2_with (at_builtin; refine wpList_app E22 rfl _ _ rfl hown0 hsrc rfl rfl (by omega) (Nat.le_refl _) ?_; intro u2 w7 hu2 hg2 _; have b7 : Below w6.heap.size w6 w7 := below_app (Below.refl _ _) (Nat.le_refl _) hown0 hg2 (Nat.le_refl _))
      have hcv0 : w7.ownsRow w6.heap.size 2 1 u2 (its cl 0).length ((its cl 0).map (.int .i64)) := by rw [its, HN.out]; simpa using hu2
      clear hcl hu2 hg2 hsrc hown0
      go_loopw [8, 9] (fun z i wr => ∃ k : Nat, k ≤ R ∧ i = .int .i64 k ∧ (∃ lv, lv = z ∧ wr.ownsRow w6.heap.size 2 1 lv (its cl k).length ((its cl k).map (.int .i64))) ∧ Below w6.heap.size w6 wr) (fun _ i _ => R - (intOf i).toNat)
      case atStart => exact ⟨0, Nat.zero_le _, rfl, ⟨_, rfl, hcv0⟩, b7⟩
      case round =>
        obtain ⟨k, hk, rfl, ⟨lv, rfl, hlv⟩, hbi⟩ := hrel
        clear hcv0 b7
        by_cases hlk : k < R
        · have hil := its_len cl k
          have hrd := rround_any (its cl k) lv rs _ wr (ints_its k HNE.out (by rw [HN.out]; omega) HF.out hlv) (hM.below hbi)
          have hz := rnd_zero (cl := its cl k) (M := rs) (by rw [hil, HN.out]; omega) (by rw [hil, HN.out]; omega) (by rw [hil, HN.out]; exact HZ.out) (its_far HNE.out HF.out k)
          have HP : ∀ e w', RoundPost (its cl k) rs wr e w' → (∃ v', e = .returned (.tuple #[v', .int .i64 0]) ∧ w'.ownsRow wr.heap.size 2 1 v' (its cl (k + 1)).length ((its cl (k + 1)).map (.int .i64))) ∧ Below wr.heap.size wr w' := fun e w' ⟨⟨v', he, ho⟩, hb⟩ => by
            rw [hz.1] at he
            rw [hz.2] at ho
            exact ⟨⟨v', he, ho⟩, hb⟩
          have hrd := hrd.mono HP
          clear hil hz HP hlv hM
          go_wp2_with fail
          refine hrd.mono ?_
          rintro e w8 ⟨⟨nv, rfl, hnv⟩, hb8⟩
          clear hrd
          go_wp2
          go_roundw
          case rel => exact ⟨k + 1, by omega, by go_num, ⟨_, rfl, owBase hnv hbi.size⟩, hbi.trans (hb8.mono hbi.size)⟩
          case measure => simp [intOf]; omega
        · obtain rfl : k = R := by omega
          go_wp2
          go_ret2
          exact ⟨⟨_, by rw [hE.out.1]; rfl, by rw [hE.out.2]; exact owBase hlv hbr.size⟩, hbr.trans (hbi.mono hbr.size)⟩
end Go.Proofs.Ytalcgleepobccaa
