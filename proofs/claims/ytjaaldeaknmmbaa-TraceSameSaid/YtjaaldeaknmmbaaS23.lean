/- Same and Diff, the document's Diff. -/
import Derived.Test.YtjaaldeaknmmbaaS22
import Derived.Test.YtjaaldeaknmmbaaMm
namespace Go.Proofs.Ytjaaldeaknmmbaa
open Go.RowKit Go.Shelf

theorem sameL_len {l m : List Sx} (h : l.length ≠ m.length) : sameL l m = false := by unfold sameL; rw [decide_eq_false h]; rfl
set_option maxRecDepth 100000 in
set_option maxHeartbeats 1600000 in
theorem eqSnaps_any (l m : List Sx) (v v' : Value) (w : World) (h : Sxs w v l) (h' : Sxs w v' m) : Calls Try.prog 35 #[v, v', .func (.func 34) #[] #[]] w (SamePost (sameL l m) w) := by
  have HP : Hid (∀ b w', b = sameL l m → Below w.heap.size w w' → SamePost (sameL l m) w (.returned (.bool b)) w') := fun b w' hb h => by rw [← hb]; exact ⟨rfl, h⟩
  have HSL : Hid (sameL l m = (decide (l.length = m.length) && (l.zip m).all (fun p => decide (SameS p.1 p.2)))) := rfl
  have HL := Lib.hid h
  have HM := Lib.hid h'
  obtain ⟨a, c, rfl, q1, q2, q3⟩ := h.1.shape
  obtain ⟨a', c', rfl, r1, r2, r3⟩ := h'.1.shape
  clear h h'
  have HGL : Hid (∀ k, k < l.length → ∃ x, l[k]? = some x) := fun k hk => ⟨_, List.getElem?_eq_getElem hk⟩
  have HGM : Hid (∀ k, k < m.length → ∃ x, m[k]? = some x) := fun k hk => ⟨_, List.getElem?_eq_getElem hk⟩
  have HZL : Hid (∀ k, l.length ≤ k → l.length = m.length → (l.zip m).take k = l.zip m) := fun k hk he => List.take_of_length_le (by rw [List.length_zip, ← he]; omega)
  by_cases hlm : l.length = m.length
  · have HE := Lib.hid hlm
    have hle : l.length ≤ m.length := by omega
    have hge : m.length ≤ l.length := by omega
    have e1 : ((l.length : Int) != (m.length : Int)) = false := by rw [hlm]; simp
    have e1' : (l.length != m.length) = false := by rw [hlm]; simp
    clear hlm
    generalize l.length = n at *
    generalize m.length = n' at *
    go_enter Try.func35, Try.ntmps35
    go_wp2
    go_loopw [17] (fun i wr => ∃ k : Nat, k ≤ n ∧ i = .int .i64 k ∧ Hid (((l.zip m).take k).all (fun p => decide (SameS p.1 p.2)) = true) ∧ Hid (Below w.heap.size w wr)) (fun i _ => n - (intOf i).toNat)
    case atStart => exact ⟨0, Nat.zero_le _, rfl, rfl, Below.refl _ _⟩
    case round =>
      obtain ⟨k, hk, rfl, HI, HW⟩ := hrel
      by_cases hlt : k < n
      · obtain ⟨x, hx⟩ := HGL.out k hlt
        obtain ⟨y, hy⟩ := HGM.out k (by omega)
        obtain ⟨b, off, rfl, hbl, -⟩ := HL.out.1.row (by rintro rfl; simp at hx)
        obtain ⟨b', off', rfl, hbl', -⟩ := HM.out.1.row (by rintro rfl; simp at hy)
        have HC := Lib.hid (sx_at HL.out HW.out rfl hx)
        have HC' : Hid (∀ W, Below w.heap.size w W → ∀ j u, (encS y.s)[j]? = some u → W.cell? ⟨b', off' + k * 23 + j, none⟩ = some u) := fun W hW => sx_at HM.out hW rfl hy
        have HCON : Hid (∀ W, Below w.heap.size w W → Calls Try.prog 34 #[.agg (encS x.s).toArray, .agg (encS y.s).toArray] W (SamePost (decide (SameS x y)) W)) := fun W hW =>
          sameS_any x y W ((HL.out.2 x (List.mem_of_getElem? hx)).below hW) ((HM.out.2 y (List.mem_of_getElem? hy)).below hW)
        have HST := Lib.hid (all_snoc (fun p : Sx × Sx => decide (SameS p.1 p.2)) (zip_at hx hy))
        have HMEM : Hid ((x, y) ∈ l.zip m) := List.mem_of_getElem? (zip_at hx hy)
        obtain ⟨bq, hbq⟩ : ∃ bq, bq = decide (SameS x y) := ⟨_, rfl⟩
        rw [← hbq] at HCON
        have HBQ := Lib.hid hbq
        have hbs := HW.out.size
        have hlt' : k < n' := by omega
        clear hx hy hbq
        cases bq with
        | true =>
          have HI2 : Hid (((l.zip m).take (k + 1)).all (fun p => decide (SameS p.1 p.2)) = true) := by show _ = _; rw [HST.out, HI.out, ← HBQ.out]; rfl
          go_wp2_with (first
            | ((with_reducible show wpList _ _ _ (Oper.mk (some 21) _ _ _ _ _ :: _) _ _); refine wpList_loadW W41 rfl rfl rfl (encS x.s) rfl HC.out ?_)
            | ((with_reducible show wpList _ _ _ (Oper.mk none (Op.store 41 (Operand.tmp 8) _) _ _ _ _ :: _) _ _); refine wpList_boxW W41 rfl rfl rfl (encS x.s) rfl rfl (encS_one x.s) rfl ?_; go_must (intro W1 hX hal hz1; have HBX := Lib.hid hX; have HA1 := Lib.hid (HW.out.trans (hal.mono hbs)); have HCY := Lib.hid (HC'.out _ HA1.out); have zz : wr.heap.size < W1.heap.size := (by omega); clear hX hal hz1))
            | ((with_reducible show wpList _ _ _ (Oper.mk (some 25) _ _ _ _ _ :: _) _ _); refine wpList_loadW W41 rfl rfl rfl (encS y.s) rfl HCY.out ?_)
            | ((with_reducible show wpList _ _ _ (Oper.mk none (Op.store 41 (Operand.tmp 9) _) _ _ _ _ :: _) _ _); refine wpList_boxW W41 rfl rfl rfl (encS y.s) rfl rfl (encS_one y.s) rfl ?_; go_must (intro W2 hX hal hz1; have HBX2 := Lib.hid (HBX.out.keep hal).list; have HBY := Lib.hid hX.list; have HB2 := Lib.hid (HA1.out.trans (hal.mono HA1.out.size)); have zy : W1.heap.size < W2.heap.size := (by omega); clear hX hal hz1))
            | ((with_reducible show wpList _ _ _ (Oper.mk (some 27) _ _ _ _ _ :: _) _ _); refine wpList_loadW W41 rfl rfl rfl (encS x.s) rfl HBX2.out ?_)
            | ((with_reducible show wpList _ _ _ (Oper.mk (some 28) _ _ _ _ _ :: _) _ _); refine wpList_loadW W41 rfl rfl rfl (encS y.s) rfl HBY.out ?_)
            | (go_at_call 34; refine (HCON.out W2 HB2.out).mono ?_; go_must (rintro e w3 ⟨rfl, hb⟩; have HB3 := Lib.hid (HB2.out.trans (hb.mono HB2.out.size)); clear hb)))
          go_roundw
          case rel => exact ⟨k + 1, by omega, by go_num, HI2, HB3⟩
          case measure => simp [intOf]; omega
        | false =>
          have HF : Hid (false = sameL l m) := by
            show _ = _
            rw [HSL.out, eq_comm, Bool.and_eq_false_iff]
            right
            rw [Bool.eq_false_iff]
            intro h
            have h2 := List.all_eq_true.1 h _ HMEM.out
            simp only at h2
            rw [← HBQ.out] at h2; cases h2
          go_wp2_with (first
            | ((with_reducible show wpList _ _ _ (Oper.mk (some 21) _ _ _ _ _ :: _) _ _); refine wpList_loadW W41 rfl rfl rfl (encS x.s) rfl HC.out ?_)
            | ((with_reducible show wpList _ _ _ (Oper.mk none (Op.store 41 (Operand.tmp 8) _) _ _ _ _ :: _) _ _); refine wpList_boxW W41 rfl rfl rfl (encS x.s) rfl rfl (encS_one x.s) rfl ?_; go_must (intro W1 hX hal hz1; have HBX := Lib.hid hX; have HA1 := Lib.hid (HW.out.trans (hal.mono hbs)); have HCY := Lib.hid (HC'.out _ HA1.out); have zz : wr.heap.size < W1.heap.size := (by omega); clear hX hal hz1))
            | ((with_reducible show wpList _ _ _ (Oper.mk (some 25) _ _ _ _ _ :: _) _ _); refine wpList_loadW W41 rfl rfl rfl (encS y.s) rfl HCY.out ?_)
            | ((with_reducible show wpList _ _ _ (Oper.mk none (Op.store 41 (Operand.tmp 9) _) _ _ _ _ :: _) _ _); refine wpList_boxW W41 rfl rfl rfl (encS y.s) rfl rfl (encS_one y.s) rfl ?_; go_must (intro W2 hX hal hz1; have HBX2 := Lib.hid (HBX.out.keep hal).list; have HBY := Lib.hid hX.list; have HB2 := Lib.hid (HA1.out.trans (hal.mono HA1.out.size)); have zy : W1.heap.size < W2.heap.size := (by omega); clear hX hal hz1))
            | ((with_reducible show wpList _ _ _ (Oper.mk (some 27) _ _ _ _ _ :: _) _ _); refine wpList_loadW W41 rfl rfl rfl (encS x.s) rfl HBX2.out ?_)
            | ((with_reducible show wpList _ _ _ (Oper.mk (some 28) _ _ _ _ _ :: _) _ _); refine wpList_loadW W41 rfl rfl rfl (encS y.s) rfl HBY.out ?_)
            | (go_at_call 34; refine (HCON.out W2 HB2.out).mono ?_; go_must (rintro e w3 ⟨rfl, hb⟩; have HB3 := Lib.hid (HB2.out.trans (hb.mono HB2.out.size)); clear hb)))
          go_ret
          exact HP.out _ _ HF.out HB3.out
      · obtain rfl : n = k := by omega
        have HT : Hid (true = sameL l m) := by
          show _ = _
          have h := HI.out
          rw [HZL.out _ (Nat.le_refl _) HE.out] at h
          rw [HSL.out, h, decide_eq_true HE.out]; rfl
        go_wp2
        go_ret
        exact HP.out _ _ HT.out HW.out
  · have e1 : ((l.length : Int) != (m.length : Int)) = true := by rw [bne_iff_ne]; omega
    have e1' : (l.length != m.length) = true := by rw [bne_iff_ne]; omega
    have HF : Hid (false = sameL l m) := (sameL_len hlm).symm
    clear hlm
    go_enter Try.func35, Try.ntmps35
    go_wp2
    go_ret
    exact HP.out _ _ HF.out (Below.refl _ _)
theorem same_any (l m : List Sx) (v v' : Value) (w : World) (h : Sxs w v l) (h' : Sxs w v' m) : Calls Try.prog 26 #[v, v'] w (SamePost (sameL l m) w) := by
  have hq := eqSnaps_any l m v v' w h h'
  obtain ⟨a, c, rfl, q1, q2, q3⟩ := h.1.shape
  obtain ⟨a', c', rfl, r1, r2, r3⟩ := h'.1.shape
  have HP : Hid (∀ w', Below w.heap.size w w' → SamePost (sameL l m) w (.returned (.bool (sameL l m))) w') := fun w' h => ⟨rfl, h⟩
  clear h h'
  generalize sameL l m = b at *
  go_enter Try.func26, Try.ntmps26
  go_wp2_with fail
  refine hq.mono ?_
  rintro e w1 ⟨rfl, hb⟩
  have HB := Lib.hid hb
  clear hq hb
  go_wp2
  go_ret
  exact HP.out _ HB.out

/-- Where two lists are not the same. -/
def diffAt (l m : List Sx) : Nat := ((l.zip m).takeWhile (fun p => decide (SameS p.1 p.2))).length
def diffL (l m : List Sx) : Int × Bool := if sameL l m then (0, false) else ((diffAt l m : Int), true)
theorem tw_at {α : Type} {p : α → Bool} {l : List α} {k : Nat} {x : α} (h : (l.take k).all p = true) (hk : l[k]? = some x) (hx : p x = false) : (l.takeWhile p).length = k := by
  induction l generalizing k with
  | nil => simp at hk
  | cons y l ih =>
    match k, hk with
    | 0, hk =>
      simp at hk
      subst hk
      rw [List.takeWhile_cons, hx]; rfl
    | k + 1, hk =>
      simp only [List.take_succ_cons, List.all_cons, Bool.and_eq_true] at h
      rw [List.takeWhile_cons, h.1, if_pos rfl, List.length_cons, ih h.2 (by simpa using hk)]
theorem tw_all {α : Type} {p : α → Bool} {l : List α} (h : l.all p = true) : (l.takeWhile p).length = l.length := by
  induction l with
  | nil => rfl
  | cons y l ih =>
    simp only [List.all_cons, Bool.and_eq_true] at h
    rw [List.takeWhile_cons, h.1, if_pos rfl, List.length_cons, ih h.2, List.length_cons]
theorem diff_hit {l m : List Sx} {k : Nat} {x y : Sx} (h : ((l.zip m).take k).all (fun p => decide (SameS p.1 p.2)) = true) (hk : (l.zip m)[k]? = some (x, y)) (hn : decide (SameS x y) = false) : diffL l m = ((k : Int), true) := by
  have h1 : sameL l m = false := by
    unfold sameL
    rw [Bool.and_eq_false_iff]
    right
    rw [Bool.eq_false_iff]
    intro ha
    have := List.all_eq_true.1 ha _ (List.mem_of_getElem? hk)
    simp only at this
    rw [hn] at this; cases this
  unfold diffL diffAt
  rw [h1, tw_at h hk hn]; rfl
theorem diff_end {l m : List Sx} (h : (l.zip m).all (fun p => decide (SameS p.1 p.2)) = true) : diffL l m = if l.length = m.length then (0, false) else (((min l.length m.length : Nat) : Int), true) := by
  unfold diffL diffAt sameL
  rw [h, tw_all h, Bool.and_true, List.length_zip]
  by_cases e : l.length = m.length
  · simp [e]
  · simp [e]
def DiffPost (p : Int × Bool) (w : World) (e : Ending) (w' : World) : Prop := e = .returned (.tuple #[.int .i64 p.1, .bool p.2]) ∧ Below w.heap.size w w'

set_option maxRecDepth 100000 in
set_option maxHeartbeats 1600000 in
theorem diff_any (l m : List Sx) (v v' : Value) (w : World) (h : Sxs w v l) (h' : Sxs w v' m) : Calls Try.prog 24 #[v, v'] w (DiffPost (diffL l m) w) := by
  have HP : Hid (∀ (d : Int) b w', (d, b) = diffL l m → Below w.heap.size w w' → DiffPost (diffL l m) w (.returned (.tuple #[.int .i64 d, .bool b])) w') := fun d b w' hb h => by rw [← hb]; exact ⟨rfl, h⟩
  have HL := Lib.hid h
  have HM := Lib.hid h'
  have HDE := Lib.hid (@diff_end l m)
  have HDH := Lib.hid (fun (k : Nat) (x y : Sx) => @diff_hit l m k x y)
  obtain ⟨a, c, rfl, q1, q2, q3⟩ := h.1.shape
  obtain ⟨a', c', rfl, r1, r2, r3⟩ := h'.1.shape
  clear h h'
  have HGL : Hid (∀ k, k < l.length → ∃ x, l[k]? = some x) := fun k hk => ⟨_, List.getElem?_eq_getElem hk⟩
  have HGM : Hid (∀ k, k < m.length → ∃ x, m[k]? = some x) := fun k hk => ⟨_, List.getElem?_eq_getElem hk⟩
  have HZL : Hid (∀ k, min l.length m.length ≤ k → (l.zip m).take k = l.zip m) := fun k hk => List.take_of_length_le (by rw [List.length_zip]; omega)
  obtain ⟨M, hM⟩ : ∃ M : Nat, imin (l.length : Int) (m.length : Int) = M := ⟨min l.length m.length, by rw [imin_eq]; omega⟩
  have hMb : M = min l.length m.length := by rw [imin_eq] at hM; omega
  have HMI := Lib.hid hM
  have HMB := Lib.hid hMb
  have hm1 : M ≤ l.length := by omega
  have hm2 : M ≤ m.length := by omega
  clear hM hMb
  generalize l.length = n at *
  generalize m.length = n' at *
  go_enter Try.func24, Try.ntmps24
  go_wp2_with ((with_reducible show wpList _ _ _ (Oper.mk (some 12) _ _ _ _ _ :: _) _ _); refine wpList_min rfl rfl rfl rfl ?_; go_must (rw [HMI.out]))
  go_loopw [14] (fun i wr => ∃ k : Nat, k ≤ M ∧ i = .int .i64 k ∧ Hid (((l.zip m).take k).all (fun p => decide (SameS p.1 p.2)) = true) ∧ Hid (Below w.heap.size w wr)) (fun i _ => M - (intOf i).toNat)
  case atStart => exact ⟨0, Nat.zero_le _, rfl, rfl, Below.refl _ _⟩
  case round =>
    obtain ⟨k, hk, rfl, HI, HW⟩ := hrel
    by_cases hlt : k < M
    · obtain ⟨x, hx⟩ := HGL.out k (by omega)
      obtain ⟨y, hy⟩ := HGM.out k (by omega)
      obtain ⟨b, off, rfl, hbl, -⟩ := HL.out.1.row (by rintro rfl; simp at hx)
      obtain ⟨b', off', rfl, hbl', -⟩ := HM.out.1.row (by rintro rfl; simp at hy)
      have HC : Hid (∀ W, Below w.heap.size w W → ∀ j u, (encS x.s)[j]? = some u → W.cell? ⟨b, off + k * 23 + j, none⟩ = some u) := fun W hW => sx_at HL.out hW rfl hx
      have HC' : Hid (∀ W, Below w.heap.size w W → ∀ j u, (encS y.s)[j]? = some u → W.cell? ⟨b', off' + k * 23 + j, none⟩ = some u) := fun W hW => sx_at HM.out hW rfl hy
      have HCON : Hid (∀ W, Below w.heap.size w W → Calls Try.prog 34 #[.agg (encS x.s).toArray, .agg (encS y.s).toArray] W (SamePost (decide (SameS x y)) W)) := fun W hW =>
        sameS_any x y W ((HL.out.2 x (List.mem_of_getElem? hx)).below hW) ((HM.out.2 y (List.mem_of_getElem? hy)).below hW)
      have HST := Lib.hid (all_snoc (fun p : Sx × Sx => decide (SameS p.1 p.2)) (zip_at hx hy))
      have HZ := Lib.hid (zip_at hx hy)
      obtain ⟨bq, hbq⟩ : ∃ bq, bq = decide (SameS x y) := ⟨_, rfl⟩
      rw [← hbq] at HCON
      have HBQ := Lib.hid hbq
      have hl1 : k < n := by omega
      have hl2 : k < n' := by omega
      have hS : Below w.heap.size w wr.drew := HW.out.drew
      clear hx hy hbq
      go_upto_region 5 with fail
      refine wp_region_held_drew (S := fun X => Below w.heap.size w X) (by kernel_rfl) hS (fun hHeld => ?_)
      (refine takeW (i := 0) (v := ?_) rfl (by kernel_rfl) (by kernel_rfl) (by kernel_rfl) (fun _ _ _ h => h) (by rfl) (by assumption) ?_ ?_; rotate_left; (intro W hW; (try dsimp only at hW); go_simp; try with_reducible rfl); (try simp only [Act.put, List.setIfInBounds_toArray, List.set_cons_zero, List.set_cons_succ]))
      (refine takeW (i := 1) (v := ?_) rfl (by kernel_rfl) (by kernel_rfl) (by kernel_rfl) (fun _ _ _ h => h) (by rfl) (by assumption) ?_ ?_; rotate_left; (intro W hW; (try dsimp only at hW); go_simp; try with_reducible rfl); (try simp only [Act.put, List.setIfInBounds_toArray, List.set_cons_zero, List.set_cons_succ]))
      (refine takeW (i := 2) (v := ?_) rfl (by kernel_rfl) (by kernel_rfl) (by kernel_rfl) (fun _ _ _ h => h) (by rfl) (by assumption) ?_ ?_; rotate_left; (intro W hW; (try dsimp only at hW); go_simp; try with_reducible rfl); (try simp only [Act.put, List.setIfInBounds_toArray, List.set_cons_zero, List.set_cons_succ]))
      (refine takeW (i := 3) rfl (by kernel_rfl) (by kernel_rfl) (by kernel_rfl) (fun _ _ _ h => h) (by rfl) (by assumption) (fun W hW => exec_loadW W41 rfl rfl rfl (HC.out W hW)) ?_; (try simp only [Act.put, List.setIfInBounds_toArray, List.set_cons_zero, List.set_cons_succ]))
      (refine takeW (i := 4) (v := ?_) rfl (by kernel_rfl) (by kernel_rfl) (by kernel_rfl) (fun _ _ _ h => h) (by rfl) (by assumption) ?_ ?_; rotate_left; (intro W hW; (try dsimp only at hW); go_simp; try with_reducible rfl); (try simp only [Act.put, List.setIfInBounds_toArray, List.set_cons_zero, List.set_cons_succ]))
      (refine takeW (i := 5) (v := ?_) rfl (by kernel_rfl) (by kernel_rfl) (by kernel_rfl) (fun _ _ _ h => h) (by rfl) (by assumption) ?_ ?_; rotate_left; (intro W hW; (try dsimp only at hW); go_simp; try with_reducible rfl); (try simp only [Act.put, List.setIfInBounds_toArray, List.set_cons_zero, List.set_cons_succ]))
      (refine takeW (i := 6) (v := ?_) rfl (by kernel_rfl) (by kernel_rfl) (by kernel_rfl) (fun _ _ _ h => h) (by rfl) (by assumption) ?_ ?_; rotate_left; (intro W hW; (try dsimp only at hW); go_simp; try with_reducible rfl); (try simp only [Act.put, List.setIfInBounds_toArray, List.set_cons_zero, List.set_cons_succ]))
      (refine takeW (i := 7) rfl (by kernel_rfl) (by kernel_rfl) (by kernel_rfl) (fun _ _ _ h => h) (by rfl) (by assumption) (fun W hW => exec_loadW W41 rfl rfl rfl (HC'.out W hW)) ?_; (try simp only [Act.put, List.setIfInBounds_toArray, List.set_cons_zero, List.set_cons_succ]))
      refine takeC (i := 8) rfl (by kernel_rfl) (by rfl) (fun K hK => ?_)
      go_simp
      refine (HCON.out _ hHeld).mono ?_
      rintro e w3 ⟨rfl, hb⟩
      have hs : Below w.heap.size w w3 := hHeld.trans (hb.mono hHeld.size)
      refine hK.out _ _ hs (fun hHeld => ?_)
      clear hK K
      try simp only [Act.put, List.setIfInBounds_toArray, List.set_cons_zero, List.set_cons_succ]
      (refine takeW (i := 9) (v := ?_) rfl (by kernel_rfl) (by kernel_rfl) (by kernel_rfl) (fun _ _ _ h => h) (by rfl) (by assumption) ?_ ?_; rotate_left; (intro W hW; (try dsimp only at hW); go_simp; try with_reducible rfl); (try simp only [Act.put, List.setIfInBounds_toArray, List.set_cons_zero, List.set_cons_succ]))
      refine wpAnyH_done (by kernel_rfl) ?_ _
      have HW2 := Lib.hid hHeld
      clear hHeld
      cases bq with
      | true =>
        have HI2 : Hid (((l.zip m).take (k + 1)).all (fun p => decide (SameS p.1 p.2)) = true) := by show _ = _; rw [HST.out, HI.out, ← HBQ.out]; rfl
        go_wp2
        go_roundw
        case rel => exact ⟨k + 1, by omega, by go_num, HI2, HW2⟩
        case measure => simp [intOf]; omega
      | false =>
        have HF : Hid (((k : Int), true) = diffL l m) := (HDH.out _ _ _ HI.out HZ.out HBQ.out.symm).symm
        go_wp2
        go_ret2
        exact HP.out _ _ _ HF.out HW2.out
    · obtain rfl : M = k := by omega
      have HD : Hid (diffL l m = if n = n' then (0, false) else (((min n n' : Nat) : Int), true)) := HDE.out (by have h := HI.out; rwa [HZL.out _ (by have := HMB.out; omega)] at h)
      by_cases hnn : n = n'
      · have HF : Hid (((0 : Int), false) = diffL l m) := by show _ = _; rw [HD.out, if_pos hnn]
        subst hnn
        have e1 : ((n : Int) == (n : Int)) = true := by simp
        go_wp2
        go_ret2
        exact HP.out _ _ _ HF.out HW.out
      · have HF : Hid (((M : Int), true) = diffL l m) := by show _ = _; rw [HD.out, if_neg hnn, HMB.out]
        have e1 : ((n : Int) == (n' : Int)) = false := beq_eq_false_iff_ne.2 (by omega)
        have e2 : (n == n') = false := beq_eq_false_iff_ne.2 hnn
        clear hnn
        go_wp2
        go_ret2
        exact HP.out _ _ _ HF.out HW.out

set_option maxRecDepth 100000 in
set_option maxHeartbeats 1600000 in
theorem rdiff_any (l m : List Sx) (v v' : Value) (w : World) (h : Sxs w v l) (h' : Sxs w v' m) : Calls Try.prog 25 #[v, v'] w (DiffPost (diffL l m) w) := by
  have HP : Hid (∀ (d : Int) b w', (d, b) = diffL l m → Below w.heap.size w w' → DiffPost (diffL l m) w (.returned (.tuple #[.int .i64 d, .bool b])) w') := fun d b w' hb h => by rw [← hb]; exact ⟨rfl, h⟩
  have HL := Lib.hid h
  have HM := Lib.hid h'
  have HDE := Lib.hid (@diff_end l m)
  have HDH := Lib.hid (fun (k : Nat) (x y : Sx) => @diff_hit l m k x y)
  obtain ⟨a, c, rfl, q1, q2, q3⟩ := h.1.shape
  obtain ⟨a', c', rfl, r1, r2, r3⟩ := h'.1.shape
  clear h h'
  have HGL : Hid (∀ k, k < l.length → ∃ x, l[k]? = some x) := fun k hk => ⟨_, List.getElem?_eq_getElem hk⟩
  have HGM : Hid (∀ k, k < m.length → ∃ x, m[k]? = some x) := fun k hk => ⟨_, List.getElem?_eq_getElem hk⟩
  have HZL : Hid (∀ k, min l.length m.length ≤ k → (l.zip m).take k = l.zip m) := fun k hk => List.take_of_length_le (by rw [List.length_zip]; omega)
  obtain ⟨M, hM⟩ : ∃ M : Nat, imin (l.length : Int) (m.length : Int) = M := ⟨min l.length m.length, by rw [imin_eq]; omega⟩
  have hMb : M = min l.length m.length := by rw [imin_eq] at hM; omega
  have HMI := Lib.hid hM
  have HMB := Lib.hid hMb
  have hm1 : M ≤ l.length := by omega
  have hm2 : M ≤ m.length := by omega
  clear hM hMb
  generalize l.length = n at *
  generalize m.length = n' at *
  go_enter Try.func25, Try.ntmps25
  go_wp2
  go_loopw [6] (fun i wr => ∃ k : Nat, k ≤ M ∧ i = .int .i64 k ∧ Hid (((l.zip m).take k).all (fun p => decide (SameS p.1 p.2)) = true) ∧ Hid (Below w.heap.size w wr)) (fun i _ => M - (intOf i).toNat)
  case atStart => exact ⟨0, Nat.zero_le _, rfl, rfl, Below.refl _ _⟩
  case round =>
    obtain ⟨k, hk, rfl, HI, HW⟩ := hrel
    by_cases hlt : k < M
    · obtain ⟨x, hx⟩ := HGL.out k (by omega)
      obtain ⟨y, hy⟩ := HGM.out k (by omega)
      obtain ⟨b, off, rfl, hbl, -⟩ := HL.out.1.row (by rintro rfl; simp at hx)
      obtain ⟨b', off', rfl, hbl', -⟩ := HM.out.1.row (by rintro rfl; simp at hy)
      have HC : Hid (∀ W, Below w.heap.size w W → ∀ j u, (encS x.s)[j]? = some u → W.cell? ⟨b, off + k * 23 + j, none⟩ = some u) := fun W hW => sx_at HL.out hW rfl hx
      have HC' : Hid (∀ W, Below w.heap.size w W → ∀ j u, (encS y.s)[j]? = some u → W.cell? ⟨b', off' + k * 23 + j, none⟩ = some u) := fun W hW => sx_at HM.out hW rfl hy
      have HCON : Hid (∀ W, Below w.heap.size w W → Calls Try.prog 33 #[.agg (encS x.s).toArray, .agg (encS y.s).toArray] W (SamePost (decide (SameS x y)) W)) := fun W hW =>
        rsameS_any x y W ((HL.out.2 x (List.mem_of_getElem? hx)).below hW) ((HM.out.2 y (List.mem_of_getElem? hy)).below hW)
      have HST := Lib.hid (all_snoc (fun p : Sx × Sx => decide (SameS p.1 p.2)) (zip_at hx hy))
      have HZ := Lib.hid (zip_at hx hy)
      obtain ⟨bq, hbq⟩ : ∃ bq, bq = decide (SameS x y) := ⟨_, rfl⟩
      rw [← hbq] at HCON
      have HBQ := Lib.hid hbq
      have hl1 : k < n := by omega
      have hl2 : k < n' := by omega
      have hS : Below w.heap.size w wr.drew := HW.out.drew
      clear hx hy hbq
      go_upto_region 4 with fail
      refine wp_region_held_drew (S := fun X => Below w.heap.size w X) (by kernel_rfl) hS (fun hHeld => ?_)
      (refine takeW (i := 0) (v := ?_) rfl (by kernel_rfl) (by kernel_rfl) (by kernel_rfl) (fun _ _ _ h => h) (by rfl) (by assumption) ?_ ?_; rotate_left; (intro W hW; (try dsimp only at hW); go_simp; try with_reducible rfl); (try simp only [Act.put, List.setIfInBounds_toArray, List.set_cons_zero, List.set_cons_succ]))
      (refine takeW (i := 1) (v := ?_) rfl (by kernel_rfl) (by kernel_rfl) (by kernel_rfl) (fun _ _ _ h => h) (by rfl) (by assumption) ?_ ?_; rotate_left; (intro W hW; (try dsimp only at hW); go_simp; try with_reducible rfl); (try simp only [Act.put, List.setIfInBounds_toArray, List.set_cons_zero, List.set_cons_succ]))
      (refine takeW (i := 2) (v := ?_) rfl (by kernel_rfl) (by kernel_rfl) (by kernel_rfl) (fun _ _ _ h => h) (by rfl) (by assumption) ?_ ?_; rotate_left; (intro W hW; (try dsimp only at hW); go_simp; try with_reducible rfl); (try simp only [Act.put, List.setIfInBounds_toArray, List.set_cons_zero, List.set_cons_succ]))
      (refine takeW (i := 3) rfl (by kernel_rfl) (by kernel_rfl) (by kernel_rfl) (fun _ _ _ h => h) (by rfl) (by assumption) (fun W hW => exec_loadW W41 rfl rfl rfl (HC.out W hW)) ?_; (try simp only [Act.put, List.setIfInBounds_toArray, List.set_cons_zero, List.set_cons_succ]))
      (refine takeW (i := 4) (v := ?_) rfl (by kernel_rfl) (by kernel_rfl) (by kernel_rfl) (fun _ _ _ h => h) (by rfl) (by assumption) ?_ ?_; rotate_left; (intro W hW; (try dsimp only at hW); go_simp; try with_reducible rfl); (try simp only [Act.put, List.setIfInBounds_toArray, List.set_cons_zero, List.set_cons_succ]))
      (refine takeW (i := 5) (v := ?_) rfl (by kernel_rfl) (by kernel_rfl) (by kernel_rfl) (fun _ _ _ h => h) (by rfl) (by assumption) ?_ ?_; rotate_left; (intro W hW; (try dsimp only at hW); go_simp; try with_reducible rfl); (try simp only [Act.put, List.setIfInBounds_toArray, List.set_cons_zero, List.set_cons_succ]))
      (refine takeW (i := 6) (v := ?_) rfl (by kernel_rfl) (by kernel_rfl) (by kernel_rfl) (fun _ _ _ h => h) (by rfl) (by assumption) ?_ ?_; rotate_left; (intro W hW; (try dsimp only at hW); go_simp; try with_reducible rfl); (try simp only [Act.put, List.setIfInBounds_toArray, List.set_cons_zero, List.set_cons_succ]))
      (refine takeW (i := 7) rfl (by kernel_rfl) (by kernel_rfl) (by kernel_rfl) (fun _ _ _ h => h) (by rfl) (by assumption) (fun W hW => exec_loadW W41 rfl rfl rfl (HC'.out W hW)) ?_; (try simp only [Act.put, List.setIfInBounds_toArray, List.set_cons_zero, List.set_cons_succ]))
      refine takeC (i := 8) rfl (by kernel_rfl) (by rfl) (fun K hK => ?_)
      go_simp
      refine (HCON.out _ hHeld).mono ?_
      rintro e w3 ⟨rfl, hb⟩
      have hs : Below w.heap.size w w3 := hHeld.trans (hb.mono hHeld.size)
      refine hK.out _ _ hs (fun hHeld => ?_)
      clear hK K
      try simp only [Act.put, List.setIfInBounds_toArray, List.set_cons_zero, List.set_cons_succ]
      (refine takeW (i := 9) (v := ?_) rfl (by kernel_rfl) (by kernel_rfl) (by kernel_rfl) (fun _ _ _ h => h) (by rfl) (by assumption) ?_ ?_; rotate_left; (intro W hW; (try dsimp only at hW); go_simp; try with_reducible rfl); (try simp only [Act.put, List.setIfInBounds_toArray, List.set_cons_zero, List.set_cons_succ]))
      refine wpAnyH_done (by kernel_rfl) ?_ _
      have HW2 := Lib.hid hHeld
      clear hHeld
      cases bq with
      | true =>
        have HI2 : Hid (((l.zip m).take (k + 1)).all (fun p => decide (SameS p.1 p.2)) = true) := by show _ = _; rw [HST.out, HI.out, ← HBQ.out]; rfl
        go_wp2
        go_roundw
        case rel => exact ⟨k + 1, by omega, by go_num, HI2, HW2⟩
        case measure => simp [intOf]; omega
      | false =>
        have HF : Hid (((k : Int), true) = diffL l m) := (HDH.out _ _ _ HI.out HZ.out HBQ.out.symm).symm
        go_wp2
        go_ret2
        exact HP.out _ _ _ HF.out HW2.out
    · obtain rfl : M = k := by omega
      have HD : Hid (diffL l m = if n = n' then (0, false) else (((min n n' : Nat) : Int), true)) := HDE.out (by have h := HI.out; rwa [HZL.out _ (by have := HMB.out; omega)] at h)
      by_cases hnn : n = n'
      · have HF : Hid (((0 : Int), false) = diffL l m) := by show _ = _; rw [HD.out, if_pos hnn]
        subst hnn
        have e1 : ((n : Int) != (n : Int)) = false := by simp
        have hMn : M = n := by have := HMB.out; omega
        have hd1 : decide ((M : Int) < (n : Int)) = false := decide_eq_false (by omega)
        have hd2 : decide (M < n) = false := decide_eq_false (by omega)
        clear hMn
        go_wp2
        go_ret2
        exact HP.out _ _ _ HF.out HW.out
      · have HF : Hid (((M : Int), true) = diffL l m) := by show _ = _; rw [HD.out, if_neg hnn, HMB.out]
        have e1 : ((n : Int) != (n' : Int)) = true := by rw [bne_iff_ne]; omega
        have e1' : (n != n') = true := by rw [bne_iff_ne]; exact hnn
        rcases Nat.lt_or_gt_of_ne hnn with hc | hc
        · have hMn : M = n := by have := HMB.out; omega
          have hd1 : decide ((M : Int) < (n : Int)) = false := decide_eq_false (by omega)
          have hd2 : decide (M < n) = false := decide_eq_false (by omega)
          clear hMn hc hnn
          go_wp2_with ((with_reducible show wpList _ _ _ (Oper.mk (some 39) _ _ _ _ _ :: _) _ _); refine wpList_min rfl rfl rfl rfl ?_; go_must (rw [HMI.out]))
          go_ret2
          exact HP.out _ _ _ HF.out HW.out
        · have hMn : M = n' := by have := HMB.out; omega
          have hd1 : decide ((M : Int) < (n : Int)) = true := decide_eq_true (by omega)
          have hd2 : decide (M < n) = true := decide_eq_true (by omega)
          have hd3 : decide ((M : Int) < (n' : Int)) = false := decide_eq_false (by omega)
          have hd4 : decide (M < n') = false := decide_eq_false (by omega)
          clear hMn hc hnn
          go_wp2_with ((with_reducible show wpList _ _ _ (Oper.mk (some 39) _ _ _ _ _ :: _) _ _); refine wpList_min rfl rfl rfl rfl ?_; go_must (rw [HMI.out]))
          go_ret2
          exact HP.out _ _ _ HF.out HW.out
end Go.Proofs.Ytjaaldeaknmmbaa
