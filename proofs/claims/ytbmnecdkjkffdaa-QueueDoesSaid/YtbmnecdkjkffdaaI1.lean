/- The document's Less and put. -/
import Derived.Test.YtbmnecdkjkffdaaH4
namespace Go.Proofs.Ytbmnecdkjkffdaa
open Go.RowKit Go.Shelf

set_option maxRecDepth 100000 in
set_option maxHeartbeats 1600000 in
theorem rless_any (x y : Ev) (w : World) : Calls Try.prog 21 #[.agg (encE x).toArray, .agg (encE y).toArray] w fun e w' => e = .returned (.bool (ltE x y)) ∧ Below w.heap.size w w' := by
  have HP : Hid (∀ b, (b = true ↔ Lt x y) → (fun e w' => e = Ending.returned (.bool (ltE x y)) ∧ Below w.heap.size w w') (.returned (.bool b)) ((w.alloc (.cells (encE x).toArray 31)).alloc (.cells (encE y).toArray 31))) := fun b hb => by
    refine ⟨?_, below2 w _ _⟩
    have : ltE x y = b := by
      rw [Bool.eq_iff_iff, ltE_iff, hb]
    rw [this]
  generalize (fun e w' => e = Ending.returned (.bool (ltE x y)) ∧ Below w.heap.size w w') = R at *
  have HX : Hid (Blk ((w.alloc (.cells (encE x).toArray 31)).alloc (.cells (encE y).toArray 31)) w.heap.size 31 (encE x).toArray) := (Blk.new' rfl : Blk _ _ _ _).alloc _
  have HY : Hid (Blk ((w.alloc (.cells (encE x).toArray 31)).alloc (.cells (encE y).toArray 31)) (w.heap.size + 1) 31 (encE y).toArray) := Blk.new' (by simp)
  go_enter Try.func21, Try.ntmps21
  go_upto_region 1 with fail
  change Code.wp _ _ _ _ ((w.alloc (.cells (encE x).toArray 31)).alloc (.cells (encE y).toArray 31))
  generalize ((w.alloc (.cells (encE x).toArray 31)).alloc (.cells (encE y).toArray 31)) = W at *
  generalize w.heap.size = b at *
  have cx0 : W.cell? ⟨b, 0, none⟩ = some (.int .i64 x.a) := HX.out.list0 rfl
  have cx1 : W.cell? ⟨b, 1, none⟩ = some (.int .i64 x.k) := HX.out.list0 rfl
  have cx2 : W.cell? ⟨b, 2, none⟩ = some (.int .i64 x.n) := HX.out.list0 rfl
  have cx3 : W.cell? ⟨b, 3, none⟩ = some (.int .i64 x.m) := HX.out.list0 rfl
  have cy0 : W.cell? ⟨b + 1, 0, none⟩ = some (.int .i64 y.a) := HY.out.list0 rfl
  have cy1 : W.cell? ⟨b + 1, 1, none⟩ = some (.int .i64 y.k) := HY.out.list0 rfl
  have cy2 : W.cell? ⟨b + 1, 2, none⟩ = some (.int .i64 y.n) := HY.out.list0 rfl
  have cy3 : W.cell? ⟨b + 1, 3, none⟩ = some (.int .i64 y.m) := HY.out.list0 rfl
  by_cases h0 : x.a = y.a
  · have e0 : (x.a != y.a) = false := by simpa using h0
    by_cases h1 : x.k = y.k
    · have e1 : (x.k != y.k) = false := by simpa using h1
      by_cases h2 : x.n = y.n
      · have e2 : (x.n != y.n) = false := by simpa using h2
        have HF : Hid (decide (x.m < y.m) = true ↔ Lt x y) := by show _ ↔ _; unfold Lt; simp only [decide_eq_true_eq]; omega
        clear h0 h1 h2
        go_wp2
        exact HP.out _ HF.out
      · have e2 : (x.n != y.n) = true := by simpa using h2
        have HF : Hid (decide (x.n < y.n) = true ↔ Lt x y) := by show _ ↔ _; unfold Lt; simp only [decide_eq_true_eq]; omega
        clear h0 h1 h2
        go_wp2
        exact HP.out _ HF.out
    · have e1 : (x.k != y.k) = true := by simpa using h1
      have HF : Hid (decide (x.k < y.k) = true ↔ Lt x y) := by show _ ↔ _; unfold Lt; simp only [decide_eq_true_eq]; omega
      clear h0 h1
      go_wp2
      exact HP.out _ HF.out
  · have e0 : (x.a != y.a) = true := by simpa using h0
    have HF : Hid (decide (x.a < y.a) = true ↔ Lt x y) := by show _ ↔ _; unfold Lt; simp only [decide_eq_true_eq]; omega
    clear h0
    go_wp2
    exact HP.out _ HF.out
theorem cells_below {W W' : World} {b off : Nat} {cs : List Value} (h : ∀ j u, cs[j]? = some u → W.cell? ⟨b, off + j, none⟩ = some u) (hb : Below W.heap.size W W') : ∀ j u, cs[j]? = some u → W'.cell? ⟨b, off + j, none⟩ = some u :=
  fun j u hu => keepCell hb (h j u hu)
theorem putE_cons (y : Ev) (l : List Ev) (x : Ev) : putE (y :: l) x = if ltE x y = true then x :: y :: l else y :: putE l x := by rw [putE]
/-- put, place by place: the row so far, and whether the new one is in it. -/
def putTo (L : List Ev) (x : Ev) : Nat → List Ev × Bool
  | 0 => ([], false)
  | k + 1 => match L[k]? with
    | none => putTo L x k
    | some y => let s := putTo L x k; if (!s.2 && ltE x y) = true then (s.1 ++ [x] ++ [y], true) else (s.1 ++ [y], s.2)
theorem putTo_succ {L : List Ev} {x y : Ev} {k : Nat} (h : L[k]? = some y) : putTo L x (k + 1) = if (!(putTo L x k).2 && ltE x y) = true then ((putTo L x k).1 ++ [x] ++ [y], true) else ((putTo L x k).1 ++ [y], (putTo L x k).2) := by
  show (match L[k]? with | none => putTo L x k | some y => let s := putTo L x k; if (!s.2 && ltE x y) = true then (s.1 ++ [x] ++ [y], true) else (s.1 ++ [y], s.2)) = _
  rw [h]
theorem putTo_none {L : List Ev} {x : Ev} {k : Nat} (h : L[k]? = none) : putTo L x (k + 1) = putTo L x k := by
  show (match L[k]? with | none => putTo L x k | some y => let s := putTo L x k; if (!s.2 && ltE x y) = true then (s.1 ++ [x] ++ [y], true) else (s.1 ++ [y], s.2)) = _
  rw [h]
/-- What is left to come behind place k. -/
theorem putTo_rest (L : List Ev) (x : Ev) : ∀ k, k ≤ L.length → putE L x = if (putTo L x k).2 = true then (putTo L x k).1 ++ L.drop k else (putTo L x k).1 ++ putE (L.drop k) x
  | 0, _ => by simp [putTo]
  | k + 1, h => by
    have ih := putTo_rest L x k (by omega)
    have hk : k < L.length := by omega
    have hd : L.drop k = L[k] :: L.drop (k + 1) := by rw [List.drop_eq_getElem_cons hk]
    rw [ih, putTo_succ (List.getElem?_eq_getElem hk), hd]
    cases hs : (putTo L x k).2 with
    | true => simp
    | false =>
      rw [putE_cons]
      cases hl : ltE x L[k] <;> simp
theorem putTo_end (L : List Ev) (x : Ev) : putE L x = if (putTo L x L.length).2 = true then (putTo L x L.length).1 else (putTo L x L.length).1 ++ [x] := by
  rw [putTo_rest L x L.length (Nat.le_refl _), List.drop_length]
  simp [putE]
theorem putTo_len (L : List Ev) (x : Ev) : ∀ k, (putTo L x k).1.length ≤ k + 1
  | 0 => by simp [putTo]
  | k + 1 => by
    have := putTo_len2 L x (k + 1)
    split at this <;> omega
where putTo_len2 (L : List Ev) (x : Ev) : ∀ k, if (putTo L x k).2 = true then (putTo L x k).1.length ≤ k + 1 else (putTo L x k).1.length ≤ k
  | 0 => by simp [putTo]
  | k + 1 => by
    have ih := putTo_len2 L x k
    cases hk : L[k]? with
    | none => rw [putTo_none hk]; split at ih <;> simp_all <;> omega
    | some y =>
      rw [putTo_succ hk]
      cases hs : (putTo L x k).2 <;> cases hl : ltE x y <;> simp [hs] at ih ⊢ <;> omega
def RPut (L : List Ev) (x : Ev) (w : World) (e : Ending) (w' : World) : Prop := ∃ v', e = .returned v' ∧ w'.ownsRow w.heap.size 31 4 v' (putE L x).length ((putE L x).flatMap encE) ∧ Below w.heap.size w w'
/-- How far put has come. -/
def PutJ (L : List Ev) (x : Ev) (w : World) (k : Nat) (u : Value) (d : Bool) (W : World) : Prop :=
  d = (putTo L x k).2 ∧ W.ownsRow (w.heap.size + 1) 31 4 u (putTo L x k).1.length ((putTo L x k).1.flatMap encE) ∧ Below w.heap.size w W ∧ Blk W w.heap.size 31 (encE x).toArray
theorem put_app {x : Ev} {w W W' : World} {v : Value} {m : Nat} {xs : List Value} (hb : Below w.heap.size w W) (hx : Blk W w.heap.size 31 (encE x).toArray) (ho : W.ownsRow (w.heap.size + 1) 31 4 v m xs) (hg : W.grownBy W' v.ownBlock) : Below w.heap.size w W' ∧ Blk W' w.heap.size 31 (encE x).toArray :=
  ⟨below_app hb (by omega) ho hg hb.size, hx.kept hg (fun e => ownsRow_ne ho (by omega) e.symm)⟩
set_option maxRecDepth 100000 in
set_option maxHeartbeats 3200000 in
theorem rput_any (v : Value) (L : List Ev) (x : Ev) (w : World) (hv : Rd encE 4 w v L) (hl : L.length ≤ 16384) : Calls Try.prog 32 #[v, .agg (encE x).toArray] w (RPut L x w) := by
  have HP : Hid (∀ w' v' l, l = putE L x → w'.ownsRow (w.heap.size + 1) 31 4 v' l.length (l.flatMap encE) → Below w.heap.size w w' → RPut L x w (.returned v') w') := fun w' v' l hl h1 h2 => by
    subst hl
    exact ⟨v', rfl, ownsRow_mono h1 (by omega), h2⟩
  have HV := Lib.hid hv
  have HB0 := Lib.hid (below1 w (.cells (encE x).toArray 31))
  have HX0 : Hid (Blk (w.alloc (.cells (encE x).toArray 31)) w.heap.size 31 (encE x).toArray) := Blk.new' rfl
  obtain ⟨a, cap, rfl, hcap, hcm, hlen⟩ := hv.shape
  obtain ⟨n, hn⟩ : ∃ n, n = L.length := ⟨_, rfl⟩
  rw [← hn] at hcap hlen HV hl
  rw [← hn]
  have HN := Lib.hid hn
  clear hv hn
  go_enter Try.func32, Try.ntmps32
  go_upto_region 1 with fail
  change Code.wp _ _ _ _ (w.alloc (.cells (encE x).toArray 31))
  have HJ0 : Hid (PutJ L x w 0 (.slice none 0 0) false (w.alloc (.cells (encE x).toArray 31))) := ⟨rfl, World.ownsRow_nil _ _ _ _, HB0.out, HX0.out⟩
  generalize w.alloc (.cells (encE x).toArray 31) = W0 at *
  go_wp2_with fail
  go_loopw [5, 6, 7] (fun u d i wr => ∃ (k : Nat) (db : Bool), k ≤ n ∧ i = .int .i64 k ∧ d = .bool db ∧ Hid (PutJ L x w k u db wr)) (fun _ _ i _ => n - (intOf i).toNat)
  case atStart => exact ⟨0, false, by omega, rfl, rfl, HJ0⟩
  case round =>
    clear HJ0
    obtain ⟨k, db, hk, rfl, rfl, HJ⟩ := hrel
    obtain ⟨W1, rfl⟩ : ∃ W1 : World, W1 = wr := ⟨_, rfl⟩
    obtain ⟨hdb, hO, hB, hX⟩ := HJ.out
    have hpl := putTo_len L x k
    obtain ⟨oa, oc, rfl, hoc, hocm, -⟩ := owns_shape hO
    by_cases hlt : k < n
    · obtain ⟨y, hy⟩ : ∃ y, L[k]? = some y := ⟨_, List.getElem?_eq_getElem (by have := HN.out; omega)⟩
      obtain ⟨bl, off, rfl, hbl, hc⟩ := (HV.out.below hB).row (by rintro rfl; simp at hy)
      have HC := Lib.hid (hc k y hy)
      have HYK := Lib.hid hy
      have HPS := Lib.hid (putTo_succ (x := x) hy)
      obtain ⟨P, hP⟩ : ∃ P, P = (putTo L x k).1 := ⟨_, rfl⟩
      rw [← hP] at hO hpl HPS
      rw [← hdb] at HPS
      rw [← hP] at hoc
      rw [← hP]
      have HO := Lib.hid hO
      have HB := Lib.hid hB
      have HX := Lib.hid hX
      have hpz : P.length ≤ 16386 := by omega
      have hwz : w.heap.size < W1.heap.size := hX.lt
      have hlt2 : (k : Int) < (n : Int) := by omega
      have hS : Hid (Blk W1.drew w.heap.size 31 (encE x).toArray) ∧ Hid (∀ j u, (encE y)[j]? = some u → W1.drew.cell? ⟨bl, off + k * 4 + j, none⟩ = some u) := ⟨hX.keep (Below.refl _ _).drew, HC.out⟩
      have HB1 : Hid (Below w.heap.size w W1.drew) := HB.out.drew
      have HO1 : Hid (W1.drew.ownsRow (w.heap.size + 1) 31 4 (.slice oa P.length oc) P.length (P.flatMap encE)) := HO.out
      clear hy hc hO hB hX hP hdb HJ hbl
      cases db with
      | true =>
        go_upto_region 6 with fail
        refine wp_region_held_drew (S := fun X => Hid (Blk X w.heap.size 31 (encE x).toArray) ∧ Hid (∀ j u, (encE y)[j]? = some u → X.cell? ⟨bl, off + k * 4 + j, none⟩ = some u)) (by kernel_rfl) hS (fun hHeld => ?_)
        (refine takeW (i := 0) (v := ?_) rfl (by kernel_rfl) (by kernel_rfl) (by kernel_rfl) (fun _ _ _ h => h) (by rfl) (by assumption) ?_ ?_; rotate_left; (intro W hW; (try dsimp only at hW); go_simp; try with_reducible rfl); (try simp only [Act.put, List.setIfInBounds_toArray, List.set_cons_zero, List.set_cons_succ]))
        (refine takeW (i := 1) (v := ?_) rfl (by kernel_rfl) (by kernel_rfl) (by kernel_rfl) (fun _ _ _ h => h) (by rfl) (by assumption) ?_ ?_; rotate_left; (intro W hW; (try dsimp only at hW); go_simp; try with_reducible rfl); (try simp only [Act.put, List.setIfInBounds_toArray, List.set_cons_zero, List.set_cons_succ]))
        (refine takeW (i := 2) (v := ?_) rfl (by kernel_rfl) (by kernel_rfl) (by kernel_rfl) (fun _ _ _ h => h) (by rfl) (by assumption) ?_ ?_; rotate_left; (intro W hW; (try dsimp only at hW); go_simp; try with_reducible rfl); (try simp only [Act.put, List.setIfInBounds_toArray, List.set_cons_zero, List.set_cons_succ]))
        first
          | (refine takeW (i := 3) (v := ?_) rfl (by kernel_rfl) (by kernel_rfl) (by kernel_rfl) (fun _ _ _ h => h) (by rfl) (by assumption) ?_ ?_; rotate_left; (intro W hW; (try dsimp only at hW); go_simp; try with_reducible rfl); (try simp only [Act.put, List.setIfInBounds_toArray, List.set_cons_zero, List.set_cons_succ]))
          | (refine takeU (i := 3) rfl (by kernel_rfl) (by kernel_rfl) (by kernel_rfl) (fun _ _ _ h => h) (by rfl) (by assumption) ?_; (try simp only [Act.put, List.setIfInBounds_toArray, List.set_cons_zero, List.set_cons_succ]))
        first
          | (refine takeW (i := 4) (v := ?_) rfl (by kernel_rfl) (by kernel_rfl) (by kernel_rfl) (fun _ _ _ h => h) (by rfl) (by assumption) ?_ ?_; rotate_left; (intro W hW; (try dsimp only at hW); go_simp; try with_reducible rfl); (try simp only [Act.put, List.setIfInBounds_toArray, List.set_cons_zero, List.set_cons_succ]))
          | (refine takeU (i := 4) rfl (by kernel_rfl) (by kernel_rfl) (by kernel_rfl) (fun _ _ _ h => h) (by rfl) (by assumption) ?_; (try simp only [Act.put, List.setIfInBounds_toArray, List.set_cons_zero, List.set_cons_succ]))
        first
          | (refine takeW (i := 5) (v := ?_) rfl (by kernel_rfl) (by kernel_rfl) (by kernel_rfl) (fun _ _ _ h => h) (by rfl) (by assumption) ?_ ?_; rotate_left; (intro W hW; (try dsimp only at hW); go_simp; try with_reducible rfl); (try simp only [Act.put, List.setIfInBounds_toArray, List.set_cons_zero, List.set_cons_succ]))
          | (refine takeU (i := 5) rfl (by kernel_rfl) (by kernel_rfl) (by kernel_rfl) (fun _ _ _ h => h) (by rfl) (by assumption) ?_; (try simp only [Act.put, List.setIfInBounds_toArray, List.set_cons_zero, List.set_cons_succ]))
        first
          | (refine takeW (i := 6) (v := ?_) rfl (by kernel_rfl) (by kernel_rfl) (by kernel_rfl) (fun _ _ _ h => h) (by rfl) (by assumption) ?_ ?_; rotate_left; (intro W hW; (try dsimp only at hW); go_simp; try with_reducible rfl); (try simp only [Act.put, List.setIfInBounds_toArray, List.set_cons_zero, List.set_cons_succ]))
          | (refine takeU (i := 6) rfl (by kernel_rfl) (by kernel_rfl) (by kernel_rfl) (fun _ _ _ h => h) (by rfl) (by assumption) ?_; (try simp only [Act.put, List.setIfInBounds_toArray, List.set_cons_zero, List.set_cons_succ]))
        first
          | (refine takeW (i := 7) (v := ?_) rfl (by kernel_rfl) (by kernel_rfl) (by kernel_rfl) (fun _ _ _ h => h) (by rfl) (by assumption) ?_ ?_; rotate_left; (intro W hW; (try dsimp only at hW); go_simp; try with_reducible rfl); (try simp only [Act.put, List.setIfInBounds_toArray, List.set_cons_zero, List.set_cons_succ]))
          | (refine takeU (i := 7) rfl (by kernel_rfl) (by kernel_rfl) (by kernel_rfl) (fun _ _ _ h => h) (by rfl) (by assumption) ?_; (try simp only [Act.put, List.setIfInBounds_toArray, List.set_cons_zero, List.set_cons_succ]))
        first
          | (refine takeW (i := 8) (v := ?_) rfl (by kernel_rfl) (by kernel_rfl) (by kernel_rfl) (fun _ _ _ h => h) (by rfl) (by assumption) ?_ ?_; rotate_left; (intro W hW; (try dsimp only at hW); go_simp; try with_reducible rfl); (try simp only [Act.put, List.setIfInBounds_toArray, List.set_cons_zero, List.set_cons_succ]))
          | (refine takeU (i := 8) rfl (by kernel_rfl) (by kernel_rfl) (by kernel_rfl) (fun _ _ _ h => h) (by rfl) (by assumption) ?_; (try simp only [Act.put, List.setIfInBounds_toArray, List.set_cons_zero, List.set_cons_succ]))
        (refine takeW (i := 9) (v := ?_) rfl (by kernel_rfl) (by kernel_rfl) (by kernel_rfl) (fun _ _ _ h => h) (by rfl) (by assumption) ?_ ?_; rotate_left; (intro W hW; (try dsimp only at hW); go_simp; try with_reducible rfl); (try simp only [Act.put, List.setIfInBounds_toArray, List.set_cons_zero, List.set_cons_succ]))
        refine wpAnyH_done (by kernel_rfl) ?_ _
        have hwz3 : w.heap.size < W1.drew.heap.size := hwz
        clear HC hS HO HB HX hwz
        generalize W1.drew = Wd at *
        go_wp2_with (first | ((with_reducible show wpList _ _ _ (Oper.mk (some 32) _ _ _ _ _ :: _) _ _); refine wpList_loadW W31 rfl rfl rfl (encE y) rfl hHeld.2.out ?_) | ((with_reducible show wpList _ _ _ (Oper.mk (some 33) _ _ _ _ _ :: _) _ _); refine wpList_sliceW E22 (by decide) rfl rfl (encE y) rfl rfl ?_) | ((with_reducible show wpList _ _ _ (Oper.mk (some 34) _ _ _ _ _ :: _) _ _); refine wpList_app1 E22 rfl (.tmp 28) (.tmp 33) rfl HO1.out (encE y) rfl (encE_one y) rfl rfl (by omega) (by omega) ?_; intro v3 w3 ho3 hg3; have HO3 := Lib.hid ho3; have HG3 := Lib.hid hg3; clear ho3 hg3))
        have HJ2 : Hid (PutJ L x w (k + 1) v3 true w3) := by
          refine ⟨by rw [HPS.out]; simp, ?_, put_app HB1.out hHeld.1.out HO1.out HG3.out⟩
          rw [HPS.out]
          simpa using HO3.out
        go_roundw
        case rel => exact ⟨k + 1, true, by omega, by go_num, rfl, HJ2⟩
        case measure => simp [intOf]; omega
      | false =>
        go_upto_region 6 with fail
        refine wp_region_held_drew (S := fun X => Hid (Blk X w.heap.size 31 (encE x).toArray) ∧ Hid (∀ j u, (encE y)[j]? = some u → X.cell? ⟨bl, off + k * 4 + j, none⟩ = some u)) (by kernel_rfl) hS (fun hHeld => ?_)
        (refine takeW (i := 0) (v := ?_) rfl (by kernel_rfl) (by kernel_rfl) (by kernel_rfl) (fun _ _ _ h => h) (by rfl) (by assumption) ?_ ?_; rotate_left; (intro W hW; (try dsimp only at hW); go_simp; try with_reducible rfl); (try simp only [Act.put, List.setIfInBounds_toArray, List.set_cons_zero, List.set_cons_succ]))
        (refine takeW (i := 1) (v := ?_) rfl (by kernel_rfl) (by kernel_rfl) (by kernel_rfl) (fun _ _ _ h => h) (by rfl) (by assumption) ?_ ?_; rotate_left; (intro W hW; (try dsimp only at hW); go_simp; try with_reducible rfl); (try simp only [Act.put, List.setIfInBounds_toArray, List.set_cons_zero, List.set_cons_succ]))
        (refine takeW (i := 2) (v := ?_) rfl (by kernel_rfl) (by kernel_rfl) (by kernel_rfl) (fun _ _ _ h => h) (by rfl) (by assumption) ?_ ?_; rotate_left; (intro W hW; (try dsimp only at hW); go_simp; try with_reducible rfl); (try simp only [Act.put, List.setIfInBounds_toArray, List.set_cons_zero, List.set_cons_succ]))
        (refine takeW (i := 3) rfl (by kernel_rfl) (by kernel_rfl) (by kernel_rfl) (fun _ _ _ h => h) (by rfl) (by assumption) (fun W hW => exec_loadW W31 rfl rfl (cs := encE x) rfl hW.1.out.list) ?_; (try simp only [Act.put, List.setIfInBounds_toArray, List.set_cons_zero, List.set_cons_succ]))
        first
          | (refine takeW (i := 4) (v := ?_) rfl (by kernel_rfl) (by kernel_rfl) (by kernel_rfl) (fun _ _ _ h => h) (by rfl) (by assumption) ?_ ?_; rotate_left; (intro W hW; (try dsimp only at hW); go_simp; try with_reducible rfl); (try simp only [Act.put, List.setIfInBounds_toArray, List.set_cons_zero, List.set_cons_succ]))
          | (refine takeU (i := 4) rfl (by kernel_rfl) (by kernel_rfl) (by kernel_rfl) (fun _ _ _ h => h) (by rfl) (by assumption) ?_; (try simp only [Act.put, List.setIfInBounds_toArray, List.set_cons_zero, List.set_cons_succ]))
        first
          | (refine takeW (i := 5) (v := ?_) rfl (by kernel_rfl) (by kernel_rfl) (by kernel_rfl) (fun _ _ _ h => h) (by rfl) (by assumption) ?_ ?_; rotate_left; (intro W hW; (try dsimp only at hW); go_simp; try with_reducible rfl); (try simp only [Act.put, List.setIfInBounds_toArray, List.set_cons_zero, List.set_cons_succ]))
          | (refine takeU (i := 5) rfl (by kernel_rfl) (by kernel_rfl) (by kernel_rfl) (fun _ _ _ h => h) (by rfl) (by assumption) ?_; (try simp only [Act.put, List.setIfInBounds_toArray, List.set_cons_zero, List.set_cons_succ]))
        first
          | (refine takeW (i := 6) (v := ?_) rfl (by kernel_rfl) (by kernel_rfl) (by kernel_rfl) (fun _ _ _ h => h) (by rfl) (by assumption) ?_ ?_; rotate_left; (intro W hW; (try dsimp only at hW); go_simp; try with_reducible rfl); (try simp only [Act.put, List.setIfInBounds_toArray, List.set_cons_zero, List.set_cons_succ]))
          | (refine takeU (i := 6) rfl (by kernel_rfl) (by kernel_rfl) (by kernel_rfl) (fun _ _ _ h => h) (by rfl) (by assumption) ?_; (try simp only [Act.put, List.setIfInBounds_toArray, List.set_cons_zero, List.set_cons_succ]))
        (refine takeW (i := 7) rfl (by kernel_rfl) (by kernel_rfl) (by kernel_rfl) (fun _ _ _ h => h) (by rfl) (by assumption) (fun W hW => exec_loadW W31 rfl rfl (cs := encE y) rfl (hW.2.out)) ?_; (try simp only [Act.put, List.setIfInBounds_toArray, List.set_cons_zero, List.set_cons_succ]))
        refine takeC (i := 8) rfl (by kernel_rfl) (by rfl) (fun K hK => ?_)
        go_simp
        refine (rless_any x y _).mono ?_
        rintro e W2 ⟨rfl, hg⟩
        have hb := Lib.hid hg
        clear hg
        refine hK.out _ _ ⟨Lib.hid (hHeld.1.out.keep hb.out), Lib.hid (cells_below hHeld.2.out hb.out)⟩ (fun hHeld => ?_)
        have HBW := Lib.hid (HB1.out.trans (hb.out.mono HB1.out.size))
        have HOW := Lib.hid (ow_below HO1.out hb.out)
        have hwz3 : w.heap.size < W2.heap.size := hHeld.1.out.lt
        clear hb hK K
        try simp only [Act.put, List.setIfInBounds_toArray, List.set_cons_zero, List.set_cons_succ]
        (refine takeW (i := 9) (v := ?_) rfl (by kernel_rfl) (by kernel_rfl) (by kernel_rfl) (fun _ _ _ h => h) (by rfl) (by assumption) ?_ ?_; rotate_left; (intro W hW; (try dsimp only at hW); go_simp; try with_reducible rfl); (try simp only [Act.put, List.setIfInBounds_toArray, List.set_cons_zero, List.set_cons_succ]))
        refine wpAnyH_done (by kernel_rfl) ?_ _
        clear HB1 HO1
        cases hq : ltE x y with
        | false =>
          have HJ2 : Hid (∀ v3 w3, w3.ownsRow (w.heap.size + 1) 31 4 v3 (P.length + 1) (P.flatMap encE ++ encE y) → W2.grownBy w3 (Value.slice oa P.length oc).ownBlock → PutJ L x w (k + 1) v3 false w3) := fun v3 w3 h3 g3 => by
            refine ⟨by rw [HPS.out, hq]; simp, ?_, put_app HBW.out hHeld.1.out HOW.out g3⟩
            rw [HPS.out, hq]
            simpa using h3
          clear HPS hq
          go_wp2_with (first | ((with_reducible show wpList _ _ _ (Oper.mk (some 32) _ _ _ _ _ :: _) _ _); refine wpList_loadW W31 rfl rfl rfl (encE y) rfl hHeld.2.out ?_) | ((with_reducible show wpList _ _ _ (Oper.mk (some 33) _ _ _ _ _ :: _) _ _); refine wpList_sliceW E22 (by decide) rfl rfl (encE y) rfl rfl ?_) | ((with_reducible show wpList _ _ _ (Oper.mk (some 34) _ _ _ _ _ :: _) _ _); refine wpList_app1 E22 rfl (.tmp 28) (.tmp 33) rfl HOW.out (encE y) rfl (encE_one y) rfl rfl (by omega) (by omega) ?_; intro v3 w3 ho3 hg3; have HO3 := Lib.hid ho3; have HG3 := Lib.hid hg3; clear ho3 hg3))
          have HJ3 := Lib.hid (HJ2.out _ _ HO3.out HG3.out)
          go_roundw
          case rel => exact ⟨k + 1, false, by omega, by go_num, rfl, HJ3⟩
          case measure => simp [intOf]; omega
        | true =>
          have HJ2 : Hid (∀ v3 w3, w3.ownsRow (w.heap.size + 1) 31 4 v3 (P.length + 1 + 1) (P.flatMap encE ++ encE x ++ encE y) → Below w.heap.size w w3 ∧ Blk w3 w.heap.size 31 (encE x).toArray → PutJ L x w (k + 1) v3 true w3) := fun v3 w3 h3 g3 => by
            refine ⟨by rw [HPS.out, hq]; simp, ?_, g3⟩
            rw [HPS.out, hq]
            simpa using h3
          clear HPS hq
          go_upto_region 9 with (first | ((with_reducible show wpList _ _ _ (Oper.mk (some 25) _ _ _ _ _ :: _) _ _); refine wpList_loadW W31 rfl rfl rfl (encE x) rfl hHeld.1.out.list ?_) | ((with_reducible show wpList _ _ _ (Oper.mk (some 26) _ _ _ _ _ :: _) _ _); refine wpList_sliceW E22 (by decide) rfl rfl (encE x) rfl rfl ?_) | ((with_reducible show wpList _ _ _ (Oper.mk (some 27) _ _ _ _ _ :: _) _ _); refine wpList_app1 E22 rfl (.tmp 24) (.tmp 26) rfl HOW.out (encE x) rfl (encE_one x) rfl rfl (by omega) (by omega) ?_; intro v2 w2 ho2 hg2; obtain ⟨pa, pc, rfl, hpc, hpcm, -⟩ := owns_shape ho2; have HO2 := Lib.hid ho2; have HG2 := Lib.hid hg2; clear ho2 hg2))
          have HBX2 := Lib.hid (put_app HBW.out hHeld.1.out HOW.out HG2.out)
          have HC2 : Hid (∀ j u, (encE y)[j]? = some u → w2.cell? ⟨bl, off + k * 4 + j, none⟩ = some u) := by
            have h1 := (HV.out.below HBX2.out.1).row (by intro e; have := HN.out; rw [e] at this; simp at this; omega)
            obtain ⟨b', o', e', -, h2⟩ := h1
            simp only [Option.some.injEq, Addr.mk.injEq, and_true] at e'
            obtain ⟨rfl, rfl⟩ := e'
            exact h2 k y HYK.out
          have hwz2 : w.heap.size < w2.heap.size := HBX2.out.2.lt
          go_wp2_with (first | ((with_reducible show wpList _ _ _ (Oper.mk (some 32) _ _ _ _ _ :: _) _ _); refine wpList_loadW W31 rfl rfl rfl (encE y) rfl HC2.out ?_) | ((with_reducible show wpList _ _ _ (Oper.mk (some 33) _ _ _ _ _ :: _) _ _); refine wpList_sliceW E22 (by decide) rfl rfl (encE y) rfl rfl ?_) | ((with_reducible show wpList _ _ _ (Oper.mk (some 34) _ _ _ _ _ :: _) _ _); refine wpList_app1 E22 rfl (.tmp 28) (.tmp 33) rfl HO2.out (encE y) rfl (encE_one y) rfl rfl (by omega) (by omega) ?_; intro v3 w3 ho3 hg3; have HO3 := Lib.hid ho3; have HG3 := Lib.hid hg3; clear ho3 hg3))
          have HJ3 := Lib.hid (HJ2.out _ _ HO3.out (put_app HBX2.out.1 HBX2.out.2 HO2.out HG3.out))
          go_roundw
          case rel => exact ⟨k + 1, true, by omega, by go_num, rfl, HJ3⟩
          case measure => simp [intOf]; omega
    · obtain rfl : n = k := by omega
      have hd : decide (n < n) = false := by simp
      have HE := Lib.hid (putTo_end L x)
      rw [← HN.out] at HE
      obtain ⟨P, hP⟩ : ∃ P, P = (putTo L x n).1 := ⟨_, rfl⟩
      rw [← hP] at hO hpl HE hoc
      rw [← hdb] at HE
      rw [← hP]
      have hpz : P.length ≤ 16386 := by omega
      have hwz : w.heap.size < W1.heap.size := hX.lt
      have HO := Lib.hid hO
      have HB := Lib.hid hB
      have HX := Lib.hid hX
      clear hP hdb HJ hO hB hX hlt hk
      cases db with
      | true =>
        have HEQ : Hid (P = putE L x) := by show _ = _; rw [HE.out]; simp
        go_wp2
        go_ret
        exact HP.out _ _ P HEQ.out HO.out HB.out
      | false =>
        have HEQ : Hid (P ++ [x] = putE L x) := by show _ = _; rw [HE.out]; simp
        go_wp2_with (first | ((with_reducible show wpList _ _ _ (Oper.mk (some 38) _ _ _ _ _ :: _) _ _); refine wpList_loadW W31 rfl rfl rfl (encE x) rfl HX.out.list ?_) | ((with_reducible show wpList _ _ _ (Oper.mk (some 39) _ _ _ _ _ :: _) _ _); refine wpList_sliceW E22 (by decide) rfl rfl (encE x) rfl rfl ?_) | ((with_reducible show wpList _ _ _ (Oper.mk (some 40) _ _ _ _ _ :: _) _ _); refine wpList_app1 E22 rfl (.tmp 37) (.tmp 39) rfl HO.out (encE x) rfl (encE_one x) rfl rfl (by omega) (by omega) ?_; intro v2 w2 ho2 hg2; have HO2 := Lib.hid ho2; have HG2 := Lib.hid hg2; clear ho2 hg2))
        go_ret
        refine HP.out _ _ (P ++ [x]) HEQ.out (by simpa using HO2.out) (put_app HB.out HX.out HO.out HG2.out).1
end Go.Proofs.Ytbmnecdkjkffdaa
