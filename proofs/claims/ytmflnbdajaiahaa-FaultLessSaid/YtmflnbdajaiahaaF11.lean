/- The document's put of faults. -/
import Derived.Test.YtmflnbdajaiahaaF10
import Derived.Test.YtmflnbdajaiahaaF9
namespace Go.Proofs.Ytmflnbdajaiahaa
open Go.RowKit Go.Shelf

/-- What put has behind k places: the row, and whether the fault is in it. -/
def putTo (L : List Fa) (x : Fa) : Nat → List Fa × Bool
  | 0 => ([], false)
  | k + 1 => match L[k]? with
    | none => putTo L x k
    | some y => if ((putTo L x k).2 || decide (y = x)) = false ∧ decide (cmpF x y < 0) = true then ((putTo L x k).1 ++ [x, y], true) else ((putTo L x k).1 ++ [y], (putTo L x k).2 || decide (y = x))
theorem putTo_succ {L : List Fa} {x y : Fa} {k : Nat} (h : L[k]? = some y) : putTo L x (k + 1) = if ((putTo L x k).2 || decide (y = x)) = false ∧ decide (cmpF x y < 0) = true then ((putTo L x k).1 ++ [x, y], true) else ((putTo L x k).1 ++ [y], (putTo L x k).2 || decide (y = x)) := by
  conv => lhs; unfold putTo
  rw [h]
theorem putTo_rest (L : List Fa) (x : Fa) : ∀ k, k ≤ L.length → putF L x = if (putTo L x k).2 = true then (putTo L x k).1 ++ L.drop k else (putTo L x k).1 ++ putF (L.drop k) x
  | 0, _ => by simp [putTo]
  | k + 1, hk => by
    have ih := putTo_rest L x k (by omega)
    have hk : k < L.length := by omega
    have hd : L.drop k = L[k] :: L.drop (k + 1) := by rw [List.drop_eq_getElem_cons hk]
    rw [ih, putTo_succ (List.getElem?_eq_getElem hk), hd]
    generalize L[k] = y
    cases hs : (putTo L x k).2 with
    | true => simp
    | false =>
      by_cases hy : y = x
      · simp [hy, putF]
      · by_cases hl : cmpF x y < 0
        · simp [hy, hl, putF]
        · simp [hy, hl, putF]
theorem putTo_end (L : List Fa) (x : Fa) : putF L x = if (putTo L x L.length).2 = true then (putTo L x L.length).1 else (putTo L x L.length).1 ++ [x] := by
  rw [putTo_rest L x L.length (Nat.le_refl _), List.drop_length]
  simp [putF]
theorem putTo_len (L : List Fa) (x : Fa) : ∀ k, (putTo L x k).1.length ≤ 2 * k
  | 0 => by simp [putTo]
  | k + 1 => by
    have ih := putTo_len L x k
    cases hk : L[k]? with
    | none =>
      have : putTo L x (k + 1) = putTo L x k := by conv => lhs; unfold putTo; rw [hk]
      rw [this]; omega
    | some y =>
      rw [putTo_succ hk]
      split <;> simp <;> omega
def RPut (L : List Fa) (x : Fa) (w : World) (e : Ending) (w' : World) : Prop := ∃ v', e = .returned v' ∧ w'.ownsRow w.heap.size 33 7 v' (putF L x).length ((putF L x).flatMap encF) ∧ Below w.heap.size w w'
/-- How far put has come. -/
def PutJ (L : List Fa) (x : Fa) (w : World) (k : Nat) (u : Value) (d : Bool) (W : World) : Prop :=
  d = (putTo L x k).2 ∧ W.ownsRow (w.heap.size + 1) 33 7 u (putTo L x k).1.length ((putTo L x k).1.flatMap encF) ∧ Below w.heap.size w W ∧ Blk W w.heap.size 33 (encF x).toArray
theorem put_app {x : Fa} {w W W' : World} {v : Value} {m : Nat} {xs : List Value} (hb : Below w.heap.size w W) (hx : Blk W w.heap.size 33 (encF x).toArray) (ho : W.ownsRow (w.heap.size + 1) 33 7 v m xs) (hg : W.grownBy W' v.ownBlock) : Below w.heap.size w W' ∧ Blk W' w.heap.size 33 (encF x).toArray :=
  ⟨below_app hb (by omega) ho hg hb.size, hx.kept hg (fun e => ownsRow_ne ho (by omega) e.symm)⟩
set_option maxRecDepth 100000 in
set_option maxHeartbeats 3200000 in
theorem rput_any (v : Value) (L : List Fa) (x : Fa) (w : World) (hv : Rd encF 7 w v L) (hl : L.length ≤ 16384) : Calls Try.prog 40 #[v, .agg (encF x).toArray] w (RPut L x w) := by
  have HP : Hid (∀ w' v' l, l = putF L x → w'.ownsRow (w.heap.size + 1) 33 7 v' l.length (l.flatMap encF) → Below w.heap.size w w' → RPut L x w (.returned v') w') := fun w' v' l hl h1 h2 => by
    subst hl
    exact ⟨v', rfl, ownsRow_mono h1 (by omega), h2⟩
  generalize RPut L x w = POST at *
  have HV := Lib.hid hv
  have HB0 := Lib.hid (below1 w (.cells (encF x).toArray 33))
  have HX0 : Hid (Blk (w.alloc (.cells (encF x).toArray 33)) w.heap.size 33 (encF x).toArray) := Blk.new' rfl
  obtain ⟨a, cap, rfl, hcap, hcm, hlen⟩ := hv.shape
  obtain ⟨n, hn⟩ : ∃ n, n = L.length := ⟨_, rfl⟩
  rw [← hn] at hcap hlen HV hl
  rw [← hn]
  have HN := Lib.hid hn
  clear hv hn
  go_enter Try.func40, Try.ntmps40
  go_upto_region 1 with fail
  change Code.wp _ _ _ _ (w.alloc (.cells (encF x).toArray 33))
  have HJ0 : Hid (PutJ L x w 0 (.slice none 0 0) false (w.alloc (.cells (encF x).toArray 33))) := ⟨rfl, World.ownsRow_nil _ _ _ _, HB0.out, HX0.out⟩
  generalize w.alloc (.cells (encF x).toArray 33) = W0 at *
  go_wp2_with fail
  go_loopw [5, 6, 7] (fun u d i wr => ∃ (k : Nat) (db : Bool), k ≤ n ∧ i = .int .i64 k ∧ d = .bool db ∧ Hid (PutJ L x w k u db wr)) (fun _ _ i _ => n - (intOf i).toNat)
  case atStart => exact ⟨0, false, by omega, rfl, rfl, HJ0⟩
  case round =>
    clear HJ0
    obtain ⟨k, db, hk, rfl, rfl, HJ⟩ := hrel
    obtain ⟨W1, rfl⟩ : ∃ W1 : World, W1 = wr := ⟨_, rfl⟩
    obtain ⟨hdb, hO, hB, hX⟩ := HJ.out
    have hpl := putTo_len L x k
    obtain ⟨oa, oc, hoe, hoc, hocm, -⟩ := owns_shape hO
    subst hoe
    by_cases hlt : k < n
    · obtain ⟨y, hy⟩ : ∃ y, L[k]? = some y := ⟨_, List.getElem?_eq_getElem (by have := HN.out; omega)⟩
      obtain ⟨bl, off, rfl, hbl, hc⟩ := (HV.out.below hB).row (by rintro rfl; simp at hy)
      have HC := Lib.hid (hc k y hy)
      have HYK := Lib.hid hy
      have HPS := Lib.hid (putTo_succ (x := x) hy)
      obtain ⟨P, hP⟩ : ∃ P, P = (putTo L x k).1 := ⟨_, rfl⟩
      rw [← hP] at hO hpl HPS
      rw [← hdb] at HPS
      rw [← hP] at hoc
      rw [← hP]
      have HO := Lib.hid hO
      have HB := Lib.hid hB
      have HX := Lib.hid hX
      have hpz : P.length ≤ 32768 := by omega
      have hwz0 : w.heap.size < W1.heap.size := hX.lt
      have hlt2 : (k : Int) < (n : Int) := by omega
      have hS : Hid (Blk W1.drew w.heap.size 33 (encF x).toArray) ∧ Hid (∀ j u, (encF y)[j]? = some u → W1.drew.cell? ⟨bl, off + k * 7 + j, none⟩ = some u) := ⟨hX.keep (Below.refl _ _).drew, HC.out⟩
      have HBd : Hid (Below w.heap.size w W1.drew) := HB.out.drew
      have HOd : Hid (W1.drew.ownsRow (w.heap.size + 1) 33 7 (.slice oa P.length oc) P.length (P.flatMap encF)) := HO.out
      clear hy hc hO hB hX hP hdb HJ
      cases db with
      | true =>
        go_upto_region 6 with fail
        refine wp_region_held_drew (S := fun X => Hid (Blk X w.heap.size 33 (encF x).toArray) ∧ Hid (∀ j u, (encF y)[j]? = some u → X.cell? ⟨bl, off + k * 7 + j, none⟩ = some u)) (by kernel_rfl) hS (fun hHeld => ?_)
        (refine takeW (i := 0) (v := ?_) rfl (by kernel_rfl) (by kernel_rfl) (by kernel_rfl) (fun _ _ _ h => h) (by rfl) (by assumption) ?_ ?_; rotate_left; (intro W hW; (try dsimp only at hW); go_simp; try with_reducible rfl); (try simp only [Act.put, List.setIfInBounds_toArray, List.set_cons_zero, List.set_cons_succ]))
        (refine takeW (i := 1) (v := ?_) rfl (by kernel_rfl) (by kernel_rfl) (by kernel_rfl) (fun _ _ _ h => h) (by rfl) (by assumption) ?_ ?_; rotate_left; (intro W hW; (try dsimp only at hW); go_simp; try with_reducible rfl); (try simp only [Act.put, List.setIfInBounds_toArray, List.set_cons_zero, List.set_cons_succ]))
        (refine takeW (i := 2) (v := ?_) rfl (by kernel_rfl) (by kernel_rfl) (by kernel_rfl) (fun _ _ _ h => h) (by rfl) (by assumption) ?_ ?_; rotate_left; (intro W hW; (try dsimp only at hW); go_simp; try with_reducible rfl); (try simp only [Act.put, List.setIfInBounds_toArray, List.set_cons_zero, List.set_cons_succ]))
        (refine takeW (i := 3) rfl (by kernel_rfl) (by kernel_rfl) (by kernel_rfl) (fun _ _ _ h => h) (by rfl) (by assumption) (fun W hW => exec_loadW W33 rfl rfl (cs := encF y) rfl hW.2.out) ?_; (try simp only [Act.put, List.setIfInBounds_toArray, List.set_cons_zero, List.set_cons_succ]))
        (refine takeW (i := 4) rfl (by kernel_rfl) (by kernel_rfl) (by kernel_rfl) (fun _ _ _ h => h) (by rfl) (by assumption) (fun W hW => exec_loadW W33 rfl rfl (cs := encF x) rfl hW.1.out.list) ?_; (try simp only [Act.put, List.setIfInBounds_toArray, List.set_cons_zero, List.set_cons_succ]))
        (refine takeW (i := 5) rfl (by kernel_rfl) (by kernel_rfl) (by kernel_rfl) (fun _ _ _ h => h) (by rfl) (by assumption) (fun W hW => exec_eqF (u := y) (v := x) rfl rfl rfl) ?_; (try simp only [Act.put, List.setIfInBounds_toArray, List.set_cons_zero, List.set_cons_succ]))
        refine wpAnyH_done (by kernel_rfl) ?_ _
        have hSd := hHeld
        clear hHeld hS HO HB HX HC
        have hwz : w.heap.size < W1.drew.heap.size := hwz0
        clear hwz0
        generalize W1.drew = Wd at *
        by_cases hyx : y = x
        · rw [show decide (y = x) = true by simp [hyx]]
          clear hyx
          go_upto_region 8 with fail
          have hS : Hid (Blk Wd.drew w.heap.size 33 (encF x).toArray) ∧ Hid (∀ j u, (encF y)[j]? = some u → Wd.drew.cell? ⟨bl, off + k * 7 + j, none⟩ = some u) := ⟨hSd.1.out.keep (Below.refl _ _).drew, hSd.2.out⟩
          have hSe := hS
          have HBe : Hid (Below w.heap.size w Wd.drew) := HBd.out.drew
          have HOe : Hid (Wd.drew.ownsRow (w.heap.size + 1) 33 7 (.slice oa P.length oc) P.length (P.flatMap encF)) := HOd.out
          have hwze : w.heap.size < Wd.drew.heap.size := hwz
          clear hwz hSd HBd HOd
          refine wp_region_held_drew (S := fun X => Hid (Blk X w.heap.size 33 (encF x).toArray) ∧ Hid (∀ j u, (encF y)[j]? = some u → X.cell? ⟨bl, off + k * 7 + j, none⟩ = some u)) (by kernel_rfl) hS (fun hHeld => ?_)
          (refine takeW (i := 0) (v := ?_) rfl (by kernel_rfl) (by kernel_rfl) (by kernel_rfl) (fun _ _ _ h => h) (by rfl) (by assumption) ?_ ?_; rotate_left; (intro W hW; (try dsimp only at hW); go_simp; try with_reducible rfl); (try simp only [Act.put, List.setIfInBounds_toArray, List.set_cons_zero, List.set_cons_succ]))
          (refine takeW (i := 1) (v := ?_) rfl (by kernel_rfl) (by kernel_rfl) (by kernel_rfl) (fun _ _ _ h => h) (by rfl) (by assumption) ?_ ?_; rotate_left; (intro W hW; (try dsimp only at hW); go_simp; try with_reducible rfl); (try simp only [Act.put, List.setIfInBounds_toArray, List.set_cons_zero, List.set_cons_succ]))
          (refine takeW (i := 2) (v := ?_) rfl (by kernel_rfl) (by kernel_rfl) (by kernel_rfl) (fun _ _ _ h => h) (by rfl) (by assumption) ?_ ?_; rotate_left; (intro W hW; (try dsimp only at hW); go_simp; try with_reducible rfl); (try simp only [Act.put, List.setIfInBounds_toArray, List.set_cons_zero, List.set_cons_succ]))
          first
            | (refine takeW (i := 3) (v := ?_) rfl (by kernel_rfl) (by kernel_rfl) (by kernel_rfl) (fun _ _ _ h => h) (by rfl) (by assumption) ?_ ?_; rotate_left; (intro W hW; (try dsimp only at hW); go_simp; try with_reducible rfl); (try simp only [Act.put, List.setIfInBounds_toArray, List.set_cons_zero, List.set_cons_succ]))
            | (refine takeU (i := 3) rfl (by kernel_rfl) (by kernel_rfl) (by kernel_rfl) (fun _ _ _ h => h) (by rfl) (by assumption) ?_; (try simp only [Act.put, List.setIfInBounds_toArray, List.set_cons_zero, List.set_cons_succ]))
          first
            | (refine takeW (i := 4) (v := ?_) rfl (by kernel_rfl) (by kernel_rfl) (by kernel_rfl) (fun _ _ _ h => h) (by rfl) (by assumption) ?_ ?_; rotate_left; (intro W hW; (try dsimp only at hW); go_simp; try with_reducible rfl); (try simp only [Act.put, List.setIfInBounds_toArray, List.set_cons_zero, List.set_cons_succ]))
            | (refine takeU (i := 4) rfl (by kernel_rfl) (by kernel_rfl) (by kernel_rfl) (fun _ _ _ h => h) (by rfl) (by assumption) ?_; (try simp only [Act.put, List.setIfInBounds_toArray, List.set_cons_zero, List.set_cons_succ]))
          first
            | (refine takeW (i := 5) (v := ?_) rfl (by kernel_rfl) (by kernel_rfl) (by kernel_rfl) (fun _ _ _ h => h) (by rfl) (by assumption) ?_ ?_; rotate_left; (intro W hW; (try dsimp only at hW); go_simp; try with_reducible rfl); (try simp only [Act.put, List.setIfInBounds_toArray, List.set_cons_zero, List.set_cons_succ]))
            | (refine takeU (i := 5) rfl (by kernel_rfl) (by kernel_rfl) (by kernel_rfl) (fun _ _ _ h => h) (by rfl) (by assumption) ?_; (try simp only [Act.put, List.setIfInBounds_toArray, List.set_cons_zero, List.set_cons_succ]))
          first
            | (refine takeW (i := 6) (v := ?_) rfl (by kernel_rfl) (by kernel_rfl) (by kernel_rfl) (fun _ _ _ h => h) (by rfl) (by assumption) ?_ ?_; rotate_left; (intro W hW; (try dsimp only at hW); go_simp; try with_reducible rfl); (try simp only [Act.put, List.setIfInBounds_toArray, List.set_cons_zero, List.set_cons_succ]))
            | (refine takeU (i := 6) rfl (by kernel_rfl) (by kernel_rfl) (by kernel_rfl) (fun _ _ _ h => h) (by rfl) (by assumption) ?_; (try simp only [Act.put, List.setIfInBounds_toArray, List.set_cons_zero, List.set_cons_succ]))
          first
            | (refine takeW (i := 7) (v := ?_) rfl (by kernel_rfl) (by kernel_rfl) (by kernel_rfl) (fun _ _ _ h => h) (by rfl) (by assumption) ?_ ?_; rotate_left; (intro W hW; (try dsimp only at hW); go_simp; try with_reducible rfl); (try simp only [Act.put, List.setIfInBounds_toArray, List.set_cons_zero, List.set_cons_succ]))
            | (refine takeU (i := 7) rfl (by kernel_rfl) (by kernel_rfl) (by kernel_rfl) (fun _ _ _ h => h) (by rfl) (by assumption) ?_; (try simp only [Act.put, List.setIfInBounds_toArray, List.set_cons_zero, List.set_cons_succ]))
          first
            | (refine takeW (i := 8) (v := ?_) rfl (by kernel_rfl) (by kernel_rfl) (by kernel_rfl) (fun _ _ _ h => h) (by rfl) (by assumption) ?_ ?_; rotate_left; (intro W hW; (try dsimp only at hW); go_simp; try with_reducible rfl); (try simp only [Act.put, List.setIfInBounds_toArray, List.set_cons_zero, List.set_cons_succ]))
            | (refine takeU (i := 8) rfl (by kernel_rfl) (by kernel_rfl) (by kernel_rfl) (fun _ _ _ h => h) (by rfl) (by assumption) ?_; (try simp only [Act.put, List.setIfInBounds_toArray, List.set_cons_zero, List.set_cons_succ]))
          (refine takeW (i := 9) (v := ?_) rfl (by kernel_rfl) (by kernel_rfl) (by kernel_rfl) (fun _ _ _ h => h) (by rfl) (by assumption) ?_ ?_; rotate_left; (intro W hW; (try dsimp only at hW); go_simp; try with_reducible rfl); (try simp only [Act.put, List.setIfInBounds_toArray, List.set_cons_zero, List.set_cons_succ]))
          refine wpAnyH_done (by kernel_rfl) ?_ _
          clear hHeld
          generalize Wd.drew = We at *
          go_wp2_with (first | ((with_reducible show wpList _ _ _ (Oper.mk (some 38) _ _ _ _ _ :: _) _ _); refine wpList_loadW W33 rfl rfl rfl (encF y) rfl hSe.2.out ?_) | ((with_reducible show wpList _ _ _ (Oper.mk (some 39) _ _ _ _ _ :: _) _ _); refine wpList_sliceW E26 (by decide) rfl rfl (encF y) rfl rfl ?_) | ((with_reducible show wpList _ _ _ (Oper.mk (some 40) _ _ _ _ _ :: _) _ _); refine wpList_app1 E26 rfl (.tmp 34) (.tmp 39) rfl HOe.out (encF y) rfl (encF_one y) rfl rfl (by omega) (by omega) ?_; intro v3 w3 ho3 hg3; have HO3 := Lib.hid ho3; have HG3 := Lib.hid hg3; clear ho3 hg3))
          have HJ2 : Hid (PutJ L x w (k + 1) v3 true w3) := by
            refine ⟨by rw [HPS.out]; simp, ?_, put_app HBe.out hSe.1.out HOe.out HG3.out⟩
            rw [HPS.out]
            simpa using HO3.out
          go_roundw
          case rel => exact ⟨k + 1, true, by omega, by go_num, rfl, HJ2⟩
          case measure => simp [intOf]; omega
        · rw [show decide (y = x) = false by simp [hyx]]
          clear hyx
          go_upto_region 8 with fail
          have hS : Hid (Blk Wd.drew w.heap.size 33 (encF x).toArray) ∧ Hid (∀ j u, (encF y)[j]? = some u → Wd.drew.cell? ⟨bl, off + k * 7 + j, none⟩ = some u) := ⟨hSd.1.out.keep (Below.refl _ _).drew, hSd.2.out⟩
          have hSe := hS
          have HBe : Hid (Below w.heap.size w Wd.drew) := HBd.out.drew
          have HOe : Hid (Wd.drew.ownsRow (w.heap.size + 1) 33 7 (.slice oa P.length oc) P.length (P.flatMap encF)) := HOd.out
          have hwze : w.heap.size < Wd.drew.heap.size := hwz
          clear hwz hSd HBd HOd
          refine wp_region_held_drew (S := fun X => Hid (Blk X w.heap.size 33 (encF x).toArray) ∧ Hid (∀ j u, (encF y)[j]? = some u → X.cell? ⟨bl, off + k * 7 + j, none⟩ = some u)) (by kernel_rfl) hS (fun hHeld => ?_)
          (refine takeW (i := 0) (v := ?_) rfl (by kernel_rfl) (by kernel_rfl) (by kernel_rfl) (fun _ _ _ h => h) (by rfl) (by assumption) ?_ ?_; rotate_left; (intro W hW; (try dsimp only at hW); go_simp; try with_reducible rfl); (try simp only [Act.put, List.setIfInBounds_toArray, List.set_cons_zero, List.set_cons_succ]))
          (refine takeW (i := 1) (v := ?_) rfl (by kernel_rfl) (by kernel_rfl) (by kernel_rfl) (fun _ _ _ h => h) (by rfl) (by assumption) ?_ ?_; rotate_left; (intro W hW; (try dsimp only at hW); go_simp; try with_reducible rfl); (try simp only [Act.put, List.setIfInBounds_toArray, List.set_cons_zero, List.set_cons_succ]))
          (refine takeW (i := 2) (v := ?_) rfl (by kernel_rfl) (by kernel_rfl) (by kernel_rfl) (fun _ _ _ h => h) (by rfl) (by assumption) ?_ ?_; rotate_left; (intro W hW; (try dsimp only at hW); go_simp; try with_reducible rfl); (try simp only [Act.put, List.setIfInBounds_toArray, List.set_cons_zero, List.set_cons_succ]))
          first
            | (refine takeW (i := 3) (v := ?_) rfl (by kernel_rfl) (by kernel_rfl) (by kernel_rfl) (fun _ _ _ h => h) (by rfl) (by assumption) ?_ ?_; rotate_left; (intro W hW; (try dsimp only at hW); go_simp; try with_reducible rfl); (try simp only [Act.put, List.setIfInBounds_toArray, List.set_cons_zero, List.set_cons_succ]))
            | (refine takeU (i := 3) rfl (by kernel_rfl) (by kernel_rfl) (by kernel_rfl) (fun _ _ _ h => h) (by rfl) (by assumption) ?_; (try simp only [Act.put, List.setIfInBounds_toArray, List.set_cons_zero, List.set_cons_succ]))
          first
            | (refine takeW (i := 4) (v := ?_) rfl (by kernel_rfl) (by kernel_rfl) (by kernel_rfl) (fun _ _ _ h => h) (by rfl) (by assumption) ?_ ?_; rotate_left; (intro W hW; (try dsimp only at hW); go_simp; try with_reducible rfl); (try simp only [Act.put, List.setIfInBounds_toArray, List.set_cons_zero, List.set_cons_succ]))
            | (refine takeU (i := 4) rfl (by kernel_rfl) (by kernel_rfl) (by kernel_rfl) (fun _ _ _ h => h) (by rfl) (by assumption) ?_; (try simp only [Act.put, List.setIfInBounds_toArray, List.set_cons_zero, List.set_cons_succ]))
          first
            | (refine takeW (i := 5) (v := ?_) rfl (by kernel_rfl) (by kernel_rfl) (by kernel_rfl) (fun _ _ _ h => h) (by rfl) (by assumption) ?_ ?_; rotate_left; (intro W hW; (try dsimp only at hW); go_simp; try with_reducible rfl); (try simp only [Act.put, List.setIfInBounds_toArray, List.set_cons_zero, List.set_cons_succ]))
            | (refine takeU (i := 5) rfl (by kernel_rfl) (by kernel_rfl) (by kernel_rfl) (fun _ _ _ h => h) (by rfl) (by assumption) ?_; (try simp only [Act.put, List.setIfInBounds_toArray, List.set_cons_zero, List.set_cons_succ]))
          first
            | (refine takeW (i := 6) (v := ?_) rfl (by kernel_rfl) (by kernel_rfl) (by kernel_rfl) (fun _ _ _ h => h) (by rfl) (by assumption) ?_ ?_; rotate_left; (intro W hW; (try dsimp only at hW); go_simp; try with_reducible rfl); (try simp only [Act.put, List.setIfInBounds_toArray, List.set_cons_zero, List.set_cons_succ]))
            | (refine takeU (i := 6) rfl (by kernel_rfl) (by kernel_rfl) (by kernel_rfl) (fun _ _ _ h => h) (by rfl) (by assumption) ?_; (try simp only [Act.put, List.setIfInBounds_toArray, List.set_cons_zero, List.set_cons_succ]))
          first
            | (refine takeW (i := 7) (v := ?_) rfl (by kernel_rfl) (by kernel_rfl) (by kernel_rfl) (fun _ _ _ h => h) (by rfl) (by assumption) ?_ ?_; rotate_left; (intro W hW; (try dsimp only at hW); go_simp; try with_reducible rfl); (try simp only [Act.put, List.setIfInBounds_toArray, List.set_cons_zero, List.set_cons_succ]))
            | (refine takeU (i := 7) rfl (by kernel_rfl) (by kernel_rfl) (by kernel_rfl) (fun _ _ _ h => h) (by rfl) (by assumption) ?_; (try simp only [Act.put, List.setIfInBounds_toArray, List.set_cons_zero, List.set_cons_succ]))
          first
            | (refine takeW (i := 8) (v := ?_) rfl (by kernel_rfl) (by kernel_rfl) (by kernel_rfl) (fun _ _ _ h => h) (by rfl) (by assumption) ?_ ?_; rotate_left; (intro W hW; (try dsimp only at hW); go_simp; try with_reducible rfl); (try simp only [Act.put, List.setIfInBounds_toArray, List.set_cons_zero, List.set_cons_succ]))
            | (refine takeU (i := 8) rfl (by kernel_rfl) (by kernel_rfl) (by kernel_rfl) (fun _ _ _ h => h) (by rfl) (by assumption) ?_; (try simp only [Act.put, List.setIfInBounds_toArray, List.set_cons_zero, List.set_cons_succ]))
          (refine takeW (i := 9) (v := ?_) rfl (by kernel_rfl) (by kernel_rfl) (by kernel_rfl) (fun _ _ _ h => h) (by rfl) (by assumption) ?_ ?_; rotate_left; (intro W hW; (try dsimp only at hW); go_simp; try with_reducible rfl); (try simp only [Act.put, List.setIfInBounds_toArray, List.set_cons_zero, List.set_cons_succ]))
          refine wpAnyH_done (by kernel_rfl) ?_ _
          clear hHeld
          generalize Wd.drew = We at *
          go_wp2_with (first | ((with_reducible show wpList _ _ _ (Oper.mk (some 38) _ _ _ _ _ :: _) _ _); refine wpList_loadW W33 rfl rfl rfl (encF y) rfl hSe.2.out ?_) | ((with_reducible show wpList _ _ _ (Oper.mk (some 39) _ _ _ _ _ :: _) _ _); refine wpList_sliceW E26 (by decide) rfl rfl (encF y) rfl rfl ?_) | ((with_reducible show wpList _ _ _ (Oper.mk (some 40) _ _ _ _ _ :: _) _ _); refine wpList_app1 E26 rfl (.tmp 34) (.tmp 39) rfl HOe.out (encF y) rfl (encF_one y) rfl rfl (by omega) (by omega) ?_; intro v3 w3 ho3 hg3; have HO3 := Lib.hid ho3; have HG3 := Lib.hid hg3; clear ho3 hg3))
          have HJ2 : Hid (PutJ L x w (k + 1) v3 true w3) := by
            refine ⟨by rw [HPS.out]; simp, ?_, put_app HBe.out hSe.1.out HOe.out HG3.out⟩
            rw [HPS.out]
            simpa using HO3.out
          go_roundw
          case rel => exact ⟨k + 1, true, by omega, by go_num, rfl, HJ2⟩
          case measure => simp [intOf]; omega
      | false =>
        go_upto_region 6 with fail
        refine wp_region_held_drew (S := fun X => Hid (Blk X w.heap.size 33 (encF x).toArray) ∧ Hid (∀ j u, (encF y)[j]? = some u → X.cell? ⟨bl, off + k * 7 + j, none⟩ = some u)) (by kernel_rfl) hS (fun hHeld => ?_)
        (refine takeW (i := 0) (v := ?_) rfl (by kernel_rfl) (by kernel_rfl) (by kernel_rfl) (fun _ _ _ h => h) (by rfl) (by assumption) ?_ ?_; rotate_left; (intro W hW; (try dsimp only at hW); go_simp; try with_reducible rfl); (try simp only [Act.put, List.setIfInBounds_toArray, List.set_cons_zero, List.set_cons_succ]))
        (refine takeW (i := 1) (v := ?_) rfl (by kernel_rfl) (by kernel_rfl) (by kernel_rfl) (fun _ _ _ h => h) (by rfl) (by assumption) ?_ ?_; rotate_left; (intro W hW; (try dsimp only at hW); go_simp; try with_reducible rfl); (try simp only [Act.put, List.setIfInBounds_toArray, List.set_cons_zero, List.set_cons_succ]))
        (refine takeW (i := 2) (v := ?_) rfl (by kernel_rfl) (by kernel_rfl) (by kernel_rfl) (fun _ _ _ h => h) (by rfl) (by assumption) ?_ ?_; rotate_left; (intro W hW; (try dsimp only at hW); go_simp; try with_reducible rfl); (try simp only [Act.put, List.setIfInBounds_toArray, List.set_cons_zero, List.set_cons_succ]))
        (refine takeW (i := 3) rfl (by kernel_rfl) (by kernel_rfl) (by kernel_rfl) (fun _ _ _ h => h) (by rfl) (by assumption) (fun W hW => exec_loadW W33 rfl rfl (cs := encF y) rfl hW.2.out) ?_; (try simp only [Act.put, List.setIfInBounds_toArray, List.set_cons_zero, List.set_cons_succ]))
        (refine takeW (i := 4) rfl (by kernel_rfl) (by kernel_rfl) (by kernel_rfl) (fun _ _ _ h => h) (by rfl) (by assumption) (fun W hW => exec_loadW W33 rfl rfl (cs := encF x) rfl hW.1.out.list) ?_; (try simp only [Act.put, List.setIfInBounds_toArray, List.set_cons_zero, List.set_cons_succ]))
        (refine takeW (i := 5) rfl (by kernel_rfl) (by kernel_rfl) (by kernel_rfl) (fun _ _ _ h => h) (by rfl) (by assumption) (fun W hW => exec_eqF (u := y) (v := x) rfl rfl rfl) ?_; (try simp only [Act.put, List.setIfInBounds_toArray, List.set_cons_zero, List.set_cons_succ]))
        refine wpAnyH_done (by kernel_rfl) ?_ _
        have hSd := hHeld
        clear hHeld hS HO HB HX HC
        have hwz : w.heap.size < W1.drew.heap.size := hwz0
        clear hwz0
        generalize W1.drew = Wd at *
        by_cases hyx : y = x
        · rw [show decide (y = x) = true by simp [hyx]]
          have HYX : Hid (decide (y = x) = true) := by show _ = _; simp [hyx]
          clear hyx
          go_upto_region 8 with fail
          have hS : Hid (Blk Wd.drew w.heap.size 33 (encF x).toArray) ∧ Hid (∀ j u, (encF y)[j]? = some u → Wd.drew.cell? ⟨bl, off + k * 7 + j, none⟩ = some u) := ⟨hSd.1.out.keep (Below.refl _ _).drew, hSd.2.out⟩
          have hSe := hS
          have HBe : Hid (Below w.heap.size w Wd.drew) := HBd.out.drew
          have HOe : Hid (Wd.drew.ownsRow (w.heap.size + 1) 33 7 (.slice oa P.length oc) P.length (P.flatMap encF)) := HOd.out
          have hwze : w.heap.size < Wd.drew.heap.size := hwz
          clear hwz hSd HBd HOd
          refine wp_region_held_drew (S := fun X => Hid (Blk X w.heap.size 33 (encF x).toArray) ∧ Hid (∀ j u, (encF y)[j]? = some u → X.cell? ⟨bl, off + k * 7 + j, none⟩ = some u)) (by kernel_rfl) hS (fun hHeld => ?_)
          (refine takeW (i := 0) (v := ?_) rfl (by kernel_rfl) (by kernel_rfl) (by kernel_rfl) (fun _ _ _ h => h) (by rfl) (by assumption) ?_ ?_; rotate_left; (intro W hW; (try dsimp only at hW); go_simp; try with_reducible rfl); (try simp only [Act.put, List.setIfInBounds_toArray, List.set_cons_zero, List.set_cons_succ]))
          (refine takeW (i := 1) (v := ?_) rfl (by kernel_rfl) (by kernel_rfl) (by kernel_rfl) (fun _ _ _ h => h) (by rfl) (by assumption) ?_ ?_; rotate_left; (intro W hW; (try dsimp only at hW); go_simp; try with_reducible rfl); (try simp only [Act.put, List.setIfInBounds_toArray, List.set_cons_zero, List.set_cons_succ]))
          (refine takeW (i := 2) (v := ?_) rfl (by kernel_rfl) (by kernel_rfl) (by kernel_rfl) (fun _ _ _ h => h) (by rfl) (by assumption) ?_ ?_; rotate_left; (intro W hW; (try dsimp only at hW); go_simp; try with_reducible rfl); (try simp only [Act.put, List.setIfInBounds_toArray, List.set_cons_zero, List.set_cons_succ]))
          first
            | (refine takeW (i := 3) (v := ?_) rfl (by kernel_rfl) (by kernel_rfl) (by kernel_rfl) (fun _ _ _ h => h) (by rfl) (by assumption) ?_ ?_; rotate_left; (intro W hW; (try dsimp only at hW); go_simp; try with_reducible rfl); (try simp only [Act.put, List.setIfInBounds_toArray, List.set_cons_zero, List.set_cons_succ]))
            | (refine takeU (i := 3) rfl (by kernel_rfl) (by kernel_rfl) (by kernel_rfl) (fun _ _ _ h => h) (by rfl) (by assumption) ?_; (try simp only [Act.put, List.setIfInBounds_toArray, List.set_cons_zero, List.set_cons_succ]))
          first
            | (refine takeW (i := 4) (v := ?_) rfl (by kernel_rfl) (by kernel_rfl) (by kernel_rfl) (fun _ _ _ h => h) (by rfl) (by assumption) ?_ ?_; rotate_left; (intro W hW; (try dsimp only at hW); go_simp; try with_reducible rfl); (try simp only [Act.put, List.setIfInBounds_toArray, List.set_cons_zero, List.set_cons_succ]))
            | (refine takeU (i := 4) rfl (by kernel_rfl) (by kernel_rfl) (by kernel_rfl) (fun _ _ _ h => h) (by rfl) (by assumption) ?_; (try simp only [Act.put, List.setIfInBounds_toArray, List.set_cons_zero, List.set_cons_succ]))
          first
            | (refine takeW (i := 5) (v := ?_) rfl (by kernel_rfl) (by kernel_rfl) (by kernel_rfl) (fun _ _ _ h => h) (by rfl) (by assumption) ?_ ?_; rotate_left; (intro W hW; (try dsimp only at hW); go_simp; try with_reducible rfl); (try simp only [Act.put, List.setIfInBounds_toArray, List.set_cons_zero, List.set_cons_succ]))
            | (refine takeU (i := 5) rfl (by kernel_rfl) (by kernel_rfl) (by kernel_rfl) (fun _ _ _ h => h) (by rfl) (by assumption) ?_; (try simp only [Act.put, List.setIfInBounds_toArray, List.set_cons_zero, List.set_cons_succ]))
          first
            | (refine takeW (i := 6) (v := ?_) rfl (by kernel_rfl) (by kernel_rfl) (by kernel_rfl) (fun _ _ _ h => h) (by rfl) (by assumption) ?_ ?_; rotate_left; (intro W hW; (try dsimp only at hW); go_simp; try with_reducible rfl); (try simp only [Act.put, List.setIfInBounds_toArray, List.set_cons_zero, List.set_cons_succ]))
            | (refine takeU (i := 6) rfl (by kernel_rfl) (by kernel_rfl) (by kernel_rfl) (fun _ _ _ h => h) (by rfl) (by assumption) ?_; (try simp only [Act.put, List.setIfInBounds_toArray, List.set_cons_zero, List.set_cons_succ]))
          first
            | (refine takeW (i := 7) (v := ?_) rfl (by kernel_rfl) (by kernel_rfl) (by kernel_rfl) (fun _ _ _ h => h) (by rfl) (by assumption) ?_ ?_; rotate_left; (intro W hW; (try dsimp only at hW); go_simp; try with_reducible rfl); (try simp only [Act.put, List.setIfInBounds_toArray, List.set_cons_zero, List.set_cons_succ]))
            | (refine takeU (i := 7) rfl (by kernel_rfl) (by kernel_rfl) (by kernel_rfl) (fun _ _ _ h => h) (by rfl) (by assumption) ?_; (try simp only [Act.put, List.setIfInBounds_toArray, List.set_cons_zero, List.set_cons_succ]))
          first
            | (refine takeW (i := 8) (v := ?_) rfl (by kernel_rfl) (by kernel_rfl) (by kernel_rfl) (fun _ _ _ h => h) (by rfl) (by assumption) ?_ ?_; rotate_left; (intro W hW; (try dsimp only at hW); go_simp; try with_reducible rfl); (try simp only [Act.put, List.setIfInBounds_toArray, List.set_cons_zero, List.set_cons_succ]))
            | (refine takeU (i := 8) rfl (by kernel_rfl) (by kernel_rfl) (by kernel_rfl) (fun _ _ _ h => h) (by rfl) (by assumption) ?_; (try simp only [Act.put, List.setIfInBounds_toArray, List.set_cons_zero, List.set_cons_succ]))
          (refine takeW (i := 9) (v := ?_) rfl (by kernel_rfl) (by kernel_rfl) (by kernel_rfl) (fun _ _ _ h => h) (by rfl) (by assumption) ?_ ?_; rotate_left; (intro W hW; (try dsimp only at hW); go_simp; try with_reducible rfl); (try simp only [Act.put, List.setIfInBounds_toArray, List.set_cons_zero, List.set_cons_succ]))
          refine wpAnyH_done (by kernel_rfl) ?_ _
          clear hHeld
          generalize Wd.drew = We at *
          go_wp2_with (first | ((with_reducible show wpList _ _ _ (Oper.mk (some 38) _ _ _ _ _ :: _) _ _); refine wpList_loadW W33 rfl rfl rfl (encF y) rfl hSe.2.out ?_) | ((with_reducible show wpList _ _ _ (Oper.mk (some 39) _ _ _ _ _ :: _) _ _); refine wpList_sliceW E26 (by decide) rfl rfl (encF y) rfl rfl ?_) | ((with_reducible show wpList _ _ _ (Oper.mk (some 40) _ _ _ _ _ :: _) _ _); refine wpList_app1 E26 rfl (.tmp 34) (.tmp 39) rfl HOe.out (encF y) rfl (encF_one y) rfl rfl (by omega) (by omega) ?_; intro v3 w3 ho3 hg3; have HO3 := Lib.hid ho3; have HG3 := Lib.hid hg3; clear ho3 hg3))
          have HJ2 : Hid (PutJ L x w (k + 1) v3 true w3) := by
            refine ⟨by rw [HPS.out]; simp [HYX.out], ?_, put_app HBe.out hSe.1.out HOe.out HG3.out⟩
            rw [HPS.out]
            simpa [HYX.out] using HO3.out
          go_roundw
          case rel => exact ⟨k + 1, true, by omega, by go_num, rfl, HJ2⟩
          case measure => simp [intOf]; omega
        · rw [show decide (y = x) = false by simp [hyx]]
          have HNE : Hid (decide (y = x) = false) := by show _ = _; simp [hyx]
          clear hyx
          go_upto_region 8 with fail
          have hS : Hid (Blk Wd.drew w.heap.size 33 (encF x).toArray) ∧ Hid (∀ j u, (encF y)[j]? = some u → Wd.drew.cell? ⟨bl, off + k * 7 + j, none⟩ = some u) := ⟨hSd.1.out.keep (Below.refl _ _).drew, hSd.2.out⟩
          clear hSd
          refine wp_region_held_drew (S := fun X => Hid (Blk X w.heap.size 33 (encF x).toArray) ∧ Hid (∀ j u, (encF y)[j]? = some u → X.cell? ⟨bl, off + k * 7 + j, none⟩ = some u)) (by kernel_rfl) hS (fun hHeld => ?_)
          (refine takeW (i := 0) (v := ?_) rfl (by kernel_rfl) (by kernel_rfl) (by kernel_rfl) (fun _ _ _ h => h) (by rfl) (by assumption) ?_ ?_; rotate_left; (intro W hW; (try dsimp only at hW); go_simp; try with_reducible rfl); (try simp only [Act.put, List.setIfInBounds_toArray, List.set_cons_zero, List.set_cons_succ]))
          (refine takeW (i := 1) (v := ?_) rfl (by kernel_rfl) (by kernel_rfl) (by kernel_rfl) (fun _ _ _ h => h) (by rfl) (by assumption) ?_ ?_; rotate_left; (intro W hW; (try dsimp only at hW); go_simp; try with_reducible rfl); (try simp only [Act.put, List.setIfInBounds_toArray, List.set_cons_zero, List.set_cons_succ]))
          (refine takeW (i := 2) (v := ?_) rfl (by kernel_rfl) (by kernel_rfl) (by kernel_rfl) (fun _ _ _ h => h) (by rfl) (by assumption) ?_ ?_; rotate_left; (intro W hW; (try dsimp only at hW); go_simp; try with_reducible rfl); (try simp only [Act.put, List.setIfInBounds_toArray, List.set_cons_zero, List.set_cons_succ]))
          (refine takeW (i := 3) rfl (by kernel_rfl) (by kernel_rfl) (by kernel_rfl) (fun _ _ _ h => h) (by rfl) (by assumption) (fun W hW => exec_loadW W33 rfl rfl (cs := encF x) rfl hW.1.out.list) ?_; (try simp only [Act.put, List.setIfInBounds_toArray, List.set_cons_zero, List.set_cons_succ]))
          first
            | (refine takeW (i := 4) (v := ?_) rfl (by kernel_rfl) (by kernel_rfl) (by kernel_rfl) (fun _ _ _ h => h) (by rfl) (by assumption) ?_ ?_; rotate_left; (intro W hW; (try dsimp only at hW); go_simp; try with_reducible rfl); (try simp only [Act.put, List.setIfInBounds_toArray, List.set_cons_zero, List.set_cons_succ]))
            | (refine takeU (i := 4) rfl (by kernel_rfl) (by kernel_rfl) (by kernel_rfl) (fun _ _ _ h => h) (by rfl) (by assumption) ?_; (try simp only [Act.put, List.setIfInBounds_toArray, List.set_cons_zero, List.set_cons_succ]))
          first
            | (refine takeW (i := 5) (v := ?_) rfl (by kernel_rfl) (by kernel_rfl) (by kernel_rfl) (fun _ _ _ h => h) (by rfl) (by assumption) ?_ ?_; rotate_left; (intro W hW; (try dsimp only at hW); go_simp; try with_reducible rfl); (try simp only [Act.put, List.setIfInBounds_toArray, List.set_cons_zero, List.set_cons_succ]))
            | (refine takeU (i := 5) rfl (by kernel_rfl) (by kernel_rfl) (by kernel_rfl) (fun _ _ _ h => h) (by rfl) (by assumption) ?_; (try simp only [Act.put, List.setIfInBounds_toArray, List.set_cons_zero, List.set_cons_succ]))
          first
            | (refine takeW (i := 6) (v := ?_) rfl (by kernel_rfl) (by kernel_rfl) (by kernel_rfl) (fun _ _ _ h => h) (by rfl) (by assumption) ?_ ?_; rotate_left; (intro W hW; (try dsimp only at hW); go_simp; try with_reducible rfl); (try simp only [Act.put, List.setIfInBounds_toArray, List.set_cons_zero, List.set_cons_succ]))
            | (refine takeU (i := 6) rfl (by kernel_rfl) (by kernel_rfl) (by kernel_rfl) (fun _ _ _ h => h) (by rfl) (by assumption) ?_; (try simp only [Act.put, List.setIfInBounds_toArray, List.set_cons_zero, List.set_cons_succ]))
          (refine takeW (i := 7) rfl (by kernel_rfl) (by kernel_rfl) (by kernel_rfl) (fun _ _ _ h => h) (by rfl) (by assumption) (fun W hW => exec_loadW W33 rfl rfl (cs := encF y) rfl hW.2.out) ?_; (try simp only [Act.put, List.setIfInBounds_toArray, List.set_cons_zero, List.set_cons_succ]))
          refine takeC (i := 8) rfl (by kernel_rfl) (by rfl) (fun K hK => ?_)
          go_simp
          refine (rless_any x y Wd.drew).mono ?_
          rintro e W2 ⟨rfl, hb⟩
          have HBe : Hid (Below w.heap.size w W2) := HBd.out.drew.trans (hb.mono (show w.heap.size ≤ Wd.drew.heap.size from Nat.le_of_lt hwz))
          have HOe : Hid (W2.ownsRow (w.heap.size + 1) 33 7 (.slice oa P.length oc) P.length (P.flatMap encF)) := ow_below (show Wd.drew.ownsRow _ _ _ _ _ _ from HOd.out) hb
          have hwze : w.heap.size < W2.heap.size := Nat.lt_of_lt_of_le hwz hb.size
          have hcl := hbl
          refine hK.out _ _ ⟨Lib.hid (hHeld.1.out.keep hb), Lib.hid (fun j u hu => keepCell hb (hHeld.2.out j u hu))⟩ (fun hHeld => ?_)
          clear hb hK K hcl
          try simp only [Act.put, List.setIfInBounds_toArray, List.set_cons_zero, List.set_cons_succ]
          (refine takeW (i := 9) (v := ?_) rfl (by kernel_rfl) (by kernel_rfl) (by kernel_rfl) (fun _ _ _ h => h) (by rfl) (by assumption) ?_ ?_; rotate_left; (intro W hW; (try dsimp only at hW); go_simp; try with_reducible rfl); (try simp only [Act.put, List.setIfInBounds_toArray, List.set_cons_zero, List.set_cons_succ]))
          refine wpAnyH_done (by kernel_rfl) ?_ _
          have hSe := hHeld
          clear hHeld
          cases hq : decide (cmpF x y < 0) with
          | false =>
            have HJ2 : Hid (∀ v3 w3, w3.ownsRow (w.heap.size + 1) 33 7 v3 (P.length + 1) (P.flatMap encF ++ encF y) → W2.grownBy w3 (Value.slice oa P.length oc).ownBlock → PutJ L x w (k + 1) v3 false w3) := fun v3 w3 h3 g3 => by
              refine ⟨by rw [HPS.out, hq]; simp [HNE.out], ?_, put_app HBe.out hSe.1.out HOe.out g3⟩
              rw [HPS.out, hq]
              simpa [HNE.out] using h3
            clear HPS hq
            go_wp2_with (first | ((with_reducible show wpList _ _ _ (Oper.mk (some 38) _ _ _ _ _ :: _) _ _); refine wpList_loadW W33 rfl rfl rfl (encF y) rfl hSe.2.out ?_) | ((with_reducible show wpList _ _ _ (Oper.mk (some 39) _ _ _ _ _ :: _) _ _); refine wpList_sliceW E26 (by decide) rfl rfl (encF y) rfl rfl ?_) | ((with_reducible show wpList _ _ _ (Oper.mk (some 40) _ _ _ _ _ :: _) _ _); refine wpList_app1 E26 rfl (.tmp 34) (.tmp 39) rfl HOe.out (encF y) rfl (encF_one y) rfl rfl (by omega) (by omega) ?_; intro v3 w3 ho3 hg3; have HO3 := Lib.hid ho3; have HG3 := Lib.hid hg3; clear ho3 hg3))
            have HJ3 := Lib.hid (HJ2.out _ _ HO3.out HG3.out)
            go_roundw
            case rel => exact ⟨k + 1, false, by omega, by go_num, rfl, HJ3⟩
            case measure => simp [intOf]; omega
          | true =>
            have HJ2 : Hid (∀ v3 w3, w3.ownsRow (w.heap.size + 1) 33 7 v3 (P.length + 1 + 1) (P.flatMap encF ++ encF x ++ encF y) → Below w.heap.size w w3 ∧ Blk w3 w.heap.size 33 (encF x).toArray → PutJ L x w (k + 1) v3 true w3) := fun v3 w3 h3 g3 => by
              refine ⟨by rw [HPS.out, hq]; simp [HNE.out], ?_, g3⟩
              rw [HPS.out, hq]
              simpa [HNE.out] using h3
            clear HPS hq
            go_upto_region 11 with (first | ((with_reducible show wpList _ _ _ (Oper.mk (some 31) _ _ _ _ _ :: _) _ _); refine wpList_loadW W33 rfl rfl rfl (encF x) rfl hSe.1.out.list ?_) | ((with_reducible show wpList _ _ _ (Oper.mk (some 32) _ _ _ _ _ :: _) _ _); refine wpList_sliceW E26 (by decide) rfl rfl (encF x) rfl rfl ?_) | ((with_reducible show wpList _ _ _ (Oper.mk (some 33) _ _ _ _ _ :: _) _ _); refine wpList_app1 E26 rfl (.tmp 30) (.tmp 32) rfl HOe.out (encF x) rfl (encF_one x) rfl rfl (by omega) (by omega) ?_; intro v2 w2 ho2 hg2; obtain ⟨a2, c2, rfl, -⟩ := owns_shape ho2; have HO2 := Lib.hid ho2; have HG2 := Lib.hid hg2; clear ho2 hg2))
            have HBX2 := Lib.hid (put_app HBe.out hSe.1.out HOe.out HG2.out)
            have HC2 : Hid (∀ j u, (encF y)[j]? = some u → w2.cell? ⟨bl, off + k * 7 + j, none⟩ = some u) := by
              have h1 := (HV.out.below HBX2.out.1).row (by intro e; have := HN.out; rw [e] at this; simp at this; omega)
              obtain ⟨b', o', e', -, h2⟩ := h1
              simp only [Option.some.injEq, Addr.mk.injEq, and_true] at e'
              obtain ⟨rfl, rfl⟩ := e'
              exact h2 k y HYK.out
            have hwz2 : w.heap.size < w2.heap.size := HBX2.out.2.lt
            go_wp2_with (first | ((with_reducible show wpList _ _ _ (Oper.mk (some 38) _ _ _ _ _ :: _) _ _); refine wpList_loadW W33 rfl rfl rfl (encF y) rfl HC2.out ?_) | ((with_reducible show wpList _ _ _ (Oper.mk (some 39) _ _ _ _ _ :: _) _ _); refine wpList_sliceW E26 (by decide) rfl rfl (encF y) rfl rfl ?_) | ((with_reducible show wpList _ _ _ (Oper.mk (some 40) _ _ _ _ _ :: _) _ _); refine wpList_app1 E26 rfl (.tmp 34) (.tmp 39) rfl HO2.out (encF y) rfl (encF_one y) rfl rfl (by omega) (by omega) ?_; intro v3 w3 ho3 hg3; have HO3 := Lib.hid ho3; have HG3 := Lib.hid hg3; clear ho3 hg3))
            have HJ3 := Lib.hid (HJ2.out _ _ HO3.out (put_app HBX2.out.1 HBX2.out.2 HO2.out HG3.out))
            go_roundw
            case rel => exact ⟨k + 1, true, by omega, by go_num, rfl, HJ3⟩
            case measure => simp [intOf]; omega
    · obtain rfl : n = k := by omega
      have hd : decide (n < n) = false := by simp
      have HE := Lib.hid (putTo_end L x)
      rw [← HN.out] at HE
      obtain ⟨P, hP⟩ : ∃ P, P = (putTo L x n).1 := ⟨_, rfl⟩
      rw [← hP] at hO hpl HE hoc
      rw [← hdb] at HE
      rw [← hP]
      have hpz : P.length ≤ 32768 := by omega
      have hwz : w.heap.size < W1.heap.size := hX.lt
      have HO := Lib.hid hO
      have HB := Lib.hid hB
      have HX := Lib.hid hX
      clear hP hdb HJ hO hB hX hlt hk
      cases db with
      | true =>
        have HEQ : Hid (P = putF L x) := by show _ = _; rw [HE.out]; simp
        go_wp2
        exact HP.out _ _ P HEQ.out HO.out HB.out
      | false =>
        have HEQ : Hid (P ++ [x] = putF L x) := by show _ = _; rw [HE.out]; simp
        go_wp2_with (first | ((with_reducible show wpList _ _ _ (Oper.mk (some 44) _ _ _ _ _ :: _) _ _); refine wpList_loadW W33 rfl rfl rfl (encF x) rfl HX.out.list ?_) | ((with_reducible show wpList _ _ _ (Oper.mk (some 45) _ _ _ _ _ :: _) _ _); refine wpList_sliceW E26 (by decide) rfl rfl (encF x) rfl rfl ?_) | ((with_reducible show wpList _ _ _ (Oper.mk (some 46) _ _ _ _ _ :: _) _ _); refine wpList_app1 E26 rfl (.tmp 43) (.tmp 45) rfl HO.out (encF x) rfl (encF_one x) rfl rfl (by omega) (by omega) ?_; intro v2 w2 ho2 hg2; have HO2 := Lib.hid ho2; have HG2 := Lib.hid hg2; clear ho2 hg2))
        refine HP.out _ _ (P ++ [x]) HEQ.out (by simpa using HO2.out) (put_app HB.out HX.out HO.out HG2.out).1
end Go.Proofs.Ytmflnbdajaiahaa
