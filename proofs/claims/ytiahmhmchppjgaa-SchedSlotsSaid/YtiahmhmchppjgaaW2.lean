/- Contracts: cmp.Compare, the closure of Norm, the sort, Norm of the program. -/
import Derived.Test.YtiahmhmchppjgaaMem
import Derived.Test.YtiahmhmchppjgaaShelf
import Derived.OwnWalk
namespace Go.Proofs.Ytiahmhmchppjgaa
open Go.RowKit Go.Shelf
open Sched (Sp bad)

theorem isNaN_any (x : Int) (w : World) : Calls Try.prog 48 #[.int .i64 x] w fun e w' => e = .returned (.bool false) ∧ w = w' := by
  go_enter Try.func48, Try.ntmps48
  go_wp2
  go_ret
  exact ⟨ret_bool (by simp), rfl⟩
def cmpI (x y : Int) : Int := if x < y then -1 else if y < x then 1 else 0
theorem compare_any (x y : Int) (w : World) : Calls Try.prog 41 #[.int .i64 x, .int .i64 y] w fun e w' => e = .returned (.int .i64 (cmpI x y)) ∧ w = w' := by
  go_enter Try.func41, Try.ntmps41
  go_wp2_with (go_at_call 48; refine (isNaN_any _ _).mono ?_; rintro e w' ⟨rfl, rfl⟩)
  all_goals go_ret
  all_goals refine ⟨ret_int ?_, rfl⟩
  all_goals (unfold cmpI; first | (rw [if_pos (by omega)]) | (rw [if_neg (by omega), if_pos (by omega)]) | (rw [if_neg (by omega), if_neg (by omega)]))

theorem closure_any (x y : Sp) (W : World) : Calls Try.prog 40 #[.agg (encSp x).toArray, .agg (encSp y).toArray] W fun e w' => e = .returned (.int .i64 (cmpI x.1 y.1)) ∧ ∃ q os', w' = Sort.grow (W.drewN q) os' := by
  have hcon := fun W' => compare_any x.1 y.1 W'
  unfold encSp
  generalize cmpI x.1 y.1 = r at hcon ⊢
  go_enter Try.func40, Try.ntmps40
  go_wp2_with (go_at_call 41; refine (hcon _).mono ?_; rintro e w' ⟨rfl, rfl⟩)
  go_ret
  exact ⟨rfl, 0, _, by rw [Sort.alloc_eq_grow, Sort.alloc_eq_grow, Sort.grow_grow]; rfl⟩

theorem ltSp (x y : Sp) : ltOf (fun x y : Sp => cmpI x.1 y.1) x y = decide (x.1 < y.1) := by
  unfold ltOf cmpI
  by_cases h1 : x.1 < y.1
  · simp [h1]
  · by_cases h2 : y.1 < x.1 <;> simp [h1, h2]
theorem swoSp : Sort.SWO (ltOf fun x y : Sp => cmpI x.1 y.1) where
  irrefl x := by rw [ltSp]; simp
  trans x y z h1 h2 := by rw [ltSp] at *; simp at *; omega
  ntrans x y z h1 h2 := by rw [ltSp] at *; simp at *; omega

/-- The sort of spans by where they begin. -/
theorem sort_any (l : List Sp) (v : Value) (B : Nat) (w0 w : World) (hb : Below B w0 w) (hB : B ≤ w.heap.size) (hl : l.length ≤ 8796093022208)
    (h : w.ownsRow B 23 2 v l.length (l.flatMap encSp)) :
    Calls Try.prog 39 #[v, .func (.func 40) #[] #[]] w fun r w' =>
      r = .returned (.tuple #[]) ∧ (∃ m : List Sp, m.Perm l ∧ m.Pairwise (fun a b => a.1 ≤ b.1) ∧ w'.ownsRow B 23 2 v l.length (m.flatMap encSp)) ∧ Below B w0 w' := by
  have := sort_ownK Try.sortSp Try.isAgg23 Try.sizeOf23 encSp_len (by decide) encSp_one (fun x y => cmpI x.1 y.1) swoSp 40 (enters_of Try.func40 (by kernel_rfl) rfl) closure_any l 23 v B w0 w hb hB (by omega) h
  refine this.mono fun r w' ⟨he, ⟨m, hp, hs, ho⟩, hb'⟩ => ⟨he, ⟨m, hp, ?_, ho⟩, hb'⟩
  refine hs.imp fun {a b} hab => ?_
  rw [ltSp] at hab
  simpa using hab

theorem ow_below {w w' : World} {base : Nat} {e : TypeId} {size : Nat} {v : Value} {n : Nat} {xs : List Value} (h : w.ownsRow base e size v n xs) (hb : Below w.heap.size w w') : w'.ownsRow base e size v n xs :=
  h.kept (row := none) ⟨hb.os, hb.tape, hb.output, hb.size, fun k hk _ => hb.block k hk⟩ (by cases hv : v.ownBlock <;> simp)
theorem owns_base {w : World} {base base' : Nat} {e : TypeId} {size : Nat} {v : Value} {n : Nat} {xs : List Value} (h : w.ownsRow base e size v n xs) (hb : base' ≤ base) : w.ownsRow base' e size v n xs := by
  refine ⟨h.1, ?_⟩
  rcases h.2 with h | ⟨g, cap, cur, h1, h2, r⟩
  · exact .inl h
  · exact .inr ⟨g, cap, cur, h1, Nat.le_trans hb h2, r⟩
theorem cells2 {u v : Value} (hu : u.oneCell' = true) (hv : v.oneCell' = true) : ∀ x ∈ [u, v], x.oneCell' = true := by
  intro x hx
  simp at hx
  rcases hx with rfl | rfl
  · exact hu
  · exact hv
theorem solid_step (l : List Sp) (k : Nat) (h : k < l.length) : Sched.solid (l.take (k + 1)) = if (l.getD k (0, 0)).1 < (l.getD k (0, 0)).2 then Sched.solid (l.take k) ++ [l.getD k (0, 0)] else Sched.solid (l.take k) := by
  rw [take_getD l k h]
  unfold Sched.solid
  rw [List.filter_append]
  split <;> rename_i hc <;> simpa using hc
theorem solid_le (l : List Sp) (k : Nat) : (Sched.solid (l.take k)).length ≤ k := Nat.le_trans (List.length_filter_le _ _) (List.length_take_le _ _)
theorem fm_snoc (l : List Sp) (s : Sp) : (l ++ [s]).flatMap encSp = l.flatMap encSp ++ [.int .i64 s.1, .int .i64 s.2] := by simp [encSp]

theorem owns_shape {w : World} {base : Nat} {e : TypeId} {size : Nat} {v : Value} {n : Nat} {xs : List Value} (h : w.ownsRow base e size v n xs) :
    ∃ a cap, v = .slice a n cap ∧ n ≤ cap ∧ cap ≤ 9223372036854775807 ∧ (n ≠ 0 → ∃ g, a = some ⟨g, 0, none⟩ ∧ base ≤ g ∧ g < w.heap.size) := by
  rcases h.2 with ⟨rfl, h0⟩ | ⟨g, cap, cur, rfl, hg, hh, h1, h2, h3, h4⟩
  · subst h0; exact ⟨none, 0, rfl, by omega, by omega, fun h => absurd rfl h⟩
  · exact ⟨_, _, rfl, h1, by simpa [maxLen] using h2, fun _ => ⟨g, rfl, hg, (Array.getElem?_eq_some_iff.1 hh).1⟩⟩
theorem set_last (o : List Sp) (zf zt x : Int) : ((o ++ [(zf, zt)]).flatMap encSp).set (o.length * 2 + 1) (.int .i64 x) = (o ++ [(zf, x)]).flatMap encSp := by
  rw [List.flatMap_append, List.flatMap_append, List.set_append_right _ _ (by rw [rowLen encSp_len]; omega), rowLen encSp_len]
  simp [encSp]
theorem ite_max (x y : Int) : (if x < y then y else x) = max x y := by split <;> omega
theorem fold_step (m : List Sp) (k : Nat) (h : k < m.length) : (m.take (k + 1)).foldl Sched.step [] = Sched.step ((m.take k).foldl Sched.step []) (m.getD k (0, 0)) := by
  rw [take_getD m k h, List.foldl_append]
  rfl
theorem step_len (o : List Sp) (s : Sp) : (Sched.step o s).length ≤ o.length + 1 := by
  unfold Sched.step
  split
  · simp
  · simp
theorem fold_len (m : List Sp) (k : Nat) : ((m.take k).foldl Sched.step []).length ≤ k := by
  induction k with
  | zero => simp
  | succ k ih =>
    by_cases h : k < m.length
    · rw [fold_step m k h]
      have := step_len ((m.take k).foldl Sched.step []) (m.getD k (0, 0))
      omega
    · rw [List.take_of_length_le (show m.length ≤ k by omega)] at ih
      rw [List.take_of_length_le (show m.length ≤ k + 1 by omega)]
      omega

/-- What spans put together are, as an answer: nothing beside an error. -/
def nrmE (l : List Sp) : List Sp := if l.any bad then [] else Sched.nrm l
def errE (l : List Sp) : Int := if l.any bad then 60 else 0
def NormPost (l : List Sp) (w : World) (e : Ending) (w' : World) : Prop :=
  (∃ v', e = .returned (.tuple #[v', .int .i64 (errE l)]) ∧ w'.ownsRow w.heap.size 23 2 v' (nrmE l).length ((nrmE l).flatMap encSp)) ∧ Below w.heap.size w w'

set_option maxHeartbeats 1600000 in
/-- The program's Norm. -/
theorem norm_any (l : List Sp) (v : Value) (w : World) (h : Spans w v l) : Calls Try.prog 14 #[v] w (NormPost l w) := by
  have h0 := h
  obtain ⟨a, cap, rfl, h1, h2, h3⟩ := h.shape
  clear h
  go_enter Try.func14, Try.ntmps14
  go_wp2
  go_loopw [4, 14] (fun u i wr => ∃ k : Nat, k ≤ l.length ∧ i = .int .i64 k ∧ wr.ownsRow w.heap.size 23 2 u (Sched.solid (l.take k)).length ((Sched.solid (l.take k)).flatMap encSp) ∧ Hid ((l.take k).any bad = false) ∧ Below w.heap.size w wr) (fun _ i _ => l.length - (intOf i).toNat)
  case atStart => exact ⟨0, Nat.zero_le _, rfl, by simpa [Sched.solid] using World.ownsRow_nil _ _ _ _, rfl, Below.refl _ _⟩
  case round =>
    obtain ⟨k, hk, rfl, hown, hbad, hb⟩ := hrel
    by_cases hlt : k < l.length
    · obtain ⟨b, off, rfl, hbl, hc⟩ := h0.row (by rintro rfl; simp at hlt)
      obtain ⟨c1, c2⟩ := hc k hlt
      rw [← hb.cell (p := ⟨b, off + k * 2, none⟩) hbl] at c1
      rw [← hb.cell (p := ⟨b, off + k * 2 + 1, none⟩) hbl] at c2
      have HS := Lib.hid (solid_step l k hlt)
      have HB : Hid ((l.take (k + 1)).any bad = ((l.take k).any bad || bad (l.getD k (0, 0)))) := by show _ = _; rw [take_getD l k hlt]; simp
      have HA : Hid (bad (l.getD k (0, 0)) = true → l.any bad = true) := fun h => List.any_eq_true.2 ⟨_, getD_mem hlt, h⟩
      have hsl := solid_le l k
      clear hc h0
      generalize l.getD k (0, 0) = s at *
      obtain ⟨f, t⟩ := s
      simp only at c1 c2
      have hal : Below w.heap.size w (wr.alloc (.cells #[.int .i64 f, .int .i64 t] 23)) := hb.alloc hb.size _
      have hck := check_any f t (wr.alloc (.cells #[.int .i64 f, .int .i64 t] 23))
      have hown1 := hown.alloc (.cells #[.int .i64 f, .int .i64 t] 23)
      clear hown
      unfold spv at hck
      by_cases hbd : bad (f, t) = true
      · have hz : chk (f, t) = 60 := if_pos hbd
        have HX : Hid (l.any bad = true) := HA.out hbd
        rw [hz] at hck
        clear hbd hz HA HB
        go_wp2_with fail
        refine hck.mono ?_
        rintro e w1 ⟨rfl, hb1⟩
        go_wp2
        go_ret2
        refine ⟨⟨.slice none 0 0, by unfold errE; rw [HX.out]; rfl, ?_⟩, hal.trans (hb1.mono hal.size)⟩
        unfold nrmE
        rw [HX.out]
        exact World.ownsRow_nil _ _ _ _
      · have hz : chk (f, t) = 0 := if_neg hbd
        have HB2 : Hid ((l.take (k + 1)).any bad = false) := by show _ = _; rw [HB.out, hbad.out]; simpa using hbd
        rw [hz] at hck
        clear hbd hz HA HB
        go_wp2_with fail
        refine hck.mono ?_
        rintro e w1 ⟨rfl, hb1⟩
        have hown2 := ow_below hown1 hb1
        have hb2 := hal.trans (hb1.mono hal.size)
        have hc1 := bcell hb1
        by_cases hft : f < t
        · have HS2 : Hid (Sched.solid (l.take (k + 1)) = Sched.solid (l.take k) ++ [(f, t)]) := HS.out.trans (if_pos hft)
          clear HS hown1
          go_wp2_with (at_builtin; refine wpList_app1 E29 rfl _ _ rfl hown2 [.int .i64 f, .int .i64 t] rfl (cells2 rfl rfl) rfl rfl (by omega) hb2.size ?_; intro v' w3 hown3 hgrow)
          go_roundw
          case rel => exact ⟨k + 1, by omega, by go_num, by rw [HS2.out, fm_snoc]; simpa using hown3, HB2, below_app hb2 (Nat.le_refl _) hown2 hgrow hb2.size⟩
          case measure => simp [intOf]; omega
        · have HS2 : Hid (Sched.solid (l.take (k + 1)) = Sched.solid (l.take k)) := HS.out.trans (if_neg hft)
          clear HS hown1
          go_wp2
          go_roundw
          case rel => exact ⟨k + 1, by omega, by go_num, by rw [HS2.out]; exact hown2, HB2, hb2⟩
          case measure => simp [intOf]; omega
    · rw [List.take_of_length_le (by omega)] at hown hbad
      have hsl : (Sched.solid l).length ≤ l.length := List.length_filter_le _ _
      have hsort := sort_any (Sched.solid l) _ w.heap.size w wr hb hb.size (by omega) hown
      have HX := hbad
      clear h0 hown hbad
      go_wp2_with fail
      refine hsort.mono ?_
      rintro e w1 ⟨rfl, ⟨m, hp, hs, hown⟩, hb1⟩
      have hm : m.length = (Sched.solid l).length := hp.length_eq
      have HME := Lib.hid (Sched.merge_eq hp hs)
      rw [← hm] at hown
      have hml : m.length ≤ 8796093022208 := by omega
      obtain ⟨am, capm, rfl, qm1, qm2, qm3⟩ := owns_shape hown
      have hbs := hb1.size
      clear hsort hp hs hsl hm
      go_wp2_with fail
      go_loopw [5, 37] (fun u i wr => ∃ j : Nat, j ≤ m.length ∧ i = .int .i64 j ∧ wr.ownsRow w1.heap.size 23 2 u ((m.take j).foldl Sched.step []).length (((m.take j).foldl Sched.step []).flatMap encSp) ∧ wr.ownsRow w.heap.size 23 2 (.slice am m.length capm) m.length (m.flatMap encSp) ∧ Below w.heap.size w wr ∧ w1.heap.size ≤ wr.heap.size) (fun _ i _ => m.length - (intOf i).toNat)
      case atStart => exact ⟨0, Nat.zero_le _, rfl, by simpa using World.ownsRow_nil _ _ _ _, hown, hb1, Nat.le_refl _⟩
      case round =>
        clear hown
        obtain ⟨j, hj, rfl, hout, hrow, hbr, hsz⟩ := hrel
        by_cases hlt : j < m.length
        · obtain ⟨gm, rfl, hgm, hgm2⟩ := qm3 (by omega)
          obtain ⟨c1, c2⟩ := ownSp hrow hlt
          have HS := Lib.hid (fold_step m j hlt)
          have hol := fold_len m j
          generalize m.getD j (0, 0) = s at *
          generalize (m.take j).foldl Sched.step [] = O at *
          obtain ⟨f, t⟩ := s
          simp only at c1 c2
          obtain ⟨ao, capo, rfl, qo1, qo2, qo3⟩ := owns_shape hout
          have hou1 := hout.alloc (.cells #[.int .i64 f, .int .i64 t] 23)
          have hrw1 := hrow.alloc (.cells #[.int .i64 f, .int .i64 t] 23)
          have hal : Below w.heap.size w (wr.alloc (.cells #[.int .i64 f, .int .i64 t] 23)) := hbr.alloc hbr.size _
          rcases Sched.nil_or_last O with rfl | ⟨o, z, rfl⟩
          · have HS2 : Hid ((m.take (j + 1)).foldl Sched.step [] = [(f, t)]) := HS.out
            clear hrow hout HS
            go_wp2_with fail
            go_quiet (fail)
            have hq := below_drewN (Below.refl (wr.alloc (.cells #[.int .i64 f, .int .i64 t] 23)).heap.size (wr.alloc (.cells #[.int .i64 f, .int .i64 t] 23))) nq
            have hou2 := ow_below hou1 hq
            have hrw2 := ow_below hrw1 hq
            have hal2 := hal.trans (hq.mono hal.size)
            have hcb := bcell hq
            have hqs : w1.heap.size ≤ ((wr.alloc (.cells #[.int .i64 f, .int .i64 t] 23)).drewN nq).heap.size := Nat.le_trans (by simp; omega) hq.size
            clear hq hou1 hrw1 hal c1 c2
            generalize (wr.alloc (.cells #[.int .i64 f, .int .i64 t] 23)).drewN nq = Wq at *
            simp only [List.length_nil, List.flatMap_nil] at hou2
            go_wp2_with (at_builtin; refine wpList_app1 E29 rfl _ _ rfl hou2 [.int .i64 f, .int .i64 t] rfl (cells2 rfl rfl) rfl rfl (by omega) hqs ?_; intro v' w3 hown3 hgrow)
            go_roundw
            case rel =>
              have r3 := (hrw2.alloc (.cells #[.int .i64 f, .int .i64 t] 23))
              exact ⟨j + 1, by omega, by go_num, by rw [HS2.out]; simpa [encSp] using hown3, hrw2.kept hgrow (.inr (fun e => by have := hou2.lt gm e.symm; omega)), below_app hal2 hb1.size hou2 hgrow hal2.size, Nat.le_trans hqs hgrow.size⟩
            case measure => simp [intOf]; omega
          · have e : (o ++ [z]).length = o.length + 1 := by simp
            rw [e] at hou1 hol qo1 qo3 ⊢
            obtain ⟨gg, rfl, hgo, hgo2⟩ := qo3 (by omega)
            have c34 := ownSp hou1 (j := o.length) (by simp)
            have hz : (o ++ [z]).getD o.length (0, 0) = z := by simp [List.getD_eq_getElem?_getD]
            rw [hz] at c34
            obtain ⟨c3, c4⟩ := c34
            obtain ⟨zf, zt⟩ := z
            simp only at c3 c4
            have hix : (0 : Int) ≤ o.length := by omega
            have hil : (o.length : Int) < ((o.length + 1 : Nat) : Int) := by omega
            clear hz hout hrow
            by_cases hm : f ≤ zt
            · have hd : decide (f ≤ zt) = true := by simpa using hm
              have HS2 : Hid ((m.take (j + 1)).foldl Sched.step [] = o ++ [(zf, max zt t)]) := by
                show _ = _
                rw [HS.out]; simp [Sched.step, hm]
              clear HS hm
              go_wp2_with fail
              go_quiet (fail)
              have hq := below_drewN (Below.refl (wr.alloc (.cells #[.int .i64 f, .int .i64 t] 23)).heap.size (wr.alloc (.cells #[.int .i64 f, .int .i64 t] 23))) nq
              have hou2 := ow_below hou1 hq
              have hrw2 := ow_below hrw1 hq
              have hal2 := hal.trans (hq.mono hal.size)
              have hqs : w1.heap.size ≤ ((wr.alloc (.cells #[.int .i64 f, .int .i64 t] 23)).drewN nq).heap.size := Nat.le_trans (by simp; omega) hq.size
              have hcb := bcell hq
              have d1 : ((wr.alloc (.cells #[.int .i64 f, .int .i64 t] 23)).drewN nq).cell? ⟨wr.heap.size, 1, none⟩ = some (.int .i64 t) := by rw [hcb _ _ (by simp)]; simp
              have d2 : ((wr.alloc (.cells #[.int .i64 f, .int .i64 t] 23)).drewN nq).cell? ⟨gg, o.length * 2 + 1, none⟩ = some (.int .i64 zt) := by rw [hcb _ _ (by simp; omega)]; exact c4
              have d3 : ((wr.alloc (.cells #[.int .i64 f, .int .i64 t] 23)).drewN nq).frozen? ⟨gg, o.length * 2 + 1, none⟩ = false := hou2.frozenAt _
              clear hcb hq hou1 hrw1 hal c1 c2 c3 c4
              generalize (wr.alloc (.cells #[.int .i64 f, .int .i64 t] 23)).drewN nq = Wq at *
              go_wp2_with fail
              go_region
              go_wp2_with fail
              go_roundw
              case rel =>
                have hst := hou2.stored (o.length * 2 + 1) (.int .i64 (max zt t))
                rw [set_last] at hst
                refine ⟨j + 1, by omega, by go_num, ?_, ?_, ?_, ?_⟩
                · rw [HS2.out]
                  first
                    | (rw [ite_max]; simpa using hst.1.drew)
                    | simpa using hst.1.drew
                · exact (hrw2.kept hst.2 (.inr (by simp [Value.ownBlock]; omega))).drew
                · exact (hal2.setCell (p := ⟨gg, o.length * 2 + 1, none⟩) (show w.heap.size ≤ gg by have := hb1.size; omega) _).drew
                · simpa using hqs
              case measure => simp [intOf]; omega
            · have hd : decide (f ≤ zt) = false := by simpa using hm
              have HS2 : Hid ((m.take (j + 1)).foldl Sched.step [] = (o ++ [(zf, zt)]) ++ [(f, t)]) := by
                show _ = _
                rw [HS.out]; simp [Sched.step, hm]
              clear HS hm
              go_wp2_with fail
              go_quiet (fail)
              have hq := below_drewN (Below.refl (wr.alloc (.cells #[.int .i64 f, .int .i64 t] 23)).heap.size (wr.alloc (.cells #[.int .i64 f, .int .i64 t] 23))) nq
              have hou2 := ow_below hou1 hq
              have hrw2 := ow_below hrw1 hq
              have hal2 := hal.trans (hq.mono hal.size)
              have hcb := bcell hq
              have hqs : w1.heap.size ≤ ((wr.alloc (.cells #[.int .i64 f, .int .i64 t] 23)).drewN nq).heap.size := Nat.le_trans (by simp; omega) hq.size
              clear hq hou1 hrw1 hal c1 c2 c3 c4
              generalize (wr.alloc (.cells #[.int .i64 f, .int .i64 t] 23)).drewN nq = Wq at *
              go_wp2_with (at_builtin; refine wpList_app1 E29 rfl _ _ rfl hou2 [.int .i64 f, .int .i64 t] rfl (cells2 rfl rfl) rfl rfl (by omega) hqs ?_; intro v' w3 hown3 hgrow)
              go_roundw
              case rel =>
                refine ⟨j + 1, by omega, by go_num, ?_, hrw2.kept hgrow (.inr (fun e => by have := hou2.lt gm e.symm; omega)), below_app hal2 hb1.size hou2 hgrow hal2.size, Nat.le_trans hqs hgrow.size⟩
                rw [HS2.out, fm_snoc, List.length_append, e]
                exact hown3
              case measure => simp [intOf]; omega
        · rw [List.take_of_length_le (by omega)] at hout
          have HR : Hid (nrmE l = m.foldl Sched.step [] ∧ errE l = 0) := by
            refine ⟨?_, ?_⟩
            · unfold nrmE; rw [HX.out]; exact HME.out.symm
            · unfold errE; rw [HX.out]; rfl
          have how := ow_below hout (Below.refl _ wr)
          clear hrow hout HME
          go_wp2_with fail
          go_ret2
          refine ⟨⟨_, by rw [HR.out.2]; rfl, ?_⟩, hbr⟩
          rw [HR.out.1]
          exact owns_base how hb1.size
end Go.Proofs.Ytiahmhmchppjgaa
