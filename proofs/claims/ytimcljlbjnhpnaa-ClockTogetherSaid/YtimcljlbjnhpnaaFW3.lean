/- Contracts: without, Clone. -/
import Derived.Test.YtimcljlbjnhpnaaFW2
import Derived.OwnWalk
namespace Go.Proofs.Ytimcljlbjnhpnaa
open Go.RowKit Go.Shelf

theorem E22 : Elem Try.prog 26 2 (.int .i64 0) 1 8 := ⟨Try.underlying26, by kernel_rfl, rfl, by decide, by decide⟩

theorem cells1 {u : Value} (h : u.oneCell' = true) : ∀ v ∈ [u], v.oneCell' = true := by
  intro v hv
  simp at hv
  rw [hv]; exact h

theorem erase_take (l : List Int) (v : Int) (k : Nat) (h : k < l.length) :
    (l.take (k + 1)).erase v = if v ∈ l.take k then (l.take k).erase v ++ [l.getD k 0] else if l.getD k 0 = v then l.take k else l.take k ++ [l.getD k 0] := by
  rw [take_getD l k h, List.erase_append]
  split
  · rfl
  · by_cases e : l.getD k 0 = v
    · rw [if_pos e, e]; simp
    · rw [if_neg e, List.erase_of_not_mem (by simpa using fun h => e h.symm)]

set_option maxHeartbeats 400000 in
theorem without_any (l : List Int) (v : Value) (x0 : Int) (w : World) (h : Ints w v l) :
    Calls Try.prog 62 #[v, .int .i64 x0] w fun e w' => (∃ v', e = .returned v' ∧ w'.ownsRow w.heap.size 2 1 v' (l.erase x0).length ((l.erase x0).map (.int .i64))) ∧ Below w.heap.size w w' := by
  have h0 := h
  obtain ⟨a, cap, rfl, h1, h2, h3⟩ := h.shape
  clear h
  go_enter Try.func62, Try.ntmps62
  go_wp2
  go_loopw [5, 6, 7] (fun o d i wr => ∃ k : Nat, k ≤ l.length ∧ i = .int .i64 k ∧ d = .bool (decide (x0 ∈ l.take k)) ∧ wr.ownsRow w.heap.size 2 1 o ((l.take k).erase x0).length (((l.take k).erase x0).map (.int .i64)) ∧ Below w.heap.size w wr) (fun _ _ i _ => l.length - (intOf i).toNat)
  case atStart => exact ⟨0, Nat.zero_le _, rfl, rfl, by simpa using World.ownsRow_nil _ _ _ _, Below.refl _ _⟩
  case round =>
    obtain ⟨k, hk, rfl, rfl, hown, hb⟩ := hrel
    by_cases hlt : k < l.length
    · obtain ⟨b, off, rfl, hbl, hc⟩ := h0.row (by rintro rfl; simp at hlt)
      have hck : wr.cell? ⟨b, off + k, none⟩ = some (.int .i64 (l.getD k 0)) := by rw [hb.cell hbl, hc k hlt]
      have HT := Lib.hid (erase_take l x0 k hlt)
      have HM : Hid (decide (x0 ∈ l.take (k + 1)) = (decide (x0 ∈ l.take k) || decide (l.getD k 0 = x0))) := by
        show _ = _
        rw [take_getD l k hlt]; simp [eq_comm]
      have hel : ((l.take k).erase x0).length ≤ k := Nat.le_trans (List.length_erase_le) (List.length_take_le _ _)
      clear hc h0
      generalize l.getD k 0 = x at *
      have hdec : ∀ (o : List Int) (wr' : World) (u : Value), Hid ((l.take (k + 1)).erase x0 = o) → wr'.ownsRow w.heap.size 2 1 u o.length (o.map (.int .i64)) → wr'.ownsRow w.heap.size 2 1 u ((l.take (k + 1)).erase x0).length (((l.take (k + 1)).erase x0).map (.int .i64)) := by
        intro o wr' u ho h
        rw [ho.out]; exact h
      by_cases hm : x0 ∈ l.take k
      · have hd : decide (x0 ∈ l.take k) = true := by simpa using hm
        have HE : Hid ((l.take (k + 1)).erase x0 = (l.take k).erase x0 ++ [x]) := HT.out.trans (if_pos hm)
        rw [hd] at HM
        rw [hd]
        clear hd hm HT
        by_cases hx : x = x0
        · subst hx
          go_wp2_with (at_builtin; refine wpList_app1 E22 rfl _ _ rfl hown [.int .i64 x] rfl (cells1 rfl) rfl rfl (by omega) hb.size ?_; intro v' w1 hown1 hgrow)
          go_roundw
          case rel => exact ⟨k + 1, by omega, by go_num, by rw [HM.out]; rfl, hdec _ _ _ HE (by simpa using hown1), below_app hb (Nat.le_refl _) hown hgrow hb.size⟩
          case measure => simp [intOf]; omega
        · have hx' : (x == x0) = false := by simpa using hx
          go_wp2_with (at_builtin; refine wpList_app1 E22 rfl _ _ rfl hown [.int .i64 x] rfl (cells1 rfl) rfl rfl (by omega) hb.size ?_; intro v' w1 hown1 hgrow)
          go_roundw
          case rel => exact ⟨k + 1, by omega, by go_num, by rw [HM.out]; rfl, hdec _ _ _ HE (by simpa using hown1), below_app hb (Nat.le_refl _) hown hgrow hb.size⟩
          case measure => simp [intOf]; omega
      · have hd : decide (x0 ∈ l.take k) = false := by simpa using hm
        have ht : (l.take k).erase x0 = l.take k := List.erase_of_not_mem hm
        have HE : Hid ((l.take (k + 1)).erase x0 = if x = x0 then (l.take k).erase x0 else (l.take k).erase x0 ++ [x]) := by
          show _ = _
          rw [HT.out, if_neg hm, ht]
        rw [hd] at HM
        rw [hd]
        clear hd hm HT ht
        by_cases hx : x = x0
        · subst hx
          have HE' : Hid ((l.take (k + 1)).erase x = (l.take k).erase x) := HE.out.trans (if_pos rfl)
          clear HE
          go_wp2
          go_roundw
          case rel => exact ⟨k + 1, by omega, by go_num, by rw [HM.out]; simp, hdec _ _ _ HE' hown, hb⟩
          case measure => simp [intOf]; omega
        · have hx' : (x == x0) = false := by simpa using hx
          have HE' : Hid ((l.take (k + 1)).erase x0 = (l.take k).erase x0 ++ [x]) := HE.out.trans (if_neg hx)
          have HX : Hid (decide (x = x0) = false) := by show _ = _; simpa using hx
          clear HE
          go_wp2_with (at_builtin; refine wpList_app1 E22 rfl _ _ rfl hown [.int .i64 x] rfl (cells1 rfl) rfl rfl (by omega) hb.size ?_; intro v' w1 hown1 hgrow)
          go_roundw
          case rel => exact ⟨k + 1, by omega, by go_num, by rw [HM.out, HX.out]; rfl, hdec _ _ _ HE' (by simpa using hown1), below_app hb (Nat.le_refl _) hown hgrow hb.size⟩
          case measure => simp [intOf]; omega
    · go_wp2
      go_ret
      rw [List.take_of_length_le (by omega)] at hown
      exact ⟨⟨_, rfl, hown⟩, hb⟩

theorem clone_any (l : List Int) (v : Value) (w : World) (h : Ints w v l) :
    Calls Try.prog 26 #[v] w fun e w' => (∃ v', e = .returned v' ∧ w'.ownsRow w.heap.size 2 1 v' l.length (l.map (.int .i64))) ∧ Below w.heap.size w w' := by
  have h0 := h
  obtain ⟨a, cap, rfl, h1, h2, h3⟩ := h.shape
  cases a with
  | none =>
    have hl : l = [] := by
      obtain ⟨a', cap', e, q1, q2, q3, q5, q6, q4⟩ := h
      simp only [Value.slice.injEq] at e
      obtain ⟨rfl, _, rfl⟩ := e
      have := q6 rfl
      exact List.eq_nil_of_length_eq_zero (by omega)
    subst hl
    have hcap : cap = 0 := by
      obtain ⟨a', cap', e, q1, q2, q3, q5, q6, q4⟩ := h
      simp only [Value.slice.injEq] at e
      obtain ⟨rfl, _, rfl⟩ := e
      exact q6 rfl
    subst hcap
    clear h h0
    have hq := fun w : World => Lib.run_eql_slice_nil (P := Try.prog) w 26 2 none 0 0 0 0 Try.underlying26
    go_enter Try.func26, Try.ntmps26
    go_wp2
    go_ret
    exact ⟨⟨_, rfl, by simpa using World.ownsRow_nil _ _ _ _⟩, Below.refl _ _⟩
  | some ad =>
    have hnq := fun w : World => Lib.run_eql_slice_nil (P := Try.prog) w 26 2 (some ad) l.length cap 0 0 Try.underlying26
    have hal : Below w.heap.size w (w.alloc (.cells #[] 2)) := (Below.refl _ _).alloc (Nat.le_refl _) _
    have hs := (h.below hal).src
    have hown : (w.alloc (.cells #[] 2)).ownsRow w.heap.size 2 1 (.slice (some ⟨w.heap.size, 0, none⟩) 0 0) 0 [] := World.ownsRow_made w #[] 0 (Nat.le_refl _) (by decide) rfl
    clear h h0
    go_enter Try.func26, Try.ntmps26
    go_wp2_with (at_builtin; refine wpList_app E22 rfl _ _ rfl hown hs rfl rfl (by omega) (by simp) ?_; intro v' w1 hown1 hgrow _)
    go_ret
    refine ⟨⟨_, rfl, by simpa using hown1⟩, below_app hal (Nat.le_refl _) hown hgrow (by simp)⟩
end Go.Proofs.Ytimcljlbjnhpnaa
