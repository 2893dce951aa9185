/- Contracts: Total, Alone, of the program and of the document. -/
import Derived.Test.YtiahmhmchppjgaaQ1
namespace Go.Proofs.Ytiahmhmchppjgaa
open Go.RowKit Go.Shelf
open Sched (Sp bad)

def totTo (l : List Sp) (k : Nat) : Int := (l.take k).foldl (fun n s => n + (s.2 - s.1)) 0
theorem totTo_step {l : List Sp} {k : Nat} {x : Sp} (h : l[k]? = some x) : totTo l (k + 1) = totTo l k + (x.2 - x.1) := by
  have hk := (List.getElem?_eq_some_iff.1 h).1
  unfold totTo
  rw [List.take_succ_eq_append_getElem hk, List.foldl_append, (List.getElem?_eq_some_iff.1 h).2]; rfl
def tot (l : List Sp) : Int := totTo (nrmE l) (nrmE l).length
theorem nrmE_bd {l : List Sp} : ∀ s ∈ nrmE l, 0 ≤ s.1 ∧ s.2 ≤ 1099511627776 ∧ s.1 < s.2 := by
  unfold nrmE
  by_cases h : l.any bad = true
  · simp [h]
  · rw [if_neg h]
    refine Sched.nrm_bd fun s hs => ?_
    have := (List.any_eq_false.1 (by simpa using h)) s hs
    have h' : ¬ (s.1 < 0 ∨ s.2 < s.1 ∨ 1099511627776 < s.2) := fun h' => this ((bad_iff s.1 s.2).2 h')
    omega
theorem nrmE_len {l : List Sp} (h : ∀ s ∈ l, I64 s.1 ∧ I64 s.2) : (nrmE l).length ≤ l.length := by
  unfold nrmE
  split
  · simp
  · have := (nto_good h l.length (Nat.le_refl _)).1
    rwa [show nto l l.length = Sched.nrm l by unfold nto Sched.nrm; rw [List.take_length]] at this
theorem totTo_bd {l : List Sp} (h : ∀ s ∈ l, 0 ≤ s.1 ∧ s.2 ≤ 1099511627776 ∧ s.1 < s.2) : ∀ k, k ≤ l.length → 0 ≤ totTo l k ∧ totTo l k ≤ 1099511627776 * k
  | 0, _ => by simp [totTo]
  | k + 1, hk => by
    obtain ⟨h1, h2⟩ := totTo_bd h k (by omega)
    obtain ⟨x, hx⟩ : ∃ x, l[k]? = some x := ⟨_, List.getElem?_eq_getElem (by omega)⟩
    have := h x (List.mem_of_getElem? hx)
    rw [totTo_step hx]
    omega

set_option maxRecDepth 100000 in
set_option maxHeartbeats 1600000 in
theorem rtotal_any (l : List Sp) (v : Value) (w : World) (h : Spans w v l) (hl : l.length ≤ 1000) : Calls Try.prog 35 #[v] w fun e w' => e = .returned (.int .i64 (tot l)) ∧ Below w.heap.size w w' := by
  have hn := rnorm_any l v w h hl
  have hlen := nrmE_len h.bd
  have HT : Hid (tot l = totTo (nrmE l) (nrmE l).length) := rfl
  have HB := Lib.hid (@nrmE_bd l)
  have HTB := Lib.hid (totTo_bd (@nrmE_bd l))
  have HTS := Lib.hid (fun k x => @totTo_step (nrmE l) k x)
  have HT0 : Hid (totTo (nrmE l) 0 = 0) := by show _ = _; simp [totTo]
  obtain ⟨a, c, rfl, -⟩ := h.shape
  clear h
  unfold NormPost at hn
  generalize tot l = T at *
  generalize nrmE l = N at *
  generalize totTo N = tt at *
  generalize errE l = er at *
  go_enter Try.func35, Try.ntmps35
  go_wp2_with fail
  refine hn.mono ?_
  rintro e w1 ⟨⟨v1, rfl, ho⟩, hb⟩
  clear hn
  obtain ⟨ao, co, rfl, hs1, hs2, hs3⟩ := owns_shape ho
  have HO := Lib.hid ho
  clear ho
  generalize hn : N.length = n at *
  have HN := Lib.hid hn
  clear hn
  go_wp2_with fail
  go_loopw [3, 6] (fun u i wr => ∃ k : Nat, k ≤ n ∧ i = .int .i64 k ∧ u = .int .i64 (tt k) ∧ Hid (Below w1.heap.size w1 wr)) (fun _ i _ => n - (intOf i).toNat)
  case atStart => exact ⟨0, Nat.zero_le _, rfl, by rw [HT0.out], Below.refl _ _⟩
  case round =>
    obtain ⟨k, hk, rfl, rfl, HW⟩ := hrel
    have htb := HTB.out k (by first | exact hk | (rw [HN.out]; exact hk))
    by_cases hlt : k < n
    · obtain ⟨x, hx⟩ : ∃ x, N[k]? = some x := ⟨_, List.getElem?_eq_getElem (by first | exact hlt | (rw [HN.out]; exact hlt))⟩
      have hxb := HB.out x (List.mem_of_getElem? hx)
      have HQ := Lib.hid (HTS.out k x hx)
      obtain ⟨g, rfl, hg1, hg2⟩ := hs3 (by omega)
      obtain ⟨c1, c2⟩ := ownSp (ow_below HO.out HW.out) (j := k) (by first | exact hlt | (rw [HN.out]; exact hlt))
      have hgd : N.getD k (0, 0) = x := by simp [List.getD_eq_getElem?_getD, hx]
      rw [hgd] at c1 c2
      clear hx hgd hs3
      obtain ⟨f, t⟩ := x
      simp only at c1 c2 hxb HQ
      generalize tt k = y at *
      go_upto_region 6 with fail
      have hw1 : IntKind.i64.wrap (t - f) = t - f := IntWalk.i64_in _ (by omega)
      have hw2 : IntKind.i64.wrap (y + (t - f)) = y + (t - f) := IntWalk.i64_in _ (by omega)
      go_quiet (fail)
      generalize hW : World.drewN _ _ = w2 at *
      have hb2 : Below wr.heap.size wr w2 := by rw [← hW]; exact below_drewN (Below.refl _ _) _
      clear hW c1 c2 hw1
      replace HW := Lib.hid (HW.out.trans (hb2.mono HW.out.size))
      try rw [hw2]
      clear hw2
      go_wp2
      go_roundw
      case rel => exact ⟨k + 1, by omega, by go_num, by rw [HQ.out], HW⟩
      case measure => simp [intOf]; omega
    · obtain rfl : n = k := by omega
      go_wp2
      go_ret
      exact ⟨ret_int (by rw [HT.out]), hb.trans (HW.out.mono hb.size)⟩
end Go.Proofs.Ytiahmhmchppjgaa
