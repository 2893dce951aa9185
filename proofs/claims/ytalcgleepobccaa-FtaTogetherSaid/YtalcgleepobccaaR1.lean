/- Slices of slices of integers that are read; contracts: ContainsFunc on them, the closures of Round, off of the document. -/
import Derived.Test.YtalcgleepobccaaW6
import Derived.Test.YtalcgleepobccaaRd
namespace Go.Proofs.Ytalcgleepobccaa
open Go.RowKit Go.Shelf

/-- A row: where it lies, its capacity, its numbers. -/
structure Rw where
  a : Option Addr
  c : Nat
  l : List Int
def rwv (r : Rw) : Value := .slice r.a r.l.length r.c
def encRw (r : Rw) : List Value := [rwv r]
/-- A slice of slices of 64-bit integers that reads as M. -/
def Mat (w : World) (v : Value) (M : List Rw) : Prop := Rd encRw 1 w v M ∧ ∀ r ∈ M, Ints w (rwv r) r.l
theorem Mat.below {w w' : World} {v : Value} {M : List Rw} (h : Mat w v M) (hb : Below w.heap.size w w') : Mat w' v M := ⟨h.1.below hb, fun r hr => (h.2 r hr).below hb⟩
def B38 : Int := 274877906944

theorem any_take_snoc {α : Type} (p : α → Bool) {l : List α} {k : Nat} {x : α} (h : l[k]? = some x) : (l.take (k + 1)).any p = ((l.take k).any p || p x) := by
  rw [take_snoc h, List.any_append]
  simp

theorem indexFuncM_any (g : FuncId) (lb : Array Value) (p : Rw → Bool) (M : List Rw) (v : Value) (w : World)
    (eg : ∀ args w, (callFunc g args).run Try.prog w = .ok (.enter g args) w)
    (hp : ∀ r ∈ M, ∀ W, Below w.heap.size w W → Calls Try.prog g (#[rwv r] ++ lb) W fun e W' => e = .returned (.bool (p r)) ∧ Below W.heap.size W W') (h : Mat w v M) :
    Calls Try.prog 39 #[v, .func (.func g) #[] lb] w fun e w' => (∃ r : Int, e = .returned (.int .i64 r) ∧ decide (0 ≤ r) = M.any p) ∧ Below w.heap.size w w' := by
  have h0 := h.1
  obtain ⟨a, cap, rfl, h1, h2, h3⟩ := h.1.shape
  clear h
  go_enter Try.func39, Try.ntmps39
  go_wp2
  go_loopw [8] (fun i wr => ∃ k : Nat, k ≤ M.length ∧ i = .int .i64 k ∧ Hid ((M.take k).any p = false) ∧ Below w.heap.size w wr) (fun i _ => M.length - (intOf i).toNat)
  case atStart => exact ⟨0, Nat.zero_le _, rfl, rfl, Below.refl _ _⟩
  case round =>
    obtain ⟨k, hk, rfl, hany, hb⟩ := hrel
    by_cases hlt : k < M.length
    · obtain ⟨b, off, rfl, hbl, hc⟩ := h0.row (by rintro rfl; simp at hlt)
      obtain ⟨r, hr⟩ : ∃ r, M[k]? = some r := ⟨_, List.getElem?_eq_getElem hlt⟩
      have hck : wr.cell? ⟨b, off + k, none⟩ = some (rwv r) := by rw [hb.cell hbl]; exact hc.one (f := rwv) hr
      have hpk := hp r (List.mem_of_getElem? hr) wr hb
      have HA := Lib.hid (any_take_snoc p hr)
      have HP : Hid (p r = true → M.any p = true) := fun h => List.any_eq_true.2 ⟨_, List.mem_of_getElem? hr, h⟩
      clear hp hc h0 hr
      unfold rwv at *
      go_wp2_with (go_at_fn g; refine hpk.mono ?_; rintro e w' ⟨rfl, hb'⟩)
      · have hpx : p r = true := by assumption
        go_ret
        exact ⟨⟨_, rfl, by rw [HP.out hpx]; simp⟩, hb.trans (hb'.mono hb.size)⟩
      · have hpx : p r = false := by assumption
        go_roundw
        case rel => exact ⟨k + 1, by omega, by go_num, show _ = _ by rw [HA.out, hany.out, hpx]; rfl, hb.trans (hb'.mono hb.size)⟩
        case measure => simp [intOf]; omega
    · go_wp2
      go_ret
      exact ⟨⟨_, rfl, by have := hany.out; rw [List.take_of_length_le (by omega)] at this; rw [this]; simp⟩, hb⟩

theorem containsFuncM_any (g : FuncId) (lb : Array Value) (p : Rw → Bool) (M : List Rw) (v : Value) (w : World)
    (eg : ∀ args w, (callFunc g args).run Try.prog w = .ok (.enter g args) w)
    (hp : ∀ r ∈ M, ∀ W, Below w.heap.size w W → Calls Try.prog g (#[rwv r] ++ lb) W fun e W' => e = .returned (.bool (p r)) ∧ Below W.heap.size W W') (h : Mat w v M) :
    Calls Try.prog 30 #[v, .func (.func g) #[] lb] w fun e w' => e = .returned (.bool (M.any p)) ∧ Below w.heap.size w w' := by
  have hi := indexFuncM_any g lb p M v w eg hp h
  clear hp h
  go_enter Try.func30, Try.ntmps30
  go_wp2_with (go_at_call 39; refine hi.mono ?_; rintro e w' ⟨⟨r, rfl, hr⟩, hb⟩; have HR := Lib.hid hr; clear hr)
  go_ret
  exact ⟨ret_bool HR.out, hb⟩

def lenNe (n : Nat) (r : Rw) : Bool := !decide ((r.l.length : Int) = n)
def farRow (r : Rw) : Bool := r.l.any (Fta.far B38)

theorem clLen_any (r : Rw) (n g : Nat) (w : World) (_hn : n ≤ 9223372036854775807) (_hr : r.l.length ≤ 17592186044416) (hg : w.cell? ⟨g, 0, none⟩ = some (.int .i64 n)) :
    Calls Try.prog 31 #[rwv r, .pointer (some ⟨g, 0, none⟩)] w fun e w' => e = .returned (.bool (lenNe n r)) ∧ Below w.heap.size w w' := by
  unfold rwv
  go_enter Try.func31, Try.ntmps31
  go_wp2
  go_ret
  exact ⟨ret_bool (by unfold lenNe; rw [Bool.eq_iff_iff]; simp), Below.refl _ _⟩
theorem clFar_any (r : Rw) (w : World) (h : Ints w (rwv r) r.l) :
    Calls Try.prog 32 #[rwv r] w fun e w' => e = .returned (.bool (farRow r)) ∧ Below w.heap.size w w' := by
  have ha := anyFar_any r.l (rwv r) 274877906944 w (by decide) (by decide) h
  unfold rwv at *
  go_enter Try.func32, Try.ntmps32
  go_wp2_with (go_at_call 23; refine ha.mono ?_; rintro e w' ⟨rfl, hb⟩)
  go_ret
  exact ⟨rfl, hb⟩

theorem off_any (l : List Int) (v : Value) (w : World) (h : Ints w v l) :
    Calls Try.prog 33 #[v] w fun e w' => e = .returned (.bool (l.any (Fta.far B38))) ∧ w = w' := by
  have h0 := h
  obtain ⟨a, cap, rfl, h1, h2, h3⟩ := h.shape
  clear h
  go_enter Try.func33, Try.ntmps33
  go_wp2
  go_loop [3] (fun i => ∃ k : Nat, k ≤ l.length ∧ i = .int .i64 k ∧ Hid ((l.take k).any (Fta.far B38) = false)) (fun i => l.length - (intOf i).toNat)
  case atStart => exact ⟨0, Nat.zero_le _, rfl, rfl⟩
  case round =>
    obtain ⟨k, hk, rfl, hany⟩ := hrel
    by_cases hlt : k < l.length
    · obtain ⟨b, off, rfl, hbl, hc⟩ := h0.row (by rintro rfl; simp at hlt)
      have hck := hc k hlt
      have HA := Lib.hid (any_take_succ (Fta.far B38) l k hlt)
      have HP : Hid (Fta.far B38 (l.getD k 0) = true → l.any (Fta.far B38) = true) := fun h => List.any_eq_true.2 ⟨_, getD_mem hlt, h⟩
      clear hc h0
      generalize l.getD k 0 = x at *
      by_cases hf : x < -274877906944 ∨ 274877906944 < x
      · have HF : Hid (Fta.far B38 x = true) := by show (decide (x < -274877906944) || decide (274877906944 < x)) = _; simp; omega
        rcases (show x < -274877906944 ∨ (-274877906944 ≤ x ∧ 274877906944 < x) by omega) with q | ⟨q, q'⟩ <;> clear hf
        all_goals go_wp2
        all_goals go_ret
        all_goals exact ⟨ret_bool (HP.out HF.out).symm, rfl⟩
      · have HF : Hid (Fta.far B38 x = false) := by show (decide (x < -274877906944) || decide (274877906944 < x)) = _; simp; omega
        have q1 : -274877906944 ≤ x := by omega
        have q2 : x ≤ 274877906944 := by omega
        clear hf
        go_wp2
        go_round
        case rel => exact ⟨k + 1, by omega, by go_num, show _ = _ by rw [HA.out, hany.out, HF.out]; rfl⟩
        case measure => simp [intOf]; omega
    · go_wp2
      go_ret
      exact ⟨ret_bool (by have := hany.out; rw [List.take_of_length_le (by omega)] at this; exact this.symm), rfl⟩
end Go.Proofs.Ytalcgleepobccaa
