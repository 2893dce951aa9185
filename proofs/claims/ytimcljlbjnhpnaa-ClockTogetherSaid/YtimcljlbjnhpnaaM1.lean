/- What a list reads as; contracts of the small functions of chapter 7. -/
import Derived.Test.YtimcljlbjnhpnaaMd
import Derived.Test.YtimcljlbjnhpnaaOpen
import Derived.Test.YtimcljlbjnhpnaaReg
import Derived.Test.YtimcljlbjnhpnaaProg
import Derived.WalkSpells
import Derived.WalkLawsBesides
import Derived.Deep.QuietTactic
import Derived.BigQuiet
import Derived.IntWalk
import Derived.Shelf.Abstract
import Derived.Deep.DeepCutAuto
namespace Go.Proofs.Ytimcljlbjnhpnaa
open Go.RowKit Go.Shelf
open Md

def Bls (w : World) (b : Bl) : Prop := Rd encB 1 w (.slice b.a b.l.length b.c) b.l
def Ils (w : World) (d : Il) : Prop := Rd (encI .i64) 1 w (.slice d.a d.l.length d.c) d.l ∧ ∀ x ∈ d.l, I64 x
def encMo (x : Mo) : List Value := [.slice x.d.a x.d.l.length x.d.c, .slice x.e.a x.e.l.length x.e.c, .slice x.n.a x.n.l.length x.n.c]
def mov (x : Mo) : Value := .agg #[.slice x.d.a x.d.l.length x.d.c, .slice x.e.a x.e.l.length x.e.c, .slice x.n.a x.n.l.length x.n.c]
def GoodMo (w : World) (x : Mo) : Prop := Ils w x.d ∧ Bls w x.e ∧ Bls w x.n
def encMe (m : Me) : List Value := [.int .i64 m.nodes, .int .i64 m.slot, .int .i64 m.gap, .int .i64 m.win, .int .i64 m.drift, .int .i64 m.delay, .slice m.cold.a m.cold.l.length m.cold.c, .slice m.ma m.ml.length m.mc]
def mev (m : Me) : Value := .agg #[.int .i64 m.nodes, .int .i64 m.slot, .int .i64 m.gap, .int .i64 m.win, .int .i64 m.drift, .int .i64 m.delay, .slice m.cold.a m.cold.l.length m.cold.c, .slice m.ma m.ml.length m.mc]
def GoodMe (w : World) (m : Me) : Prop := (Bls w m.cold ∧ Rd encMo 3 w (.slice m.ma m.ml.length m.mc) m.ml ∧ ∀ x ∈ m.ml, GoodMo w x) ∧ I64 m.nodes ∧ I64 m.slot ∧ I64 m.gap ∧ I64 m.win ∧ I64 m.drift ∧ I64 m.delay
section
variable {w w' : World}
theorem Bls.below {b : Bl} (h : Bls w b) (hb : Below w.heap.size w w') : Bls w' b := Rd.below h hb
theorem Ils.below {b : Il} (h : Ils w b) (hb : Below w.heap.size w w') : Ils w' b := ⟨h.1.below hb, h.2⟩
theorem GoodMo.below {x : Mo} (h : GoodMo w x) (hb : Below w.heap.size w w') : GoodMo w' x := ⟨h.1.below hb, h.2.1.below hb, h.2.2.below hb⟩
theorem GoodMe.below {m : Me} (h : GoodMe w m) (hb : Below w.heap.size w w') : GoodMe w' m :=
  ⟨⟨h.1.1.below hb, h.1.2.1.below hb, fun x hx => (h.1.2.2 x hx).below hb⟩, h.2⟩
theorem Bls.cell {b : Bl} (h : Bls w b) {k : Nat} {x : Bool} (hk : b.l[k]? = some x) : ∃ g off, b.a = some ⟨g, off, none⟩ ∧ g < w.heap.size ∧ w.cell? ⟨g, off + k, none⟩ = some (.bool x) := by
  obtain ⟨g, off, hr, hg, hc⟩ := Rd.row h (by intro h0; rw [h0] at hk; simp at hk)
  exact ⟨g, off, hr, hg, hc.one (f := fun x => .bool x) hk⟩
theorem Ils.cell {b : Il} (h : Ils w b) {k : Nat} {x : Int} (hk : b.l[k]? = some x) : ∃ g off, b.a = some ⟨g, off, none⟩ ∧ g < w.heap.size ∧ w.cell? ⟨g, off + k, none⟩ = some (.int .i64 x) ∧ I64 x := by
  obtain ⟨g, off, hr, hg, hc⟩ := h.1.row (by intro h0; rw [h0] at hk; simp at hk)
  exact ⟨g, off, hr, hg, hc.one (f := fun x => .int .i64 x) hk, h.2 x (List.mem_of_getElem? hk)⟩
end

theorem within7_any (n a b : Int) (w : World) : Calls Try.prog 52 #[.int .i64 n, .int .i64 a, .int .i64 b] w fun e w' => e = .returned (.bool (decide (a ≤ n) && decide (n ≤ b))) ∧ w' = w := by
  go_enter Try.func52, Try.ntmps52
  go_wp2
  all_goals go_ret
  all_goals exact ⟨ret_bool (by simp <;> omega), rfl⟩
theorem kind_any (e : Bool) (d : Int) (w : World) : Calls Try.prog 69 #[.bool e, .int .i64 d] w fun en w' => en = .returned (.int .i64 (kindOf e d)) ∧ w' = w := by
  cases e
  all_goals go_enter Try.func69, Try.ntmps69
  all_goals go_wp2
  all_goals go_ret
  all_goals exact ⟨ret_int (by simp [kindOf, *] <;> omega), rfl⟩
theorem rkind_any (e : Bool) (d : Int) (w : World) : Calls Try.prog 39 #[.bool e, .int .i64 d] w fun en w' => en = .returned (.int .i64 (kindOf e d)) ∧ w' = w := by
  cases e
  all_goals go_enter Try.func39, Try.ntmps39
  all_goals go_wp2
  all_goals go_ret
  all_goals exact ⟨ret_int (by simp [kindOf, *] <;> omega), rfl⟩
theorem air_any (n : Int) (w : World) : Calls Try.prog 67 #[.int .i64 n] w fun e w' => e = .returned (.int .i64 (air n)) ∧ w' = w := by
  go_enter Try.func67, Try.ntmps67
  go_wp2
  all_goals go_ret
  all_goals (refine ⟨ret_int ?_, rfl⟩; unfold air; first | (rw [if_pos (by omega)]) | (rw [if_neg (by omega)]))
theorem rair_any (n : Int) (w : World) : Calls Try.prog 37 #[.int .i64 n] w fun e w' => e = .returned (.int .i64 (air n)) ∧ w' = w := by
  go_enter Try.func37, Try.ntmps37
  go_wp2
  all_goals go_ret
  all_goals (refine ⟨ret_int ?_, rfl⟩; unfold air; first | (rw [if_pos (by omega)]) | (rw [if_neg (by omega)]))

theorem bits_out {k d : Int} (h : d < 0 ∨ 8 < d) : bitsOf k d = 0 := if_pos h
theorem bits_1 {d : Int} (h0 : 0 ≤ d) (h8 : d ≤ 8) : bitsOf 1 d = if d = 0 then 40 else 0 := by
  unfold bitsOf; rw [if_neg (by omega)]; by_cases h : d = 0 <;> simp [h]
theorem bits_2 {d : Int} (h0 : 0 ≤ d) (h8 : d ≤ 8) : bitsOf 2 d = 29 + 8 * d := by
  unfold bitsOf; rw [if_neg (by omega)]; simp
theorem bits_3 {d : Int} (h0 : 0 ≤ d) (h8 : d ≤ 8) : bitsOf 3 d = if d = 0 then 54 else 0 := by
  unfold bitsOf; rw [if_neg (by omega)]; by_cases h : d = 0 <;> simp [h]
theorem bits_4 {d : Int} (h0 : 0 ≤ d) (h8 : d ≤ 8) : bitsOf 4 d = 79 + 8 * d := by
  unfold bitsOf; rw [if_neg (by omega)]; simp
theorem bits_no {k d : Int} (h0 : 0 ≤ d) (h8 : d ≤ 8) (h1 : k ≠ 1) (h2 : k ≠ 2) (h3 : k ≠ 3) (h4 : k ≠ 4) : bitsOf k d = 0 := by
  unfold bitsOf; rw [if_neg (by omega)]; simp [h1, h2, h3, h4]
set_option maxHeartbeats 1600000 in
theorem size_any (k d : Int) (w : World) : Calls Try.prog 68 #[.int .i64 k, .int .i64 d] w fun e w' => e = .returned (.int .i64 (bitsOf k d)) ∧ w' = w := by
  by_cases h0 : d < 0
  · have HZ := Lib.hid (@bits_out k d (Or.inl h0))
    go_enter Try.func68, Try.ntmps68
    go_wp2
    go_ret
    exact ⟨ret_int HZ.out.symm, rfl⟩
  by_cases h8 : 8 < d
  · have HZ := Lib.hid (@bits_out k d (Or.inr h8))
    go_enter Try.func68, Try.ntmps68
    go_wp2
    go_ret
    exact ⟨ret_int HZ.out.symm, rfl⟩
  have h0' : 0 ≤ d := by omega
  have h8' : d ≤ 8 := by omega
  clear h0 h8
  by_cases k1 : k = 1
  · subst k1
    have HZ := Lib.hid (bits_1 h0' h8')
    by_cases hd : d = 0
    · subst hd
      go_enter Try.func68, Try.ntmps68
      go_wp2
      go_ret
      exact ⟨ret_int (by rw [HZ.out]; rfl), rfl⟩
    · have hd' : (d == 0) = false := by simpa using hd
      have HD := Lib.hid hd
      clear hd
      go_enter Try.func68, Try.ntmps68
      go_wp2
      go_ret
      exact ⟨ret_int (by rw [HZ.out, if_neg HD.out]), rfl⟩
  by_cases k3 : k = 3
  · subst k3
    have HZ := Lib.hid (bits_3 h0' h8')
    by_cases hd : d = 0
    · subst hd
      go_enter Try.func68, Try.ntmps68
      go_wp2
      go_ret
      exact ⟨ret_int (by rw [HZ.out]; rfl), rfl⟩
    · have hd' : (d == 0) = false := by simpa using hd
      have HD := Lib.hid hd
      clear hd
      go_enter Try.func68, Try.ntmps68
      go_wp2
      go_ret
      exact ⟨ret_int (by rw [HZ.out, if_neg HD.out]), rfl⟩
  by_cases k2 : k = 2
  · subst k2
    have HZ := Lib.hid (bits_2 h0' h8')
    go_enter Try.func68, Try.ntmps68
    go_wp2
    go_ret
    exact ⟨ret_int HZ.out.symm, rfl⟩
  by_cases k4 : k = 4
  · subst k4
    have HZ := Lib.hid (bits_4 h0' h8')
    go_enter Try.func68, Try.ntmps68
    go_wp2
    go_ret
    exact ⟨ret_int HZ.out.symm, rfl⟩
  have HZ := Lib.hid (bits_no h0' h8' k1 k2 k3 k4)
  have n1 : (k == 1) = false := by simpa using k1
  have n2 : (k == 2) = false := by simpa using k2
  have n3 : (k == 3) = false := by simpa using k3
  have n4 : (k == 4) = false := by simpa using k4
  clear k1 k2 k3 k4
  go_enter Try.func68, Try.ntmps68
  go_wp2
  go_ret
  exact ⟨ret_int HZ.out.symm, rfl⟩
set_option maxHeartbeats 1600000 in
theorem rsize_any (k d : Int) (w : World) : Calls Try.prog 38 #[.int .i64 k, .int .i64 d] w fun e w' => e = .returned (.int .i64 (bitsOf k d)) ∧ w' = w := by
  by_cases h0 : d < 0
  · have HZ := Lib.hid (@bits_out k d (Or.inl h0))
    go_enter Try.func38, Try.ntmps38
    go_wp2
    go_ret
    exact ⟨ret_int HZ.out.symm, rfl⟩
  by_cases h8 : 8 < d
  · have HZ := Lib.hid (@bits_out k d (Or.inr h8))
    go_enter Try.func38, Try.ntmps38
    go_wp2
    go_ret
    exact ⟨ret_int HZ.out.symm, rfl⟩
  have h0' : 0 ≤ d := by omega
  have h8' : d ≤ 8 := by omega
  clear h0 h8
  by_cases k1 : k = 1
  · subst k1
    have HZ := Lib.hid (bits_1 h0' h8')
    by_cases hd : d = 0
    · subst hd
      go_enter Try.func38, Try.ntmps38
      go_wp2
      go_ret
      exact ⟨ret_int (by rw [HZ.out]; rfl), rfl⟩
    · have hd' : (d == 0) = false := by simpa using hd
      have HD := Lib.hid hd
      clear hd
      go_enter Try.func38, Try.ntmps38
      go_wp2
      go_ret
      exact ⟨ret_int (by rw [HZ.out, if_neg HD.out]), rfl⟩
  by_cases k3 : k = 3
  · subst k3
    have HZ := Lib.hid (bits_3 h0' h8')
    by_cases hd : d = 0
    · subst hd
      go_enter Try.func38, Try.ntmps38
      go_wp2
      go_ret
      exact ⟨ret_int (by rw [HZ.out]; rfl), rfl⟩
    · have hd' : (d == 0) = false := by simpa using hd
      have HD := Lib.hid hd
      clear hd
      go_enter Try.func38, Try.ntmps38
      go_wp2
      go_ret
      exact ⟨ret_int (by rw [HZ.out, if_neg HD.out]), rfl⟩
  by_cases k2 : k = 2
  · subst k2
    have HZ := Lib.hid (bits_2 h0' h8')
    go_enter Try.func38, Try.ntmps38
    go_wp2
    go_ret
    exact ⟨ret_int HZ.out.symm, rfl⟩
  by_cases k4 : k = 4
  · subst k4
    have HZ := Lib.hid (bits_4 h0' h8')
    go_enter Try.func38, Try.ntmps38
    go_wp2
    go_ret
    exact ⟨ret_int HZ.out.symm, rfl⟩
  have HZ := Lib.hid (bits_no h0' h8' k1 k2 k3 k4)
  have n1 : (k == 1) = false := by simpa using k1
  have n2 : (k == 2) = false := by simpa using k2
  have n3 : (k == 3) = false := by simpa using k3
  have n4 : (k == 4) = false := by simpa using k4
  clear k1 k2 k3 k4
  go_enter Try.func38, Try.ntmps38
  go_wp2
  go_ret
  exact ⟨ret_int HZ.out.symm, rfl⟩

end Go.Proofs.Ytimcljlbjnhpnaa
