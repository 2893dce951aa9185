/- The plain law of lists (chapter 7): how long frames last, which lists may be. What a list reads as; contracts of the small functions of chapter 7. Contracts: trues, MaxAir of the program and of the document. Contracts: counts, isMode of the program, mode of the document. -/
import Derived.Test.YtkinhhkodaacjaaGreatDoorQ1
import Derived.Test.YtkinhhkodaacjaaGreatDoorLA
import Derived.Test.YtkinhhkodaacjaaGreatDoorOpen
import Derived.Test.YtkinhhkodaacjaaGreatDoorProg
import Derived.WalkSpells
import Derived.WalkLawsBesides
import Derived.Deep.QuietTactic
import Derived.BigQuiet
import Derived.IntWalk
import Derived.Shelf.Abstract
import Derived.Deep.DeepCutAuto
namespace Go.Proofs.YtkinhhkodaacjaaGreatDoor
namespace Md

def kindOf (e : Bool) (d : Int) : Int := if e then (if 0 < d then 4 else 3) else 2
def bitsOf (k d : Int) : Int := if d < 0 ∨ 8 < d then 0 else if k = 1 ∧ d = 0 then 40 else if k = 3 ∧ d = 0 then 54 else if k = 2 then 29 + 8 * d else if k = 4 then 79 + 8 * d else 0
def air (n : Int) : Int := if n < 0 ∨ 4095 < n then 0 else 14 + (n + 1) / 2
def fsz (e : Bool) (d : Int) : Int := bitsOf (kindOf e d) d
theorem size_bd (k d : Int) : 0 ≤ bitsOf k d ∧ bitsOf k d ≤ 143 := by
  unfold bitsOf
  repeat (split; · omega)
  omega
theorem air_bd (n : Int) : 0 ≤ air n ∧ air n ≤ 2062 := by
  unfold air; split <;> omega
def longer (most : Int) (e : Bool) (d : Int) : Int := if 0 < fsz e d then max most (air (fsz e d)) else most
theorem air_fsz (e : Bool) (d : Int) : 0 ≤ air (fsz e d) ∧ air (fsz e d) ≤ 86 := by
  have := size_bd (kindOf e d) d
  unfold fsz air
  split <;> omega
theorem longer_bd {most : Int} (h0 : 0 ≤ most) (h1 : most ≤ 86) (e : Bool) (d : Int) : 0 ≤ longer most e d ∧ longer most e d ≤ 86 := by
  have := air_fsz e d
  unfold longer
  split <;> omega

/-- Truths as they lie. -/
structure Bl where
  a : Option Addr
  c : Nat
  l : List Bool
/-- Integers as they lie. -/
structure Il where
  a : Option Addr
  c : Nat
  l : List Int
/-- A mode. -/
structure Mo where
  d : Il
  e : Bl
  n : Bl
/-- A list. -/
structure Me where
  nodes : Int
  slot : Int
  gap : Int
  win : Int
  drift : Int
  delay : Int
  cold : Bl
  ma : Option Addr
  mc : Nat
  ml : List Mo

/-- The longest of the first k frames of a mode, and of what there was. -/
def modeTo (nodes most : Int) (x : Mo) (k : Nat) : Int := (((x.e.l.zip x.d.l).take nodes.toNat).take k).foldl (fun m p => longer m p.1 p.2) most
def modeAir (nodes most : Int) (x : Mo) : Int := modeTo nodes most x x.d.l.length
theorem modeTo_bd {nodes most : Int} (h0 : 0 ≤ most) (h1 : most ≤ 86) (x : Mo) (k : Nat) : 0 ≤ modeTo nodes most x k ∧ modeTo nodes most x k ≤ 86 := by
  unfold modeTo
  generalize ((x.e.l.zip x.d.l).take nodes.toNat).take k = l
  induction l generalizing most with
  | nil => exact ⟨h0, h1⟩
  | cons p l ih => exact ih (longer_bd h0 h1 p.1 p.2).1 (longer_bd h0 h1 p.1 p.2).2
theorem modeTo_zero (nodes most : Int) (x : Mo) : modeTo nodes most x 0 = most := by simp [modeTo]
theorem modeTo_in {nodes most : Int} {x : Mo} {k : Nat} {d : Int} {e : Bool} (hd : x.d.l[k]? = some d) (he : x.e.l[k]? = some e) (hn : (k : Int) < nodes) :
    modeTo nodes most x (k + 1) = longer (modeTo nodes most x k) e d := by
  have hz : ((x.e.l.zip x.d.l).take nodes.toNat)[k]? = some (e, d) := by
    rw [List.getElem?_take, if_pos (by omega), List.getElem?_zip_eq_some]
    exact ⟨he, hd⟩
  unfold modeTo
  rw [take_snoc hz, List.foldl_append]
  rfl
theorem modeTo_out {nodes most : Int} {x : Mo} {k : Nat} (h : ¬ ((k : Int) < nodes ∧ k < x.e.l.length)) : modeTo nodes most x (k + 1) = modeTo nodes most x k := by
  have hl : ((x.e.l.zip x.d.l).take nodes.toNat).length ≤ k := by
    rw [List.length_take, List.length_zip]
    omega
  unfold modeTo
  rw [List.take_of_length_le hl, List.take_of_length_le (by omega)]
theorem modeTo_end {nodes most : Int} {x : Mo} {k : Nat} (h : ¬ (k < x.d.l.length ∧ k < x.e.l.length ∧ (k : Int) < nodes)) : modeTo nodes most x k = modeAir nodes most x := by
  have hl : ((x.e.l.zip x.d.l).take nodes.toNat).length ≤ k := by
    rw [List.length_take, List.length_zip]
    omega
  have hl2 : ((x.e.l.zip x.d.l).take nodes.toNat).length ≤ x.d.l.length := by
    rw [List.length_take, List.length_zip]
    omega
  unfold modeAir modeTo
  rw [List.take_of_length_le hl, List.take_of_length_le hl2]
def airTo (m : Me) (k : Nat) : Int := (m.ml.take k).foldl (modeAir m.nodes) 34
def maxAir (m : Me) : Int := airTo m m.ml.length
theorem airTo_succ {m : Me} {k : Nat} {x : Mo} (h : m.ml[k]? = some x) : airTo m (k + 1) = modeAir m.nodes (airTo m k) x := by
  unfold airTo; rw [take_snoc h, List.foldl_append]; rfl
theorem airTo_bd (m : Me) (k : Nat) : 0 ≤ airTo m k ∧ airTo m k ≤ 86 := by
  unfold airTo
  have : ∀ (l : List Mo) (z : Int), 0 ≤ z → z ≤ 86 → 0 ≤ l.foldl (modeAir m.nodes) z ∧ l.foldl (modeAir m.nodes) z ≤ 86 := by
    intro l
    induction l with
    | nil => intro z h0 h1; exact ⟨h0, h1⟩
    | cons x l ih => intro z h0 h1; exact ih _ (modeTo_bd h0 h1 x _).1 (modeTo_bd h0 h1 x _).2
  exact this _ _ (by omega) (by omega)

def trues (l : List Bool) : Nat := l.countP id
def okCounts (m : Me) : Bool := decide (4 ≤ m.nodes) && decide (m.nodes ≤ 8) && decide (1 ≤ m.ml.length) && decide (m.ml.length ≤ 4) && decide ((m.cold.l.length : Int) = m.nodes) && decide (2 ≤ trues m.cold.l)
def okAt (m : Me) (x : Mo) (k : Nat) : Bool := decide (0 ≤ x.d.l.getD k 0) && decide (x.d.l.getD k 0 ≤ 8) && (!(m.cold.l.getD k false) || x.e.l.getD k false)
def okMode (m : Me) (x : Mo) : Bool := decide ((x.d.l.length : Int) = m.nodes) && decide ((x.e.l.length : Int) = m.nodes) && decide (x.n.l.length = m.ml.length) && (List.range x.d.l.length).all (okAt m x)
def okM (m : Me) : Bool := okCounts m && m.ml.all (okMode m) && (decide (0 ≤ m.drift) && decide (m.drift ≤ 64) && decide (0 ≤ m.delay) && decide (m.delay ≤ 64) && decide (m.win ≤ 1048576) && decide (m.gap ≤ 1048576) && decide (m.slot ≤ 16777216)) &&
  (decide (16 * m.nodes * m.drift + 16 ≤ m.win) && decide (2 * m.win + 2 * m.delay + 4 ≤ m.gap) && decide (2 * m.gap + maxAir m ≤ m.slot))
def errM (m : Me) : Int := if okM m then 0 else 70
end Md
end Go.Proofs.YtkinhhkodaacjaaGreatDoor
namespace Go.Proofs.YtkinhhkodaacjaaGreatDoor
open Go.RowKit Go.Shelf
open Md

def Bls (w : World) (b : Bl) : Prop := Rd encB 1 w (.slice b.a b.l.length b.c) b.l
def Ils (w : World) (d : Il) : Prop := Rd (encI .i64) 1 w (.slice d.a d.l.length d.c) d.l ∧ ∀ x ∈ d.l, I64 x
def encMo (x : Mo) : List Value := [.slice x.d.a x.d.l.length x.d.c, .slice x.e.a x.e.l.length x.e.c, .slice x.n.a x.n.l.length x.n.c]
def mov (x : Mo) : Value := .agg #[.slice x.d.a x.d.l.length x.d.c, .slice x.e.a x.e.l.length x.e.c, .slice x.n.a x.n.l.length x.n.c]
def GoodMo (w : World) (x : Mo) : Prop := Ils w x.d ∧ Bls w x.e ∧ Bls w x.n
def encMe (m : Me) : List Value := [.int .i64 m.nodes, .int .i64 m.slot, .int .i64 m.gap, .int .i64 m.win, .int .i64 m.drift, .int .i64 m.delay, .slice m.cold.a m.cold.l.length m.cold.c, .slice m.ma m.ml.length m.mc]
def mev (m : Me) : Value := .agg #[.int .i64 m.nodes, .int .i64 m.slot, .int .i64 m.gap, .int .i64 m.win, .int .i64 m.drift, .int .i64 m.delay, .slice m.cold.a m.cold.l.length m.cold.c, .slice m.ma m.ml.length m.mc]
def GoodMe (w : World) (m : Me) : Prop := (Bls w m.cold ∧ Rd encMo 3 w (.slice m.ma m.ml.length m.mc) m.ml ∧ ∀ x ∈ m.ml, GoodMo w x) ∧ I64 m.nodes ∧ I64 m.slot ∧ I64 m.gap ∧ I64 m.win ∧ I64 m.drift ∧ I64 m.delay
section
variable {w w' : World}
theorem Bls.below {b : Bl} (h : Bls w b) (hb : Below w.heap.size w w') : Bls w' b := Rd.below h hb
theorem Ils.below {b : Il} (h : Ils w b) (hb : Below w.heap.size w w') : Ils w' b := ⟨h.1.below hb, h.2⟩
theorem GoodMo.below {x : Mo} (h : GoodMo w x) (hb : Below w.heap.size w w') : GoodMo w' x := ⟨h.1.below hb, h.2.1.below hb, h.2.2.below hb⟩
theorem GoodMe.below {m : Me} (h : GoodMe w m) (hb : Below w.heap.size w w') : GoodMe w' m :=
  ⟨⟨h.1.1.below hb, h.1.2.1.below hb, fun x hx => (h.1.2.2 x hx).below hb⟩, h.2⟩
theorem Bls.cell {b : Bl} (h : Bls w b) {k : Nat} {x : Bool} (hk : b.l[k]? = some x) : ∃ g off, b.a = some ⟨g, off, none⟩ ∧ g < w.heap.size ∧ w.cell? ⟨g, off + k, none⟩ = some (.bool x) := by
  obtain ⟨g, off, hr, hg, hc⟩ := Rd.row h (by intro h0; rw [h0] at hk; simp at hk)
  exact ⟨g, off, hr, hg, hc.one (f := fun x => .bool x) hk⟩
theorem Ils.cell {b : Il} (h : Ils w b) {k : Nat} {x : Int} (hk : b.l[k]? = some x) : ∃ g off, b.a = some ⟨g, off, none⟩ ∧ g < w.heap.size ∧ w.cell? ⟨g, off + k, none⟩ = some (.int .i64 x) ∧ I64 x := by
  obtain ⟨g, off, hr, hg, hc⟩ := h.1.row (by intro h0; rw [h0] at hk; simp at hk)
  exact ⟨g, off, hr, hg, hc.one (f := fun x => .int .i64 x) hk, h.2 x (List.mem_of_getElem? hk)⟩
end

theorem within7_any (n a b : Int) (w : World) : Calls Tryz.prog 86 #[.int .i64 n, .int .i64 a, .int .i64 b] w fun e w' => e = .returned (.bool (decide (a ≤ n) && decide (n ≤ b))) ∧ w' = w := by
  go_enter Tryz.func86, Tryz.ntmps86
  go_wp2
  all_goals go_ret
  all_goals exact ⟨ret_bool (by simp <;> omega), rfl⟩
theorem kind_any (e : Bool) (d : Int) (w : World) : Calls Tryz.prog 123 #[.bool e, .int .i64 d] w fun en w' => en = .returned (.int .i64 (kindOf e d)) ∧ w' = w := by
  cases e
  all_goals go_enter Tryz.func123, Tryz.ntmps123
  all_goals go_wp2
  all_goals go_ret
  all_goals exact ⟨ret_int (by simp [kindOf, *] <;> omega), rfl⟩
theorem rkind_any (e : Bool) (d : Int) (w : World) : Calls Tryz.prog 60 #[.bool e, .int .i64 d] w fun en w' => en = .returned (.int .i64 (kindOf e d)) ∧ w' = w := by
  cases e
  all_goals go_enter Tryz.func60, Tryz.ntmps60
  all_goals go_wp2
  all_goals go_ret
  all_goals exact ⟨ret_int (by simp [kindOf, *] <;> omega), rfl⟩
theorem air_any (n : Int) (w : World) : Calls Tryz.prog 121 #[.int .i64 n] w fun e w' => e = .returned (.int .i64 (air n)) ∧ w' = w := by
  go_enter Tryz.func121, Tryz.ntmps121
  go_wp2
  all_goals go_ret
  all_goals (refine ⟨ret_int ?_, rfl⟩; unfold air; first | (rw [if_pos (by omega)]) | (rw [if_neg (by omega)]))
theorem rair_any (n : Int) (w : World) : Calls Tryz.prog 58 #[.int .i64 n] w fun e w' => e = .returned (.int .i64 (air n)) ∧ w' = w := by
  go_enter Tryz.func58, Tryz.ntmps58
  go_wp2
  all_goals go_ret
  all_goals (refine ⟨ret_int ?_, rfl⟩; unfold air; first | (rw [if_pos (by omega)]) | (rw [if_neg (by omega)]))

theorem bits_out {k d : Int} (h : d < 0 ∨ 8 < d) : bitsOf k d = 0 := if_pos h
theorem bits_1 {d : Int} (h0 : 0 ≤ d) (h8 : d ≤ 8) : bitsOf 1 d = if d = 0 then 40 else 0 := by
  unfold bitsOf; rw [if_neg (by omega)]; by_cases h : d = 0 <;> simp [h]
theorem bits_2 {d : Int} (h0 : 0 ≤ d) (h8 : d ≤ 8) : bitsOf 2 d = 29 + 8 * d := by
  unfold bitsOf; rw [if_neg (by omega)]; simp
theorem bits_3 {d : Int} (h0 : 0 ≤ d) (h8 : d ≤ 8) : bitsOf 3 d = if d = 0 then 54 else 0 := by
  unfold bitsOf; rw [if_neg (by omega)]; by_cases h : d = 0 <;> simp [h]
theorem bits_4 {d : Int} (h0 : 0 ≤ d) (h8 : d ≤ 8) : bitsOf 4 d = 79 + 8 * d := by
  unfold bitsOf; rw [if_neg (by omega)]; simp
theorem bits_no {k d : Int} (h0 : 0 ≤ d) (h8 : d ≤ 8) (h1 : k ≠ 1) (h2 : k ≠ 2) (h3 : k ≠ 3) (h4 : k ≠ 4) : bitsOf k d = 0 := by
  unfold bitsOf; rw [if_neg (by omega)]; simp [h1, h2, h3, h4]
set_option maxHeartbeats 1600000 in
theorem size_any (k d : Int) (w : World) : Calls Tryz.prog 122 #[.int .i64 k, .int .i64 d] w fun e w' => e = .returned (.int .i64 (bitsOf k d)) ∧ w' = w := by
  by_cases h0 : d < 0
  · have HZ := Lib.hid (@bits_out k d (Or.inl h0))
    go_enter Tryz.func122, Tryz.ntmps122
    go_wp2
    go_ret
    exact ⟨ret_int HZ.out.symm, rfl⟩
  by_cases h8 : 8 < d
  · have HZ := Lib.hid (@bits_out k d (Or.inr h8))
    go_enter Tryz.func122, Tryz.ntmps122
    go_wp2
    go_ret
    exact ⟨ret_int HZ.out.symm, rfl⟩
  have h0' : 0 ≤ d := by omega
  have h8' : d ≤ 8 := by omega
  clear h0 h8
  by_cases k1 : k = 1
  · subst k1
    have HZ := Lib.hid (bits_1 h0' h8')
    by_cases hd : d = 0
    · subst hd
      go_enter Tryz.func122, Tryz.ntmps122
      go_wp2
      go_ret
      exact ⟨ret_int (by rw [HZ.out]; rfl), rfl⟩
    · have hd' : (d == 0) = false := by simpa using hd
      have HD := Lib.hid hd
      clear hd
      go_enter Tryz.func122, Tryz.ntmps122
      go_wp2
      go_ret
      exact ⟨ret_int (by rw [HZ.out, if_neg HD.out]), rfl⟩
  by_cases k3 : k = 3
  · subst k3
    have HZ := Lib.hid (bits_3 h0' h8')
    by_cases hd : d = 0
    · subst hd
      go_enter Tryz.func122, Tryz.ntmps122
      go_wp2
      go_ret
      exact ⟨ret_int (by rw [HZ.out]; rfl), rfl⟩
    · have hd' : (d == 0) = false := by simpa using hd
      have HD := Lib.hid hd
      clear hd
      go_enter Tryz.func122, Tryz.ntmps122
      go_wp2
      go_ret
      exact ⟨ret_int (by rw [HZ.out, if_neg HD.out]), rfl⟩
  by_cases k2 : k = 2
  · subst k2
    have HZ := Lib.hid (bits_2 h0' h8')
    go_enter Tryz.func122, Tryz.ntmps122
    go_wp2
    go_ret
    exact ⟨ret_int HZ.out.symm, rfl⟩
  by_cases k4 : k = 4
  · subst k4
    have HZ := Lib.hid (bits_4 h0' h8')
    go_enter Tryz.func122, Tryz.ntmps122
    go_wp2
    go_ret
    exact ⟨ret_int HZ.out.symm, rfl⟩
  have HZ := Lib.hid (bits_no h0' h8' k1 k2 k3 k4)
  have n1 : (k == 1) = false := by simpa using k1
  have n2 : (k == 2) = false := by simpa using k2
  have n3 : (k == 3) = false := by simpa using k3
  have n4 : (k == 4) = false := by simpa using k4
  clear k1 k2 k3 k4
  go_enter Tryz.func122, Tryz.ntmps122
  go_wp2
  go_ret
  exact ⟨ret_int HZ.out.symm, rfl⟩
set_option maxHeartbeats 1600000 in
theorem rsize_any (k d : Int) (w : World) : Calls Tryz.prog 59 #[.int .i64 k, .int .i64 d] w fun e w' => e = .returned (.int .i64 (bitsOf k d)) ∧ w' = w := by
  by_cases h0 : d < 0
  · have HZ := Lib.hid (@bits_out k d (Or.inl h0))
    go_enter Tryz.func59, Tryz.ntmps59
    go_wp2
    go_ret
    exact ⟨ret_int HZ.out.symm, rfl⟩
  by_cases h8 : 8 < d
  · have HZ := Lib.hid (@bits_out k d (Or.inr h8))
    go_enter Tryz.func59, Tryz.ntmps59
    go_wp2
    go_ret
    exact ⟨ret_int HZ.out.symm, rfl⟩
  have h0' : 0 ≤ d := by omega
  have h8' : d ≤ 8 := by omega
  clear h0 h8
  by_cases k1 : k = 1
  · subst k1
    have HZ := Lib.hid (bits_1 h0' h8')
    by_cases hd : d = 0
    · subst hd
      go_enter Tryz.func59, Tryz.ntmps59
      go_wp2
      go_ret
      exact ⟨ret_int (by rw [HZ.out]; rfl), rfl⟩
    · have hd' : (d == 0) = false := by simpa using hd
      have HD := Lib.hid hd
      clear hd
      go_enter Tryz.func59, Tryz.ntmps59
      go_wp2
      go_ret
      exact ⟨ret_int (by rw [HZ.out, if_neg HD.out]), rfl⟩
  by_cases k3 : k = 3
  · subst k3
    have HZ := Lib.hid (bits_3 h0' h8')
    by_cases hd : d = 0
    · subst hd
      go_enter Tryz.func59, Tryz.ntmps59
      go_wp2
      go_ret
      exact ⟨ret_int (by rw [HZ.out]; rfl), rfl⟩
    · have hd' : (d == 0) = false := by simpa using hd
      have HD := Lib.hid hd
      clear hd
      go_enter Tryz.func59, Tryz.ntmps59
      go_wp2
      go_ret
      exact ⟨ret_int (by rw [HZ.out, if_neg HD.out]), rfl⟩
  by_cases k2 : k = 2
  · subst k2
    have HZ := Lib.hid (bits_2 h0' h8')
    go_enter Tryz.func59, Tryz.ntmps59
    go_wp2
    go_ret
    exact ⟨ret_int HZ.out.symm, rfl⟩
  by_cases k4 : k = 4
  · subst k4
    have HZ := Lib.hid (bits_4 h0' h8')
    go_enter Tryz.func59, Tryz.ntmps59
    go_wp2
    go_ret
    exact ⟨ret_int HZ.out.symm, rfl⟩
  have HZ := Lib.hid (bits_no h0' h8' k1 k2 k3 k4)
  have n1 : (k == 1) = false := by simpa using k1
  have n2 : (k == 2) = false := by simpa using k2
  have n3 : (k == 3) = false := by simpa using k3
  have n4 : (k == 4) = false := by simpa using k4
  clear k1 k2 k3 k4
  go_enter Tryz.func59, Tryz.ntmps59
  go_wp2
  go_ret
  exact ⟨ret_int HZ.out.symm, rfl⟩

end Go.Proofs.YtkinhhkodaacjaaGreatDoor
namespace Go.Proofs.YtkinhhkodaacjaaGreatDoor
open Go.RowKit Go.Shelf
open Md

set_option maxRecDepth 100000 in
set_option maxHeartbeats 6400000 in
theorem maxAir_any (m : Me) (w : World) (h : GoodMe w m) : Calls Tryz.prog 105 #[mev m] w fun e w' => e = .returned (.int .i64 (maxAir m)) ∧ Below w.heap.size w w' := by
  have HM : Hid (Rd encMo 3 w (.slice m.ma m.ml.length m.mc) m.ml ∧ ∀ x ∈ m.ml, GoodMo w x) := h.1.2
  have hlen := h.1.2.1.len
  have HS := Lib.hid (fun k x => @airTo_succ m k x)
  have HB := Lib.hid (airTo_bd m)
  have H0 : Hid (airTo m 0 = 34) := by show _ = _; simp [airTo]
  have HE : Hid (maxAir m = airTo m m.ml.length) := rfl
  obtain ⟨nodes, slot, gap, win, drift, delay, cold, ma, mc, ml⟩ := m
  unfold mev
  simp only at HM hlen HS HE ⊢
  clear h
  generalize airTo _ = aT at *
  generalize maxAir _ = mx at *
  have D : Hid (Blk (w.alloc (.cells #[.int .i64 nodes, .int .i64 slot, .int .i64 gap, .int .i64 win, .int .i64 drift, .int .i64 delay, .slice cold.a cold.l.length cold.c, .slice ma ml.length mc] 38)) w.heap.size 38 #[.int .i64 nodes, .int .i64 slot, .int .i64 gap, .int .i64 win, .int .i64 drift, .int .i64 delay, .slice cold.a cold.l.length cold.c, .slice ma ml.length mc]) := (Blk.new' rfl : Blk _ _ _ _)
  have hb1 := Lib.hid (below1 w (.cells #[.int .i64 nodes, .int .i64 slot, .int .i64 gap, .int .i64 win, .int .i64 drift, .int .i64 delay, .slice cold.a cold.l.length cold.c, .slice ma ml.length mc] 38))
  have hsz := fun W => size_any 1 0 W
  rw [show bitsOf 1 0 = 40 from rfl] at hsz
  have har := fun W => air_any 40 W
  rw [show air 40 = 34 from rfl] at har
  go_enter Tryz.func105, Tryz.ntmps105
  go_wp2_with (first | (go_at_call 122; refine (hsz _).mono ?_; rintro e w' ⟨rfl, rfl⟩) | (go_at_call 121; refine (har _).mono ?_; rintro e w' ⟨rfl, rfl⟩))
  clear hsz har
  generalize w.alloc (.cells #[.int .i64 nodes, .int .i64 slot, .int .i64 gap, .int .i64 win, .int .i64 drift, .int .i64 delay, .slice cold.a cold.l.length cold.c, .slice ma ml.length mc] 38) = W0 at *
  go_loopw [3, 14] (fun t i wr => ∃ k : Nat, k ≤ ml.length ∧ i = .int .i64 k ∧ t = .int .i64 (aT k) ∧ Hid (Below W0.heap.size W0 wr)) (fun _ i _ => ml.length - (intOf i).toNat)
  case atStart => exact ⟨0, Nat.zero_le _, rfl, by rw [H0.out], Below.refl _ _⟩
  case round =>
    obtain ⟨k, hk, rfl, rfl, hb⟩ := hrel
    by_cases hlt : k < ml.length
    · obtain ⟨x, hx⟩ : ∃ x, ml[k]? = some x := ⟨_, List.getElem?_eq_getElem hlt⟩
      have hbw := hb1.out.trans (hb.out.mono hb1.out.size)
      have hMo := HM.out.1.below hbw
      obtain ⟨b, off, rfl, hbl, hcc⟩ := hMo.row (by rintro rfl; simp at hlt)
      have e0 : wr.cell? ⟨b, off + k * 3, none⟩ = some (.slice x.d.a x.d.l.length x.d.c) := hcc k x hx 0 _ rfl
      have e1 : wr.cell? ⟨b, off + k * 3 + 1, none⟩ = some (.slice x.e.a x.e.l.length x.e.c) := hcc k x hx 1 _ rfl
      have e2 : wr.cell? ⟨b, off + k * 3 + 2, none⟩ = some (.slice x.n.a x.n.l.length x.n.c) := hcc k x hx 2 _ rfl
      have HX := Lib.hid ((HM.out.2 x (List.mem_of_getElem? hx)).below hbw)
      have HSx := Lib.hid (HS.out k x hx)
      have hA := HB.out k
      have D1 := Blk.keep D.out hb.out
      clear hMo hcc hx hbw
      generalize aT k = A at *
      obtain ⟨⟨da, dc, dl⟩, ⟨ea, ec, el⟩, ⟨na, nc, nl⟩⟩ := x
      simp only at e0 e1 e2
      have hdl := HX.out.1.1.len
      have hel := Rd.len HX.out.2.1
      simp only at hdl hel
      go_upto_region 5 with fail
      have DX : Blk (wr.alloc (.cells #[.slice da dl.length dc, .slice ea el.length ec, .slice na nl.length nc] 86)) wr.heap.size 86 #[.slice da dl.length dc, .slice ea el.length ec, .slice na nl.length nc] := Blk.new' rfl
      have D2 := D1.alloc (.cells #[.slice da dl.length dc, .slice ea el.length ec, .slice na nl.length nc] 86)
      have hb2 := Lib.hid (hb.out.alloc hb.out.size (.cells #[.slice da dl.length dc, .slice ea el.length ec, .slice na nl.length nc] 86))
      replace HX := Lib.hid (HX.out.below (below1 wr (.cells #[.slice da dl.length dc, .slice ea el.length ec, .slice na nl.length nc] 86)))
      clear e0 e1 e2 D1 hb hbl
      generalize wr.heap.size = B5 at *
      generalize wr.alloc (.cells #[.slice da dl.length dc, .slice ea el.length ec, .slice na nl.length nc] 86) = w1 at *
      obtain ⟨e0, e1, e2⟩ := DX.three
      obtain ⟨m0, _, _, _, _, _, _, m7⟩ := D2.eight
      have HMT := Lib.hid (fun k2 d e hd he hn => @modeTo_in nodes A ⟨⟨da, dc, dl⟩, ⟨ea, ec, el⟩, ⟨na, nc, nl⟩⟩ k2 d e hd he hn)
      have HMO := Lib.hid (fun k2 => @modeTo_out nodes A ⟨⟨da, dc, dl⟩, ⟨ea, ec, el⟩, ⟨na, nc, nl⟩⟩ k2)
      have HMB := Lib.hid (fun k2 => modeTo_bd (nodes := nodes) hA.1 hA.2 ⟨⟨da, dc, dl⟩, ⟨ea, ec, el⟩, ⟨na, nc, nl⟩⟩ k2)
      have HM0 := Lib.hid (modeTo_zero nodes A ⟨⟨da, dc, dl⟩, ⟨ea, ec, el⟩, ⟨na, nc, nl⟩⟩)
      have HME : Hid (aT (k + 1) = modeTo nodes A ⟨⟨da, dc, dl⟩, ⟨ea, ec, el⟩, ⟨na, nc, nl⟩⟩ dl.length) := HSx.out
      clear HSx
      simp only at HMT HMO
      generalize modeTo nodes A _ = mT at *
      go_wp2_with fail
      go_loop [3, 21] (fun t i => ∃ k2 : Nat, k2 ≤ dl.length ∧ i = .int .i64 k2 ∧ t = .int .i64 (mT k2)) (fun _ i => dl.length - (intOf i).toNat)
      case atStart => exact ⟨0, Nat.zero_le _, rfl, by rw [HM0.out]⟩
      case round =>
        obtain ⟨k2, hk2, rfl, rfl⟩ := hrel
        by_cases hlt2 : k2 < dl.length
        · obtain ⟨d, hd⟩ : ∃ d, dl[k2]? = some d := ⟨_, List.getElem?_eq_getElem hlt2⟩
          obtain ⟨g1, o1, h1, hg1, c1, hd64⟩ := HX.out.1.cell hd
          simp only at h1
          subst h1
          by_cases hin : (k2 : Int) < nodes ∧ k2 < el.length
          · obtain ⟨hin1, hin2⟩ := hin
            obtain ⟨e, he⟩ : ∃ e, el[k2]? = some e := ⟨_, List.getElem?_eq_getElem hin2⟩
            obtain ⟨g2, o2, h2, hg2, c2⟩ := HX.out.2.1.cell he
            simp only at h2
            subst h2
            have HT := Lib.hid (HMT.out k2 d e hd he hin1)
            have hkd := fun W => kind_any e d W
            have hsz := fun W => size_any (kindOf e d) d W
            have har := fun W => air_any (bitsOf (kindOf e d) d) W
            have HL : Hid (longer (mT k2) e d = if 0 < bitsOf (kindOf e d) d then max (mT k2) (air (bitsOf (kindOf e d) d)) else mT k2) := rfl
            have hk64 : 0 ≤ bitsOf (kindOf e d) d ∧ bitsOf (kindOf e d) d ≤ 143 := size_bd _ _
            clear hd he hg1 hg2
            generalize kindOf e d = kk at *
            generalize bitsOf kk d = z at *
            generalize air z = y at *
            generalize mT k2 = M at *
            generalize longer M e d = M' at *
            by_cases hz : 0 < z
            · by_cases hmy : M < y
              all_goals
                go_wp2_with (first | (go_at_call 123; refine (hkd _).mono ?_; rintro en w' ⟨rfl, rfl⟩) | (go_at_call 122; refine (hsz _).mono ?_; rintro en w' ⟨rfl, rfl⟩) | (go_at_call 121; refine (har _).mono ?_; rintro en w' ⟨rfl, rfl⟩))
                go_round
                case rel => exact ⟨k2 + 1, by omega, by go_num, by rw [HT.out, HL.out, if_pos hz] <;> first | (rw [Int.max_eq_left (by omega)]) | (rw [Int.max_eq_right (by omega)])⟩
                case measure => simp [intOf]; omega
            · go_wp2_with (first | (go_at_call 123; refine (hkd _).mono ?_; rintro en w' ⟨rfl, rfl⟩) | (go_at_call 122; refine (hsz _).mono ?_; rintro en w' ⟨rfl, rfl⟩) | (go_at_call 121; refine (har _).mono ?_; rintro en w' ⟨rfl, rfl⟩))
              go_round
              case rel => exact ⟨k2 + 1, by omega, by go_num, by rw [HT.out, HL.out, if_neg (by omega)]⟩
              case measure => simp [intOf]; omega
          · have HT := Lib.hid (HMO.out k2 hin)
            clear hd
            by_cases hin1 : (k2 : Int) < nodes
            · have hin2 : ¬ k2 < el.length := fun h => hin ⟨hin1, h⟩
              clear hin
              go_wp2
              go_round
              case rel => exact ⟨k2 + 1, by omega, by go_num, by rw [HT.out]⟩
              case measure => simp [intOf]; omega
            · clear hin
              go_wp2
              go_round
              case rel => exact ⟨k2 + 1, by omega, by go_num, by rw [HT.out]⟩
              case measure => simp [intOf]; omega
        · obtain rfl : k2 = dl.length := by omega
          go_wp2
          go_roundw
          case rel => exact ⟨k + 1, by omega, by go_num, by rw [HME.out], hb2.out⟩
          case measure => simp [intOf]; omega
    · obtain rfl : k = ml.length := by omega
      go_wp2
      go_ret
      exact ⟨ret_int HE.out.symm, hb1.out.trans (hb.out.mono hb1.out.size)⟩
set_option maxRecDepth 100000 in
set_option maxHeartbeats 6400000 in
theorem rmaxAir_any (m : Me) (w : World) (h : GoodMe w m) : Calls Tryz.prog 35 #[mev m] w fun e w' => e = .returned (.int .i64 (maxAir m)) ∧ Below w.heap.size w w' := by
  have HM : Hid (Rd encMo 3 w (.slice m.ma m.ml.length m.mc) m.ml ∧ ∀ x ∈ m.ml, GoodMo w x) := h.1.2
  have hlen := h.1.2.1.len
  have HS := Lib.hid (fun k x => @airTo_succ m k x)
  have HB := Lib.hid (airTo_bd m)
  have H0 : Hid (airTo m 0 = 34) := by show _ = _; simp [airTo]
  have HE : Hid (maxAir m = airTo m m.ml.length) := rfl
  obtain ⟨nodes, slot, gap, win, drift, delay, cold, ma, mc, ml⟩ := m
  unfold mev
  simp only at HM hlen HS HE ⊢
  clear h
  generalize airTo _ = aT at *
  generalize maxAir _ = mx at *
  have D : Hid (Blk (w.alloc (.cells #[.int .i64 nodes, .int .i64 slot, .int .i64 gap, .int .i64 win, .int .i64 drift, .int .i64 delay, .slice cold.a cold.l.length cold.c, .slice ma ml.length mc] 38)) w.heap.size 38 #[.int .i64 nodes, .int .i64 slot, .int .i64 gap, .int .i64 win, .int .i64 drift, .int .i64 delay, .slice cold.a cold.l.length cold.c, .slice ma ml.length mc]) := (Blk.new' rfl : Blk _ _ _ _)
  have hb1 := Lib.hid (below1 w (.cells #[.int .i64 nodes, .int .i64 slot, .int .i64 gap, .int .i64 win, .int .i64 drift, .int .i64 delay, .slice cold.a cold.l.length cold.c, .slice ma ml.length mc] 38))
  have hsz := fun W => rsize_any 1 0 W
  rw [show bitsOf 1 0 = 40 from rfl] at hsz
  have har := fun W => rair_any 40 W
  rw [show air 40 = 34 from rfl] at har
  go_enter Tryz.func35, Tryz.ntmps35
  go_wp2_with (first | (go_at_call 59; refine (hsz _).mono ?_; rintro e w' ⟨rfl, rfl⟩) | (go_at_call 58; refine (har _).mono ?_; rintro e w' ⟨rfl, rfl⟩))
  clear hsz har
  generalize w.alloc (.cells #[.int .i64 nodes, .int .i64 slot, .int .i64 gap, .int .i64 win, .int .i64 drift, .int .i64 delay, .slice cold.a cold.l.length cold.c, .slice ma ml.length mc] 38) = W0 at *
  go_loopw [3, 4] (fun t i wr => ∃ k : Nat, k ≤ ml.length ∧ i = .int .i64 k ∧ t = .int .i64 (aT k) ∧ Hid (Below W0.heap.size W0 wr)) (fun _ i _ => ml.length - (intOf i).toNat)
  case atStart => exact ⟨0, Nat.zero_le _, rfl, by rw [H0.out], Below.refl _ _⟩
  case round =>
    obtain ⟨k, hk, rfl, rfl, hb⟩ := hrel
    have D1 := Blk.keep D.out hb.out
    obtain ⟨m0, _, _, _, _, _, _, m7⟩ := D1.eight
    by_cases hlt : k < ml.length
    · obtain ⟨x, hx⟩ : ∃ x, ml[k]? = some x := ⟨_, List.getElem?_eq_getElem hlt⟩
      have hbw := hb1.out.trans (hb.out.mono hb1.out.size)
      have hMo := HM.out.1.below hbw
      obtain ⟨b, off, rfl, hbl, hcc⟩ := hMo.row (by rintro rfl; simp at hlt)
      have e0 : wr.cell? ⟨b, off + k * 3, none⟩ = some (.slice x.d.a x.d.l.length x.d.c) := hcc k x hx 0 _ rfl
      have e1 : wr.cell? ⟨b, off + k * 3 + 1, none⟩ = some (.slice x.e.a x.e.l.length x.e.c) := hcc k x hx 1 _ rfl
      have e2 : wr.cell? ⟨b, off + k * 3 + 2, none⟩ = some (.slice x.n.a x.n.l.length x.n.c) := hcc k x hx 2 _ rfl
      have HX := Lib.hid ((HM.out.2 x (List.mem_of_getElem? hx)).below hbw)
      have HSx := Lib.hid (HS.out k x hx)
      have hA := HB.out k
      clear hMo hcc hx hbw
      generalize aT k = A at *
      obtain ⟨⟨da, dc, dl⟩, ⟨ea, ec, el⟩, ⟨na, nc, nl⟩⟩ := x
      simp only at e0 e1 e2
      have hdl := HX.out.1.1.len
      have hel := Rd.len HX.out.2.1
      simp only at hdl hel
      go_upto_region 6 with fail
      have DX : Blk (wr.alloc (.cells #[.slice da dl.length dc, .slice ea el.length ec, .slice na nl.length nc] 86)) wr.heap.size 86 #[.slice da dl.length dc, .slice ea el.length ec, .slice na nl.length nc] := Blk.new' rfl
      have D2 := D1.alloc (.cells #[.slice da dl.length dc, .slice ea el.length ec, .slice na nl.length nc] 86)
      have hb2 := Lib.hid (hb.out.alloc hb.out.size (.cells #[.slice da dl.length dc, .slice ea el.length ec, .slice na nl.length nc] 86))
      replace HX := Lib.hid (HX.out.below (below1 wr (.cells #[.slice da dl.length dc, .slice ea el.length ec, .slice na nl.length nc] 86)))
      clear e0 e1 e2 D1 hb hbl m0 m7
      generalize wr.heap.size = B5 at *
      generalize wr.alloc (.cells #[.slice da dl.length dc, .slice ea el.length ec, .slice na nl.length nc] 86) = w1 at *
      have HMT := Lib.hid (fun k2 d e hd he hn => @modeTo_in nodes A ⟨⟨da, dc, dl⟩, ⟨ea, ec, el⟩, ⟨na, nc, nl⟩⟩ k2 d e hd he hn)
      have HMO := Lib.hid (fun k2 => @modeTo_out nodes A ⟨⟨da, dc, dl⟩, ⟨ea, ec, el⟩, ⟨na, nc, nl⟩⟩ k2)
      have HMB := Lib.hid (fun k2 => modeTo_bd (nodes := nodes) hA.1 hA.2 ⟨⟨da, dc, dl⟩, ⟨ea, ec, el⟩, ⟨na, nc, nl⟩⟩ k2)
      have HM0 := Lib.hid (modeTo_zero nodes A ⟨⟨da, dc, dl⟩, ⟨ea, ec, el⟩, ⟨na, nc, nl⟩⟩)
      have HMN := Lib.hid (fun k2 hin => @modeTo_end nodes A ⟨⟨da, dc, dl⟩, ⟨ea, ec, el⟩, ⟨na, nc, nl⟩⟩ k2 hin)
      have HME : Hid (aT (k + 1) = modeTo nodes A ⟨⟨da, dc, dl⟩, ⟨ea, ec, el⟩, ⟨na, nc, nl⟩⟩ dl.length) := HSx.out
      clear HSx
      unfold modeAir at HMN
      simp only at HMT HMO HMN
      generalize modeTo nodes A _ = mT at *
      go_wp2_with fail
      go_loopw [3, 6] (fun t i wq => ∃ k2 : Nat, k2 ≤ dl.length ∧ i = .int .i64 k2 ∧ t = .int .i64 (mT k2) ∧ Hid (Below w1.heap.size w1 wq)) (fun _ i _ => dl.length - (intOf i).toNat)
      case atStart => exact ⟨0, Nat.zero_le _, rfl, by rw [HM0.out], Below.refl _ _⟩
      case round =>
        obtain ⟨k2, hk2, rfl, rfl, hb5⟩ := hrel
        have D3 := Blk.keep D2 hb5.out
        have DX3 := Blk.keep DX hb5.out
        have HX3 := Lib.hid (HX.out.below hb5.out)
        obtain ⟨e0, e1, e2⟩ := DX3.three
        obtain ⟨m0, _, _, _, _, _, _, m7⟩ := D3.eight
        by_cases hin : k2 < dl.length ∧ k2 < el.length ∧ (k2 : Int) < nodes
        · obtain ⟨hlt2, hin2, hin1⟩ := hin
          obtain ⟨d, hd⟩ : ∃ d, dl[k2]? = some d := ⟨_, List.getElem?_eq_getElem hlt2⟩
          obtain ⟨g1, o1, h1, hg1, c1, hd64⟩ := HX3.out.1.cell hd
          simp only at h1
          subst h1
          obtain ⟨e, he⟩ : ∃ e, el[k2]? = some e := ⟨_, List.getElem?_eq_getElem hin2⟩
          obtain ⟨g2, o2, h2, hg2, c2⟩ := HX3.out.2.1.cell he
          simp only at h2
          subst h2
          have HT := Lib.hid (HMT.out k2 d e hd he hin1)
          have hkd := fun W => rkind_any e d W
          have hsz := fun W => rsize_any (kindOf e d) d W
          have har := fun W => rair_any (bitsOf (kindOf e d) d) W
          have HL : Hid (longer (mT k2) e d = if 0 < bitsOf (kindOf e d) d then max (mT k2) (air (bitsOf (kindOf e d) d)) else mT k2) := rfl
          have hk64 : 0 ≤ bitsOf (kindOf e d) d ∧ bitsOf (kindOf e d) d ≤ 143 := size_bd _ _
          have hi2 : (k2 : Int) < (el.length : Int) := by omega
          have hi1 : (k2 : Int) < (dl.length : Int) := by omega
          clear hd he hg1 hg2
          generalize kindOf e d = kk at *
          generalize bitsOf kk d = z at *
          generalize air z = y at *
          generalize mT k2 = M at *
          generalize longer M e d = M' at *
          go_upto_region 9 with fail
          go_quiet ((first | (go_at_call 60; exact Calls.quiet_of_same (hkd _)) | (go_at_call 59; exact Calls.quiet_of_same (hsz _))))
          by_cases hz : 0 < z
          · by_cases hmy : M < y
            all_goals
              go_wp2_with (go_at_call 58; refine (har _).mono ?_; rintro en w' ⟨rfl, rfl⟩)
              go_roundw
              case rel => exact ⟨k2 + 1, by omega, by go_num, by rw [HT.out, HL.out, if_pos hz] <;> first | (rw [Int.max_eq_left (by omega)]) | (rw [Int.max_eq_right (by omega)]), below_drewN hb5.out _⟩
              case measure => simp [intOf]; omega
          · go_wp2
            go_roundw
            case rel => exact ⟨k2 + 1, by omega, by go_num, by rw [HT.out, HL.out, if_neg (by omega)], below_drewN hb5.out _⟩
            case measure => simp [intOf]; omega
        · have HE2 := Lib.hid (HMN.out k2 hin)
          by_cases h1 : k2 < dl.length
          · by_cases h2 : k2 < el.length
            · have h3 : ¬ (k2 : Int) < nodes := fun h3 => hin ⟨h1, h2, h3⟩
              clear hin
              go_wp2
              go_roundw
              case rel => exact ⟨k + 1, by omega, by go_num, by rw [HME.out, ← HE2.out], hb2.out.trans (hb5.out.mono hb2.out.size)⟩
              case measure => simp [intOf]; omega
            · clear hin
              go_wp2
              go_roundw
              case rel => exact ⟨k + 1, by omega, by go_num, by rw [HME.out, ← HE2.out], hb2.out.trans (hb5.out.mono hb2.out.size)⟩
              case measure => simp [intOf]; omega
          · clear hin
            go_wp2
            go_roundw
            case rel => exact ⟨k + 1, by omega, by go_num, by rw [HME.out, ← HE2.out], hb2.out.trans (hb5.out.mono hb2.out.size)⟩
            case measure => simp [intOf]; omega
    · obtain rfl : k = ml.length := by omega
      go_wp2
      go_ret
      exact ⟨ret_int HE.out.symm, hb1.out.trans (hb.out.mono hb1.out.size)⟩
end Go.Proofs.YtkinhhkodaacjaaGreatDoor
namespace Go.Proofs.YtkinhhkodaacjaaGreatDoor
open Go.RowKit Go.Shelf
open Md

theorem trues_snoc {l : List Bool} {k : Nat} {x : Bool} (hx : l[k]? = some x) : trues (l.take (k + 1)) = trues (l.take k) + if x then 1 else 0 := by
  unfold trues
  rw [countP_snoc _ hx]
  rfl

set_option maxRecDepth 100000 in
set_option maxHeartbeats 6400000 in
theorem counts_any (m : Me) (w : World) (h : GoodMe w m) : Calls Tryz.prog 82 #[mev m] w fun e w' => e = .returned (.bool (okCounts m)) ∧ Below w.heap.size w w' := by
  have HC := Lib.hid h.1.1
  have hlen := Rd.len h.1.1
  have hml := h.1.2.1.len
  have HO : Hid (okCounts m = (decide (4 ≤ m.nodes) && decide (m.nodes ≤ 8) && decide (1 ≤ m.ml.length) && decide (m.ml.length ≤ 4) && decide ((m.cold.l.length : Int) = m.nodes) && decide (2 ≤ trues m.cold.l))) := rfl
  obtain ⟨nodes, slot, gap, win, drift, delay, ⟨a, c, l⟩, ma, mc, ml⟩ := m
  unfold mev
  simp only at hlen HO hml ⊢
  clear h
  generalize okCounts _ = z at *
  generalize ml.length = ML at *
  have D : Hid (Blk (w.alloc (.cells #[.int .i64 nodes, .int .i64 slot, .int .i64 gap, .int .i64 win, .int .i64 drift, .int .i64 delay, .slice a l.length c, .slice ma ML mc] 38)) w.heap.size 38 #[.int .i64 nodes, .int .i64 slot, .int .i64 gap, .int .i64 win, .int .i64 drift, .int .i64 delay, .slice a l.length c, .slice ma ML mc]) := (Blk.new' rfl : Blk _ _ _ _)
  have hb1 := Lib.hid (below1 w (.cells #[.int .i64 nodes, .int .i64 slot, .int .i64 gap, .int .i64 win, .int .i64 drift, .int .i64 delay, .slice a l.length c, .slice ma ML mc] 38))
  replace HC := Lib.hid (HC.out.below hb1.out)
  have hw1 := fun n a b W => within7_any n a b W
  go_enter Tryz.func82, Tryz.ntmps82
  go_wp2_with fail
  generalize w.alloc (.cells #[.int .i64 nodes, .int .i64 slot, .int .i64 gap, .int .i64 win, .int .i64 drift, .int .i64 delay, .slice a l.length c, .slice ma ML mc] 38) = W0 at *
  obtain ⟨m0, _, _, _, _, _, m6, m7⟩ := D.out.eight
  go_loop [3, 9] (fun n i => ∃ k : Nat, k ≤ l.length ∧ i = .int .i64 k ∧ n = .int .i64 ((trues (l.take k) : Nat) : Int)) (fun _ i => l.length - (intOf i).toNat)
  case atStart => exact ⟨0, Nat.zero_le _, rfl, rfl⟩
  case round =>
    obtain ⟨k, hk, rfl, rfl⟩ := hrel
    by_cases hlt : k < l.length
    · obtain ⟨x, hx⟩ : ∃ x, l[k]? = some x := ⟨_, List.getElem?_eq_getElem hlt⟩
      obtain ⟨g, off, h1, hg, c0⟩ := HC.out.cell hx
      simp only at h1
      subst h1
      have HS := Lib.hid (trues_snoc hx)
      have hle : trues (l.take k) ≤ k := Nat.le_trans List.countP_le_length (List.length_take_le _ _)
      generalize trues (l.take k) = n at *
      clear hx
      cases x
      all_goals
        go_wp2
        go_round
        case rel => exact ⟨k + 1, by omega, by go_num, by rw [HS.out]; go_num⟩
        case measure => simp [intOf]; omega
    · obtain rfl : k = l.length := by omega
      have HT : Hid (trues (l.take l.length) = trues l) := by show _ = _; rw [List.take_length]
      have htl : trues l ≤ l.length := List.countP_le_length
      rw [HT.out]
      generalize trues l = T at *
      by_cases h1 : 4 ≤ nodes ∧ nodes ≤ 8
      · obtain ⟨h1, h2⟩ := h1
        have q1 : (decide (4 ≤ nodes) && decide (nodes ≤ 8)) = true := by simp [h1, h2]
        have HW := Lib.hid (hw1 nodes 4 8 W0)
        rw [q1] at HW
        clear q1 hw1
        by_cases h3 : 1 ≤ ML ∧ ML ≤ 4
        · obtain ⟨h3, h4⟩ := h3
          have q2 : (decide ((1 : Int) ≤ (ML : Int)) && decide ((ML : Int) ≤ 4)) = true := by simp; omega
          have HW2 := Lib.hid (within7_any (ML : Int) 1 4 W0)
          rw [q2] at HW2
          clear q2
          by_cases h5 : (l.length : Int) = nodes
          · have q3 : ((l.length : Int) == nodes) = true := by simpa using h5
            have HQ := Lib.hid h5
            clear h5
            go_wp2_with fail
            refine HW.out.mono ?_
            rintro e w' ⟨rfl, rfl⟩
            go_wp2_with fail
            refine HW2.out.mono ?_
            rintro e w' ⟨rfl, rfl⟩
            go_wp2
            go_ret
            exact ⟨ret_bool (by rw [HO.out, Bool.eq_iff_iff]; simp [HQ.out]; omega), hb1.out⟩
          · have q3 : ((l.length : Int) == nodes) = false := by simpa using h5
            have HQ := Lib.hid h5
            clear h5
            go_wp2_with fail
            refine HW.out.mono ?_
            rintro e w' ⟨rfl, rfl⟩
            go_wp2_with fail
            refine HW2.out.mono ?_
            rintro e w' ⟨rfl, rfl⟩
            go_wp2
            go_ret
            exact ⟨ret_bool (by rw [HO.out]; simp [HQ.out]), hb1.out⟩
        · have q2 : (decide ((1 : Int) ≤ (ML : Int)) && decide ((ML : Int) ≤ 4)) = false := by simp; omega
          have HW2 := Lib.hid (within7_any (ML : Int) 1 4 W0)
          rw [q2] at HW2
          have HN := Lib.hid h3
          clear q2 h3
          go_wp2_with fail
          refine HW.out.mono ?_
          rintro e w' ⟨rfl, rfl⟩
          go_wp2_with fail
          refine HW2.out.mono ?_
          rintro e w' ⟨rfl, rfl⟩
          go_wp2
          go_ret
          exact ⟨ret_bool (by rw [HO.out]; have := HN.out; simp; omega), hb1.out⟩
      · have q1 : (decide (4 ≤ nodes) && decide (nodes ≤ 8)) = false := by simp; omega
        have HW := Lib.hid (hw1 nodes 4 8 W0)
        rw [q1] at HW
        have HN := Lib.hid h1
        clear q1 hw1 h1
        go_wp2_with fail
        refine HW.out.mono ?_
        rintro e w' ⟨rfl, rfl⟩
        go_wp2
        go_ret
        exact ⟨ret_bool (by rw [HO.out]; have := HN.out; simp; omega), hb1.out⟩

theorem okMode_len {m : Me} {x : Mo} (h : ¬ ((x.d.l.length : Int) = m.nodes ∧ (x.e.l.length : Int) = m.nodes ∧ x.n.l.length = m.ml.length)) : okMode m x = false := by
  unfold okMode
  rw [Bool.eq_false_iff]
  simp only [ne_eq, Bool.and_eq_true, decide_eq_true_eq]
  exact fun h' => h ⟨h'.1.1.1, h'.1.1.2, h'.1.2⟩
theorem okMode_all {m : Me} {x : Mo} (h1 : (x.d.l.length : Int) = m.nodes) (h2 : (x.e.l.length : Int) = m.nodes) (h3 : x.n.l.length = m.ml.length) : okMode m x = (List.range x.d.l.length).all (okAt m x) := by
  unfold okMode
  simp [h1, h2, h3]
theorem range_all_succ (p : Nat → Bool) (k : Nat) : (List.range (k + 1)).all p = ((List.range k).all p && p k) := by
  rw [List.range_succ, List.all_append]; simp
theorem range_all_lt {p : Nat → Bool} {n k : Nat} (hk : k < n) (h : p k = false) : (List.range n).all p = false := by
  rw [Bool.eq_false_iff]
  intro h'
  have := List.all_eq_true.1 h' k (List.mem_range.2 hk)
  rw [h] at this
  cases this
end Go.Proofs.YtkinhhkodaacjaaGreatDoor
