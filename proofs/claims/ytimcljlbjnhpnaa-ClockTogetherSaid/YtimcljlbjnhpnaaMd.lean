/- The plain law of lists (chapter 7): how long frames last, which lists may be. -/
import Derived.Test.YtimcljlbjnhpnaaBlk
namespace Go.Proofs.Ytimcljlbjnhpnaa
namespace Md

def kindOf (e : Bool) (d : Int) : Int := if e then (if 0 < d then 4 else 3) else 2
def bitsOf (k d : Int) : Int := if d < 0 ∨ 8 < d then 0 else if k = 1 ∧ d = 0 then 40 else if k = 3 ∧ d = 0 then 54 else if k = 2 then 29 + 8 * d else if k = 4 then 79 + 8 * d else 0
def air (n : Int) : Int := if n < 0 ∨ 4095 < n then 0 else 14 + (n + 1) / 2
def fsz (e : Bool) (d : Int) : Int := bitsOf (kindOf e d) d
theorem size_bd (k d : Int) : 0 ≤ bitsOf k d ∧ bitsOf k d ≤ 143 := by
  unfold bitsOf
  repeat (split; · omega)
  omega
theorem air_bd (n : Int) : 0 ≤ air n ∧ air n ≤ 2062 := by
  unfold air; split <;> omega
def longer (most : Int) (e : Bool) (d : Int) : Int := if 0 < fsz e d then max most (air (fsz e d)) else most
theorem air_fsz (e : Bool) (d : Int) : 0 ≤ air (fsz e d) ∧ air (fsz e d) ≤ 86 := by
  have := size_bd (kindOf e d) d
  unfold fsz air
  split <;> omega
theorem longer_bd {most : Int} (h0 : 0 ≤ most) (h1 : most ≤ 86) (e : Bool) (d : Int) : 0 ≤ longer most e d ∧ longer most e d ≤ 86 := by
  have := air_fsz e d
  unfold longer
  split <;> omega

/-- Truths as they lie. -/
structure Bl where
  a : Option Addr
  c : Nat
  l : List Bool
/-- Integers as they lie. -/
structure Il where
  a : Option Addr
  c : Nat
  l : List Int
/-- A mode. -/
structure Mo where
  d : Il
  e : Bl
  n : Bl
/-- A list. -/
structure Me where
  nodes : Int
  slot : Int
  gap : Int
  win : Int
  drift : Int
  delay : Int
  cold : Bl
  ma : Option Addr
  mc : Nat
  ml : List Mo

/-- The longest of the first k frames of a mode, and of what there was. -/
def modeTo (nodes most : Int) (x : Mo) (k : Nat) : Int := (((x.e.l.zip x.d.l).take nodes.toNat).take k).foldl (fun m p => longer m p.1 p.2) most
def modeAir (nodes most : Int) (x : Mo) : Int := modeTo nodes most x x.d.l.length
theorem modeTo_bd {nodes most : Int} (h0 : 0 ≤ most) (h1 : most ≤ 86) (x : Mo) (k : Nat) : 0 ≤ modeTo nodes most x k ∧ modeTo nodes most x k ≤ 86 := by
  unfold modeTo
  generalize ((x.e.l.zip x.d.l).take nodes.toNat).take k = l
  induction l generalizing most with
  | nil => exact ⟨h0, h1⟩
  | cons p l ih => exact ih (longer_bd h0 h1 p.1 p.2).1 (longer_bd h0 h1 p.1 p.2).2
theorem modeTo_zero (nodes most : Int) (x : Mo) : modeTo nodes most x 0 = most := by simp [modeTo]
theorem modeTo_in {nodes most : Int} {x : Mo} {k : Nat} {d : Int} {e : Bool} (hd : x.d.l[k]? = some d) (he : x.e.l[k]? = some e) (hn : (k : Int) < nodes) :
    modeTo nodes most x (k + 1) = longer (modeTo nodes most x k) e d := by
  have hz : ((x.e.l.zip x.d.l).take nodes.toNat)[k]? = some (e, d) := by
    rw [List.getElem?_take, if_pos (by omega), List.getElem?_zip_eq_some]
    exact ⟨he, hd⟩
  unfold modeTo
  rw [take_snoc hz, List.foldl_append]
  rfl
theorem modeTo_out {nodes most : Int} {x : Mo} {k : Nat} (h : ¬ ((k : Int) < nodes ∧ k < x.e.l.length)) : modeTo nodes most x (k + 1) = modeTo nodes most x k := by
  have hl : ((x.e.l.zip x.d.l).take nodes.toNat).length ≤ k := by
    rw [List.length_take, List.length_zip]
    omega
  unfold modeTo
  rw [List.take_of_length_le hl, List.take_of_length_le (by omega)]
theorem modeTo_end {nodes most : Int} {x : Mo} {k : Nat} (h : ¬ (k < x.d.l.length ∧ k < x.e.l.length ∧ (k : Int) < nodes)) : modeTo nodes most x k = modeAir nodes most x := by
  have hl : ((x.e.l.zip x.d.l).take nodes.toNat).length ≤ k := by
    rw [List.length_take, List.length_zip]
    omega
  have hl2 : ((x.e.l.zip x.d.l).take nodes.toNat).length ≤ x.d.l.length := by
    rw [List.length_take, List.length_zip]
    omega
  unfold modeAir modeTo
  rw [List.take_of_length_le hl, List.take_of_length_le hl2]
def airTo (m : Me) (k : Nat) : Int := (m.ml.take k).foldl (modeAir m.nodes) 34
def maxAir (m : Me) : Int := airTo m m.ml.length
theorem airTo_succ {m : Me} {k : Nat} {x : Mo} (h : m.ml[k]? = some x) : airTo m (k + 1) = modeAir m.nodes (airTo m k) x := by
  unfold airTo; rw [take_snoc h, List.foldl_append]; rfl
theorem airTo_bd (m : Me) (k : Nat) : 0 ≤ airTo m k ∧ airTo m k ≤ 86 := by
  unfold airTo
  have : ∀ (l : List Mo) (z : Int), 0 ≤ z → z ≤ 86 → 0 ≤ l.foldl (modeAir m.nodes) z ∧ l.foldl (modeAir m.nodes) z ≤ 86 := by
    intro l
    induction l with
    | nil => intro z h0 h1; exact ⟨h0, h1⟩
    | cons x l ih => intro z h0 h1; exact ih _ (modeTo_bd h0 h1 x _).1 (modeTo_bd h0 h1 x _).2
  exact this _ _ (by omega) (by omega)

def trues (l : List Bool) : Nat := l.countP id
def okCounts (m : Me) : Bool := decide (4 ≤ m.nodes) && decide (m.nodes ≤ 8) && decide (1 ≤ m.ml.length) && decide (m.ml.length ≤ 4) && decide ((m.cold.l.length : Int) = m.nodes) && decide (2 ≤ trues m.cold.l)
def okAt (m : Me) (x : Mo) (k : Nat) : Bool := decide (0 ≤ x.d.l.getD k 0) && decide (x.d.l.getD k 0 ≤ 8) && (!(m.cold.l.getD k false) || x.e.l.getD k false)
def okMode (m : Me) (x : Mo) : Bool := decide ((x.d.l.length : Int) = m.nodes) && decide ((x.e.l.length : Int) = m.nodes) && decide (x.n.l.length = m.ml.length) && (List.range x.d.l.length).all (okAt m x)
def okM (m : Me) : Bool := okCounts m && m.ml.all (okMode m) && (decide (0 ≤ m.drift) && decide (m.drift ≤ 64) && decide (0 ≤ m.delay) && decide (m.delay ≤ 64) && decide (m.win ≤ 1048576) && decide (m.gap ≤ 1048576) && decide (m.slot ≤ 16777216)) &&
  (decide (16 * m.nodes * m.drift + 16 ≤ m.win) && decide (2 * m.win + 2 * m.delay + 4 ≤ m.gap) && decide (2 * m.gap + maxAir m ≤ m.slot))
def errM (m : Me) : Int := if okM m then 0 else 70
end Md
end Go.Proofs.Ytimcljlbjnhpnaa
