/- The plain law of chapter 11: bits, signals, what is heard, what a receiver makes of it. -/
import Derived.Test.YtehgiagefiakkaaPlain
import Derived.Test.YtehgiagefiakkaaKit
namespace Go.Proofs.Ytehgiagefiakkaa
namespace Sig
open Sched (Sp bad)

/-- Is a bit of a byte 1? (bit 0 is the greatest) -/
def bitOf (c : Int) (i : Nat) : Bool := c.toNat / 2 ^ (7 - i) % 2 == 1
/-- Bits that may not be: N of them in the bytes B. -/
def badBits (n : Int) (B : List Int) : Bool :=
  decide (n < 0) || decide (4096 < n) || !decide ((B.length : Int) = (n + 7) / 8) || (!decide (n % 8 = 0) && !decide ((B.getD (B.length - 1) 0).toNat % 2 ^ (8 - (n % 8).toNat) = 0))
def errB (n : Int) (B : List Int) : Int := if badBits n B then 10 else 0

/-- Some bit of a byte from place r on is 1. -/
def anyFrom (c : Int) (r : Nat) : Bool := (List.range 8).any fun k => decide (r ≤ k) && bitOf c k
theorem anyFrom_all : ∀ c : Fin 256, ∀ r : Fin 9, (List.range 8).any (fun k => decide (r.val ≤ k) && (c.val / 2 ^ (7 - k) % 2 == 1)) = !decide (c.val % 2 ^ (8 - r.val) = 0) := by decide +kernel
theorem anyFrom_mod {c : Int} {r : Nat} (hc : 0 ≤ c ∧ c ≤ 255) (hr : r ≤ 8) : anyFrom c r = !decide (c.toNat % 2 ^ (8 - r) = 0) :=
  anyFrom_all ⟨c.toNat, by omega⟩ ⟨r, by omega⟩

/-- A signal: from whom, when, how strong, its bits: how many, where they lie, which bytes. -/
structure Sg where
  fr : Int
  sp : Sp
  lv : Int
  n : Int
  ba : Option Addr
  bc : Nat
  b : List Int

def badS (s : Sg) : Bool := decide (s.fr < -1) || decide (8 ≤ s.fr) || decide (s.lv < 0) || decide (200 < s.lv) || bad s.sp || badBits s.n s.b
def errS (s : Sg) : Int := if badS s then 110 else 0
def air (n : Int) : Int := if n < 0 ∨ 4095 < n then 0 else 14 + (n + 1) / 2
def whole (s : Sg) : Bool := !badS s && decide (1 ≤ s.n) && decide (s.n ≤ 4095) && decide (s.sp.2 - s.sp.1 = air s.n)
def strong (t : Int) (s : Sg) : Bool := decide (t ≤ s.lv) && decide (1 ≤ s.lv) && !badS s

end Sig
end Go.Proofs.Ytehgiagefiakkaa
