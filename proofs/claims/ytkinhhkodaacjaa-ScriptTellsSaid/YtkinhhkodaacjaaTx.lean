/- Numbers in decimal digits, bytes as words: plain laws. (Text of no seat: Ytkinhhkodaacjaa stands for the seat's name.) -/
import Derived.WalkKit
namespace Go.Proofs.Ytkinhhkodaacjaa

/-- A number's decimal digits. -/
def decN (u : Nat) : List UInt8 := if u < 10 then [UInt8.ofNat (48 + u)] else decN (u / 10) ++ [UInt8.ofNat (48 + u % 10)]
termination_by u
decreasing_by omega
theorem decN_small {u : Nat} (h : u < 10) : decN u = [UInt8.ofNat (48 + u)] := by rw [decN, if_pos h]
theorem decN_step {u : Nat} (h : ¬ u < 10) : decN u = decN (u / 10) ++ [UInt8.ofNat (48 + u % 10)] := by rw [decN, if_neg h]
/-- .. and of an integer. -/
def decZ (n : Int) : List UInt8 := if n < 0 then 45 :: decN n.natAbs else decN n.natAbs
theorem decZ_neg {n : Int} (h : n < 0) : decZ n = 45 :: decN n.natAbs := if_pos h
theorem decZ_pos {n : Int} (h : ¬ n < 0) : decZ n = decN n.natAbs := if_neg h
/-- A decimal digit's byte. -/
def isDig (c : UInt8) : Bool := decide (48 ≤ c.toNat) && decide (c.toNat ≤ 57)
theorem dig_toNat {u : Nat} (h : u < 10) : (UInt8.ofNat (48 + u)).toNat = 48 + u := by
  rw [UInt8.toNat_ofNat']; omega
theorem isDig_dig {u : Nat} (h : u < 10) : isDig (UInt8.ofNat (48 + u)) = true := by
  unfold isDig; rw [dig_toNat h]; simp; omega
theorem decN_digs : ∀ (u : Nat), ∀ c ∈ decN u, isDig c = true := by
  intro u
  induction u using Nat.strongRecOn with
  | _ u ih =>
    intro c hc
    by_cases h : u < 10
    · rw [decN_small h] at hc; rw [List.mem_singleton.1 hc]; exact isDig_dig h
    · rw [decN_step h] at hc
      rcases List.mem_append.1 hc with hc | hc
      · exact ih (u / 10) (by omega) c hc
      · rw [List.mem_singleton.1 hc]; exact isDig_dig (by omega)
theorem decN_ne (u : Nat) : decN u ≠ [] := by
  by_cases h : u < 10
  · rw [decN_small h]; simp
  · rw [decN_step h]; simp
theorem decN_len : ∀ (k u : Nat), 1 ≤ k → u < 10 ^ k → (decN u).length ≤ k
  | 0, u, h, _ => by omega
  | k + 1, u, _, hu => by
    by_cases h : u < 10
    · rw [decN_small h]; simp
    · rw [decN_step h]
      have hk : 1 ≤ k := by
        rcases k with _ | k
        · simp at hu; omega
        · omega
      have := decN_len k (u / 10) hk (by rw [Nat.pow_succ] at hu; omega)
      simp; omega
/-- What digits say. -/
def valN (l : List UInt8) : Nat := l.foldl (fun a c => 10 * a + (c.toNat - 48)) 0
theorem valN_snoc (l : List UInt8) (c : UInt8) : valN (l ++ [c]) = 10 * valN l + (c.toNat - 48) := by simp [valN]
theorem valN_decN : ∀ u, valN (decN u) = u := by
  intro u
  induction u using Nat.strongRecOn with
  | _ u ih =>
    by_cases h : u < 10
    · rw [decN_small h]; show 10 * 0 + ((UInt8.ofNat (48 + u)).toNat - 48) = u; rw [dig_toNat h]; omega
    · rw [decN_step h, valN_snoc, ih (u / 10) (by omega), dig_toNat (by omega)]; omega
theorem decN_inj {u v : Nat} (h : decN u = decN v) : u = v := by rw [← valN_decN u, h, valN_decN]
theorem decN_head (u : Nat) : (decN u).head? ≠ some 45 := by
  intro h
  have := decN_digs u 45 (List.mem_of_mem_head? (by rw [h]; rfl))
  simp [isDig] at this
theorem decZ_inj {m n : Int} (h : decZ m = decZ n) : m = n := by
  by_cases h1 : m < 0 <;> by_cases h2 : n < 0
  · rw [decZ_neg h1, decZ_neg h2] at h
    have := decN_inj (List.cons.inj h).2
    omega
  · rw [decZ_neg h1, decZ_pos h2] at h
    exact absurd (by rw [← h]; rfl) (decN_head n.natAbs)
  · rw [decZ_pos h1, decZ_neg h2] at h
    exact absurd (by rw [h]; rfl) (decN_head m.natAbs)
  · rw [decZ_pos h1, decZ_pos h2] at h
    have := decN_inj h
    omega
theorem decZ_len {n : Int} (h1 : -9223372036854775808 ≤ n) (h2 : n ≤ 9223372036854775807) : (decZ n).length ≤ 20 := by
  have := decN_len 19 n.natAbs (by omega) (by have : (10:Nat) ^ 19 = 10000000000000000000 := rfl; omega)
  by_cases h : n < 0
  · rw [decZ_neg h]; simp; omega
  · rw [decZ_pos h]; omega
theorem decZ_ne (n : Int) : decZ n ≠ [] := by
  by_cases h : n < 0
  · rw [decZ_neg h]; simp
  · rw [decZ_pos h]; exact decN_ne _
/-- No blank, no line's end in a number. -/
theorem decZ_chars (n : Int) : ∀ c ∈ decZ n, c = 45 ∨ isDig c = true := by
  intro c hc
  by_cases h : n < 0
  · rw [decZ_neg h] at hc
    rcases List.mem_cons.1 hc with h | h
    · exact .inl h
    · exact .inr (decN_digs _ c h)
  · rw [decZ_pos h] at hc
    exact .inr (decN_digs _ c hc)
theorem decZ_no (n : Int) (c : UInt8) (h1 : c ≠ 45) (h2 : isDig c = false) : c ∉ decZ n := fun h => by
  rcases decZ_chars n c h with h | h
  · exact h1 h
  · rw [h2] at h; simp at h
/-- the loop's round: a digit goes ahead of what is there. -/
theorem dec_round {u0 u : Nat} {acc : List UInt8} (h : decN u ++ acc = decN u0) : if u / 10 = 0 then UInt8.ofNat (48 + u % 10) :: acc = decN u0 else decN (u / 10) ++ (UInt8.ofNat (48 + u % 10) :: acc) = decN u0 := by
  by_cases h0 : u / 10 = 0
  · rw [if_pos h0, ← h, decN_small (by omega), Nat.mod_eq_of_lt (by omega)]; rfl
  · rw [if_neg h0, ← h, decN_step (u := u) (by omega)]; simp
/-- A hexadecimal digit's byte. -/
def hexC (k : Nat) : UInt8 := if k < 10 then UInt8.ofNat (48 + k) else UInt8.ofNat (87 + k)
/-- Bytes as a word. -/
def hexL : List UInt8 → List UInt8
  | [] => []
  | c :: l => hexC (c.toNat / 16) :: hexC (c.toNat % 16) :: hexL l
def hexW (l : List UInt8) : List UInt8 := 120 :: hexL l
theorem hexL_append : ∀ l m : List UInt8, hexL (l ++ m) = hexL l ++ hexL m
  | [], m => rfl
  | c :: l, m => by simp [hexL, hexL_append l m]
theorem hexL_len : ∀ l : List UInt8, (hexL l).length = 2 * l.length
  | [] => rfl
  | c :: l => by simp [hexL, hexL_len l]; omega
theorem hexC_inj : ∀ {a b : Nat}, a < 16 → b < 16 → hexC a = hexC b → a = b := by
  intro a b ha hb h
  have : ∀ a < 16, ∀ b < 16, hexC a = hexC b → a = b := by decide
  exact this a ha b hb h
theorem hexL_inj : ∀ {l m : List UInt8}, hexL l = hexL m → l = m
  | [], [], _ => rfl
  | [], c :: m, h => by simp [hexL] at h
  | c :: l, [], h => by simp [hexL] at h
  | c :: l, d :: m, h => by
    simp only [hexL, List.cons.injEq] at h
    obtain ⟨h1, h2, h3⟩ := h
    have hc := c.toNat_lt; have hd := d.toNat_lt
    have e1 := hexC_inj (by omega) (by omega) h1
    have e2 := hexC_inj (by omega) (by omega) h2
    rw [hexL_inj h3, show c = d from UInt8.toNat_inj.1 (by omega)]
theorem hexC_chars : ∀ k < 16, isDig (hexC k) = true ∨ (97 ≤ (hexC k).toNat ∧ (hexC k).toNat ≤ 102) := by decide
end Go.Proofs.Ytkinhhkodaacjaa
