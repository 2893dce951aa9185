/- The text of snaps, and the snaps of a text: plain laws. -/
import Derived.Test.YtkinhhkodaacjaaGreatDoorLA
namespace Go.Proofs.YtkinhhkodaacjaaGreatDoor

/-- What a snap says. -/
structure Sk where
  (r i s tm su : Int)
  bg : Bool
  (t1 t2 t3 t4 t5 m1 m2 m3 m4 m5 m6 m7 hi lf wt : Int)
  out : List UInt8
  ms : List (Int × List UInt8)
def Sk.ints (x : Sk) : List Int := [x.r, x.i, x.s, x.tm, x.su, x.t1, x.t2, x.t3, x.t4, x.t5, x.m1, x.m2, x.m3, x.m4, x.m5, x.m6, x.m7, x.hi, x.lf, x.wt]
def inI (n : Int) : Prop := -9223372036854775808 ≤ n ∧ n ≤ 9223372036854775807
structure Sk.Fits (x : Sk) : Prop where
  ints : ∀ n ∈ x.ints, inI n
  ms : ∀ m ∈ x.ms, inI m.1
  len : inI x.ms.length
def wSnap : List UInt8 := [115, 110, 97, 112]
def wState : List UInt8 := [115, 116, 97, 116, 101]
def wView : List UInt8 := [118, 105, 101, 119]
def wHost : List UInt8 := [104, 111, 115, 116]
def wIn : List UInt8 := [105, 110]
/-- A line of words. -/
def lineW (ws : List (List UInt8)) : List UInt8 := joinB 32 ws ++ [10]
def bitZ (b : Bool) : Int := if b then 1 else 0
def inW (m : Int × List UInt8) : List UInt8 := lineW [wIn, decZ m.1, hexW m.2]
/-- A snap's text. -/
def oneT (x : Sk) : List UInt8 :=
  lineW (wSnap :: [x.r, x.i, x.s, x.tm, bitZ x.bg, x.su].map decZ) ++ (lineW (wState :: [x.t1, x.t2, x.t3, x.t4, x.t5].map decZ) ++ (lineW (wView :: [x.m1, x.m2, x.m3, x.m4, x.m5, x.m6, x.m7].map decZ) ++
    (lineW [wHost, decZ x.hi, decZ x.lf, decZ x.wt, hexW x.out, decZ x.ms.length] ++ x.ms.flatMap inW)))
def printT (l : List Sk) : List UInt8 := l.flatMap oneT

/-- The next line's words. -/
def nextW (r : List UInt8) : Option (List (List UInt8) × List UInt8) := (cutB 10 r).map fun p => (splitB 32 p.1, p.2)
/-- A reader's step: what it finds, or nothing; and the line it stands at. -/
def lineP {α : Type} (f : List (List UInt8) → Option α) (r : List UInt8) (n : Nat) : Option (α × List UInt8) × Nat :=
  match nextW r with
  | none => (none, n + 1)
  | some p => ((f p.1).map fun a => (a, p.2), n + 1)
def numsS : List (List UInt8) → Option (List Int)
  | [] => some []
  | w :: ws => match numS w with
    | some n => (numsS ws).map (n :: ·)
    | none => none
def rowS (first : List UInt8) (k : Nat) (ws : List (List UInt8)) : Option (List Int) := if ws.length = k + 1 ∧ ws.head? = some first then numsS ws.tail else none
def snapS (ws : List (List UInt8)) : Option (List Int) := match rowS wSnap 6 ws with
  | some a => if a[4]? = some 0 ∨ a[4]? = some 1 then some a else none
  | none => none
/-- The host's line: three numbers, bytes, and how many lines follow. -/
def hostS (ws : List (List UInt8)) : Option (List Int × List UInt8 × Nat) := match ws with
  | [w, a, b, c, o, k] => if w = wHost then match numS a, numS b, numS c, unhexW o, numS k with
    | some a, some b, some c, some o, some k => if 0 ≤ k then some ([a, b, c], o, k.toNat) else none
    | _, _, _, _, _ => none
    else none
  | _ => none
def inS (ws : List (List UInt8)) : Option (Int × List UInt8) := match ws with
  | [w, a, d] => if w = wIn then match numS a, unhexW d with
    | some a, some d => some (a, d)
    | _, _ => none
    else none
  | _ => none
def insP : Nat → List UInt8 → Nat → Option (List (Int × List UInt8) × List UInt8) × Nat
  | 0, r, n => (some ([], r), n)
  | k + 1, r, n => match lineP inS r n with
    | (none, n) => (none, n)
    | (some (m, r), n) => match insP k r n with
      | (none, n) => (none, n)
      | (some (ms, r), n) => (some (m :: ms, r), n)
def mkS (a c v h : List Int) (o : List UInt8) (ms : List (Int × List UInt8)) : Option Sk := match a, c, v, h with
  | [r, i, s, tm, b, su], [t1, t2, t3, t4, t5], [m1, m2, m3, m4, m5, m6, m7], [hi, lf, wt] => some ⟨r, i, s, tm, su, decide (b = 1), t1, t2, t3, t4, t5, m1, m2, m3, m4, m5, m6, m7, hi, lf, wt, o, ms⟩
  | _, _, _, _ => none
def snapP (r : List UInt8) (n : Nat) : Option (Sk × List UInt8) × Nat :=
  match lineP snapS r n with
  | (none, n) => (none, n)
  | (some (a, r), n) => match lineP (rowS wState 5) r n with
    | (none, n) => (none, n)
    | (some (c, r), n) => match lineP (rowS wView 7) r n with
      | (none, n) => (none, n)
      | (some (v, r), n) => match lineP hostS r n with
        | (none, n) => (none, n)
        | (some ((h, o, k), r), n) => match insP k r n with
          | (none, n) => (none, n)
          | (some (ms, r), n) => ((mkS a c v h o ms).map fun x => (x, r), n)

theorem lineP_none {α : Type} {f : List (List UInt8) → Option α} {r : List UInt8} {n k : Nat} (h : lineP f r n = (none, k)) : k = n + 1 := by
  unfold lineP at h
  split at h
  · exact (Prod.mk.inj h).2.symm
  · exact (Prod.mk.inj h).2.symm
theorem lineP_some {α : Type} {f : List (List UInt8) → Option α} {r r' : List UInt8} {n k : Nat} {a : α} (h : lineP f r n = (some (a, r'), k)) : k = n + 1 ∧ ∃ ws, f ws = some a ∧ r = lineW ws ++ r' ∧ (∀ w ∈ ws, (32 : UInt8) ∉ w ∧ (10 : UInt8) ∉ w) := by
  unfold lineP at h
  split at h
  · cases (Prod.mk.inj h).1
  · next p hp =>
    obtain ⟨h1, h2⟩ := Prod.mk.inj h
    obtain ⟨b, hb, e⟩ := Option.map_eq_some_iff.1 h1
    simp only [Prod.mk.injEq] at e
    obtain ⟨rfl, rfl⟩ := e
    unfold nextW at hp
    obtain ⟨q, hq, e⟩ := Option.map_eq_some_iff.1 hp
    subst e
    obtain ⟨e1, e2⟩ := cutB_some hq
    refine ⟨h2.symm, _, hb, ?_, fun w hw => ⟨splitB_no w hw, fun h10 => e2 ?_⟩⟩
    · unfold lineW
      simp only [joinB_splitB]
      rw [e1]; simp
    · have := joinB_splitB 32 q.1
      rw [← this]
      exact mem_joinB hw h10
theorem lineP_of {α : Type} {f : List (List UInt8) → Option α} {ws : List (List UInt8)} {a : α} (h : f ws = some a) (hne : ws ≠ []) (hw : ∀ w ∈ ws, (32 : UInt8) ∉ w ∧ (10 : UInt8) ∉ w) (r : List UInt8) (n : Nat) : lineP f (lineW ws ++ r) n = (some (a, r), n + 1) := by
  unfold lineP nextW lineW
  have h10 : (10 : UInt8) ∉ joinB 32 ws := fun h => by
    rcases joinB_mem h with h1 | ⟨w, hw', h1⟩
    · exact absurd h1 (by decide)
    · exact (hw w hw').2 h1
  rw [List.append_assoc, List.singleton_append, cutB_of h10]
  simp only [Option.map_some]
  rw [splitB_joinB hne (fun w hw' => (hw w hw').1), h]
  rfl
theorem numsS_iff : ∀ {ws : List (List UInt8)} {ns : List Int}, numsS ws = some ns ↔ ws = ns.map decZ ∧ ∀ n ∈ ns, inI n
  | [], ns => by
    constructor
    · intro h; simp only [numsS, Option.some.injEq] at h; subst h; exact ⟨rfl, by simp⟩
    · rintro ⟨h, _⟩; cases ns with
      | nil => rfl
      | cons n ns => simp at h
  | w :: ws, ns => by
    unfold numsS
    constructor
    · intro h
      split at h
      · next n hn =>
        obtain ⟨ms, hm, rfl⟩ := Option.map_eq_some_iff.1 h
        obtain ⟨h1, h2⟩ := numsS_iff.1 hm
        obtain ⟨h3, h4⟩ := numS_iff.1 hn
        exact ⟨by rw [h1, h4]; rfl, fun q hq => by
          rcases List.mem_cons.1 hq with rfl | hq
          · exact h3
          · exact h2 q hq⟩
      · cases h
    · rintro ⟨h, hi⟩
      cases ns with
      | nil => simp at h
      | cons n ns =>
        simp only [List.map_cons, List.cons.injEq] at h
        obtain ⟨rfl, h⟩ := h
        rw [numS_decZ (hi n (by simp))]
        simp only
        rw [numsS_iff.2 ⟨h, fun q hq => hi q (by simp [hq])⟩]
        rfl
theorem rowS_iff {first : List UInt8} {k : Nat} {ws : List (List UInt8)} {ns : List Int} : rowS first k ws = some ns ↔ ws = first :: ns.map decZ ∧ ns.length = k ∧ ∀ n ∈ ns, inI n := by
  unfold rowS
  constructor
  · intro h
    split at h
    · next hc =>
      obtain ⟨h1, h2⟩ := numsS_iff.1 h
      cases ws with
      | nil => simp at hc
      | cons w ws =>
        simp only [List.length_cons, List.head?_cons, Option.some.injEq, List.tail_cons] at hc h1
        obtain ⟨hl, rfl⟩ := hc
        exact ⟨by rw [h1], by rw [h1, List.length_map] at hl; omega, h2⟩
    · cases h
  · rintro ⟨rfl, h1, h2⟩
    rw [if_pos ⟨by simp [h1], rfl⟩]
    exact numsS_iff.2 ⟨rfl, h2⟩
theorem snapS_iff {ws : List (List UInt8)} {ns : List Int} : snapS ws = some ns ↔ (ws = wSnap :: ns.map decZ ∧ ns.length = 6 ∧ ∀ n ∈ ns, inI n) ∧ (ns[4]? = some 0 ∨ ns[4]? = some 1) := by
  unfold snapS
  rw [← rowS_iff]
  cases h : rowS wSnap 6 ws with
  | none => simp
  | some a =>
    simp only [Option.some.injEq]
    constructor
    · intro h1
      split at h1
      · next hc => cases h1; exact ⟨rfl, hc⟩
      · cases h1
    · rintro ⟨rfl, hc⟩
      rw [if_pos hc]
theorem hostS_of {a b c k : Int} {o : List UInt8} (ha : inI a) (hb : inI b) (hc : inI c) (hk : inI k) (h0 : 0 ≤ k) : hostS [wHost, decZ a, decZ b, decZ c, hexW o, decZ k] = some ([a, b, c], o, k.toNat) := by
  unfold hostS
  simp only [if_pos, numS_decZ ha, numS_decZ hb, numS_decZ hc, numS_decZ hk, unhexW_iff.2 rfl, h0]
theorem hostS_some {ws : List (List UInt8)} {h : List Int} {o : List UInt8} {k : Nat} (hh : hostS ws = some (h, o, k)) : ∃ a b c : Int, h = [a, b, c] ∧ ws = [wHost, decZ a, decZ b, decZ c, hexW o, decZ k] ∧ inI a ∧ inI b ∧ inI c ∧ inI k := by
  unfold hostS at hh
  split at hh
  · next w a b c o' k' =>
    split at hh
    · next hw =>
      split at hh
      · next a' b' c' o'' k'' h1 h2 h3 h4 h5 =>
        split at hh
        · next h0 =>
          simp only [Option.some.injEq, Prod.mk.injEq] at hh
          obtain ⟨rfl, rfl, rfl⟩ := hh
          obtain ⟨i1, rfl⟩ := numS_iff.1 h1
          obtain ⟨i2, rfl⟩ := numS_iff.1 h2
          obtain ⟨i3, rfl⟩ := numS_iff.1 h3
          obtain ⟨i5, rfl⟩ := numS_iff.1 h5
          have e := unhexW_iff.1 h4
          have e2 : ((k''.toNat : Nat) : Int) = k'' := by omega
          exact ⟨a', b', c', rfl, by rw [hw, e, e2], i1, i2, i3, by rw [e2]; exact i5⟩
        · cases hh
      · cases hh
    · cases hh
  · cases hh
theorem inS_iff {ws : List (List UInt8)} {m : Int × List UInt8} : inS ws = some m ↔ ws = [wIn, decZ m.1, hexW m.2] ∧ inI m.1 := by
  constructor
  · intro hh
    unfold inS at hh
    split at hh
    · next w a d =>
      split at hh
      · next hw =>
        split at hh
        · next a' d' h1 h2 =>
          simp only [Option.some.injEq] at hh
          subst hh
          obtain ⟨i1, rfl⟩ := numS_iff.1 h1
          exact ⟨by rw [hw, unhexW_iff.1 h2], i1⟩
        · cases hh
      · cases hh
    · cases hh
  · rintro ⟨rfl, h⟩
    unfold inS
    simp only [if_pos, numS_decZ h, unhexW_iff.2 rfl]
theorem hexC_no : ∀ k < 16, hexC k ≠ 32 ∧ hexC k ≠ 10 := by decide
theorem hexW_no (b : List UInt8) : (32 : UInt8) ∉ hexW b ∧ (10 : UInt8) ∉ hexW b := by
  have h : ∀ b : List UInt8, (32 : UInt8) ∉ hexL b ∧ (10 : UInt8) ∉ hexL b := fun b => by
    induction b with
    | nil => simp [hexL]
    | cons c l ih =>
      have hc := c.toNat_lt
      have h1 := hexC_no (c.toNat / 16) (by omega)
      have h2 := hexC_no (c.toNat % 16) (by omega)
      simp only [hexL, List.mem_cons, not_or]
      exact ⟨⟨Ne.symm h1.1, Ne.symm h2.1, ih.1⟩, Ne.symm h1.2, Ne.symm h2.2, ih.2⟩
  have := h b
  unfold hexW
  simp only [List.mem_cons, not_or]
  exact ⟨⟨by decide, this.1⟩, by decide, this.2⟩
theorem dec_no (n : Int) : (32 : UInt8) ∉ decZ n ∧ (10 : UInt8) ∉ decZ n := ⟨decZ_no n 32 (by decide) (by decide), decZ_no n 10 (by decide) (by decide)⟩
theorem row_no {first : List UInt8} (hf : (32 : UInt8) ∉ first ∧ (10 : UInt8) ∉ first) (ns : List Int) : ∀ w ∈ first :: ns.map decZ, (32 : UInt8) ∉ w ∧ (10 : UInt8) ∉ w := fun w hw => by
  rcases List.mem_cons.1 hw with rfl | hw
  · exact hf
  · obtain ⟨n, _, rfl⟩ := List.mem_map.1 hw
    exact dec_no n
theorem in_no (m : Int × List UInt8) : ∀ w ∈ [wIn, decZ m.1, hexW m.2], (32 : UInt8) ∉ w ∧ (10 : UInt8) ∉ w := fun w hw => by
  simp only [List.mem_cons, List.not_mem_nil, or_false] at hw
  rcases hw with rfl | rfl | rfl
  · decide
  · exact dec_no _
  · exact hexW_no _
theorem host_no (a b c k : Int) (o : List UInt8) : ∀ w ∈ [wHost, decZ a, decZ b, decZ c, hexW o, decZ k], (32 : UInt8) ∉ w ∧ (10 : UInt8) ∉ w := fun w hw => by
  simp only [List.mem_cons, List.not_mem_nil, or_false] at hw
  rcases hw with rfl | rfl | rfl | rfl | rfl | rfl
  · decide
  · exact dec_no _
  · exact dec_no _
  · exact dec_no _
  · exact hexW_no _
  · exact dec_no _
theorem insP_of : ∀ (ms : List (Int × List UInt8)) (r : List UInt8) (n : Nat), (∀ m ∈ ms, inI m.1) → insP ms.length (ms.flatMap inW ++ r) n = (some (ms, r), n + ms.length)
  | [], r, n, _ => rfl
  | m :: ms, r, n, h => by
    rw [List.length_cons, insP, List.flatMap_cons, List.append_assoc, inW, lineP_of (inS_iff.2 ⟨rfl, h m (by simp)⟩) (by simp) (in_no m)]
    simp only
    rw [insP_of ms r (n + 1) (fun q hq => h q (by simp [hq]))]
    simp only [Prod.mk.injEq, true_and]
    omega
theorem insP_some : ∀ {k : Nat} {r r' : List UInt8} {n n' : Nat} {ms : List (Int × List UInt8)}, insP k r n = (some (ms, r'), n') → ms.length = k ∧ r = ms.flatMap inW ++ r' ∧ ∀ m ∈ ms, inI m.1
  | 0, r, r', n, n', ms, h => by
    simp only [insP, Prod.mk.injEq, Option.some.injEq] at h
    obtain ⟨⟨rfl, rfl⟩, _⟩ := h
    exact ⟨rfl, rfl, by simp⟩
  | k + 1, r, r', n, n', ms, h => by
    rw [insP] at h
    split at h
    · cases (Prod.mk.inj h).1
    · next m r1 n1 h1 =>
      split at h
      · cases (Prod.mk.inj h).1
      · next ms1 r2 n2 h2 =>
        simp only [Prod.mk.injEq, Option.some.injEq] at h
        obtain ⟨⟨rfl, rfl⟩, _⟩ := h
        obtain ⟨_, ws, hf, e, _⟩ := lineP_some h1
        obtain ⟨rfl, hi⟩ := inS_iff.1 hf
        obtain ⟨q1, q2, q3⟩ := insP_some h2
        refine ⟨by simp [q1], by rw [e, q2, List.flatMap_cons, inW, List.append_assoc], fun q hq => ?_⟩
        rcases List.mem_cons.1 hq with rfl | hq
        · exact hi
        · exact q3 q hq
theorem bit_of {b : Int} (h : b = 0 ∨ b = 1) : bitZ (decide (b = 1)) = b := by rcases h with rfl | rfl <;> rfl
theorem bit_back (b : Bool) : decide (bitZ b = 1) = b := by cases b <;> rfl
theorem snapP_of {x : Sk} (hx : x.Fits) (r : List UInt8) (n : Nat) : snapP (oneT x ++ r) n = (some (x, r), n + 4 + x.ms.length) := by
  obtain ⟨hi, hm, hl⟩ := hx
  simp only [Sk.ints, List.mem_cons, List.not_mem_nil, or_false, forall_eq_or_imp, forall_eq] at hi
  obtain ⟨i1, i2, i3, i4, i5, j1, j2, j3, j4, j5, k1, k2, k3, k4, k5, k6, k7, l1, l2, l3⟩ := hi
  have ib : inI (bitZ x.bg) := by cases x.bg <;> (unfold bitZ inI; decide)
  unfold snapP oneT
  simp only [List.append_assoc]
  rw [lineP_of (snapS_iff.2 ⟨⟨rfl, rfl, by simp only [List.mem_cons, List.not_mem_nil, or_false, forall_eq_or_imp, forall_eq]; exact ⟨i1, i2, i3, i4, ib, i5⟩⟩, by cases x.bg <;> simp [bitZ]⟩) (by simp) (row_no (by decide) _)]
  simp only
  have f2 : rowS wState 5 (wState :: [x.t1, x.t2, x.t3, x.t4, x.t5].map decZ) = some [x.t1, x.t2, x.t3, x.t4, x.t5] := rowS_iff.2 ⟨rfl, rfl, by simp only [List.mem_cons, List.not_mem_nil, or_false, forall_eq_or_imp, forall_eq]; exact ⟨j1, j2, j3, j4, j5⟩⟩
  rw [lineP_of f2 (by simp) (row_no (by decide) _)]
  simp only
  have f3 : rowS wView 7 (wView :: [x.m1, x.m2, x.m3, x.m4, x.m5, x.m6, x.m7].map decZ) = some [x.m1, x.m2, x.m3, x.m4, x.m5, x.m6, x.m7] := rowS_iff.2 ⟨rfl, rfl, by simp only [List.mem_cons, List.not_mem_nil, or_false, forall_eq_or_imp, forall_eq]; exact ⟨k1, k2, k3, k4, k5, k6, k7⟩⟩
  rw [lineP_of f3 (by simp) (row_no (by decide) _)]
  simp only
  rw [lineP_of (hostS_of l1 l2 l3 hl (by omega)) (by simp) (host_no _ _ _ _ _)]
  simp only [Int.toNat_natCast]
  rw [insP_of x.ms r _ hm]
  simp only [mkS, Option.map_some, bit_back]
theorem len6 {l : List Int} (h : l.length = 6) : ∃ a b c d e f, l = [a, b, c, d, e, f] := by
  match l, h with
  | [a, b, c, d, e, f], _ => exact ⟨a, b, c, d, e, f, rfl⟩
theorem len5 {l : List Int} (h : l.length = 5) : ∃ a b c d e, l = [a, b, c, d, e] := by
  match l, h with
  | [a, b, c, d, e], _ => exact ⟨a, b, c, d, e, rfl⟩
theorem len7 {l : List Int} (h : l.length = 7) : ∃ a b c d e f g, l = [a, b, c, d, e, f, g] := by
  match l, h with
  | [a, b, c, d, e, f, g], _ => exact ⟨a, b, c, d, e, f, g, rfl⟩
theorem snapP_some {r r' : List UInt8} {n n' : Nat} {x : Sk} (h : snapP r n = (some (x, r'), n')) : r = oneT x ++ r' ∧ x.Fits := by
  unfold snapP at h
  split at h
  · cases (Prod.mk.inj h).1
  · next a r1 n1 h1 =>
    split at h
    · cases (Prod.mk.inj h).1
    · next c r2 n2 h2 =>
      split at h
      · cases (Prod.mk.inj h).1
      · next v r3 n3 h3 =>
        split at h
        · cases (Prod.mk.inj h).1
        · next hh o k r4 n4 h4 =>
          split at h
          · cases (Prod.mk.inj h).1
          · next ms r5 n5 h5 =>
            obtain ⟨_, ws1, f1, e1, _⟩ := lineP_some h1
            obtain ⟨_, ws2, f2, e2, _⟩ := lineP_some h2
            obtain ⟨_, ws3, f3, e3, _⟩ := lineP_some h3
            obtain ⟨_, ws4, f4, e4, _⟩ := lineP_some h4
            obtain ⟨q1, q2, q3⟩ := insP_some h5
            obtain ⟨⟨rfl, la, ia⟩, hb⟩ := snapS_iff.1 f1
            obtain ⟨rfl, lc, ic⟩ := rowS_iff.1 f2
            obtain ⟨rfl, lv, iv⟩ := rowS_iff.1 f3
            obtain ⟨ha, hb', hc', rfl, rfl, g1, g2, g3, g4⟩ := hostS_some f4
            obtain ⟨a1, a2, a3, a4, a5, a6, rfl⟩ := len6 la
            obtain ⟨c1, c2, c3, c4, c5, rfl⟩ := len5 lc
            obtain ⟨v1, v2, v3, v4, v5, v6, v7, rfl⟩ := len7 lv
            simp only [mkS, Option.map_some, Prod.mk.injEq, Option.some.injEq] at h
            obtain ⟨⟨rfl, rfl⟩, _⟩ := h
            have hbit : a5 = 0 ∨ a5 = 1 := by simpa using hb
            simp only [List.mem_cons, List.not_mem_nil, or_false, forall_eq_or_imp, forall_eq] at ia ic iv
            refine ⟨?_, ⟨?_, q3, by rw [q1]; exact g4⟩⟩
            · rw [e1, e2, e3, e4, q2]
              unfold oneT
              simp only [bit_of hbit, q1, List.append_assoc]
            · simp only [Sk.ints, List.mem_cons, List.not_mem_nil, or_false, forall_eq_or_imp, forall_eq]
              obtain ⟨x1, x2, x3, x4, x5, x6⟩ := ia
              obtain ⟨y1, y2, y3, y4, y5⟩ := ic
              obtain ⟨z1, z2, z3, z4, z5, z6, z7⟩ := iv
              exact ⟨x1, x2, x3, x4, x6, y1, y2, y3, y4, y5, z1, z2, z3, z4, z5, z6, z7, g1, g2, g3⟩
theorem oneT_len (x : Sk) : 0 < (oneT x).length := by unfold oneT lineW; simp; omega
/-- The snaps of a text: so many at most; or the line that is wrong. -/
def parseP : Nat → Nat → List UInt8 → Nat → Option (List Sk) × Nat
  | 0, _, _, n => (some [], n)
  | f + 1, c, r, n => if r = [] then (some [], n) else if c = 256 then (none, n + 1) else match snapP r n with
    | (none, n) => (none, n)
    | (some (x, r), n) => match parseP f (c + 1) r n with
      | (none, n) => (none, n)
      | (some l, n) => (some (x :: l), n)
def parseT (t : List UInt8) : Option (List Sk) × Nat := parseP (t.length + 1) 0 t 0
theorem parseP_of : ∀ (l : List Sk) (f c n : Nat), (∀ x ∈ l, x.Fits) → (printT l).length < f → c + l.length ≤ 256 → ∃ n', parseP f c (printT l) n = (some l, n')
  | [], f + 1, c, n, _, _, _ => ⟨n, by simp [parseP, printT]⟩
  | [], 0, c, n, _, h, _ => absurd h (Nat.not_lt_zero _)
  | x :: l, 0, c, n, _, h, _ => absurd h (Nat.not_lt_zero _)
  | x :: l, f + 1, c, n, hx, hl, hc => by
    have h0 := oneT_len x
    have e : printT (x :: l) = oneT x ++ printT l := rfl
    rw [e, List.length_append] at hl
    rw [e, parseP, if_neg (by intro h; rw [List.append_eq_nil_iff] at h; rw [h.1] at h0; simp at h0), if_neg (by simp only [List.length_cons] at hc; omega), snapP_of (hx x (by simp))]
    simp only
    obtain ⟨n', h'⟩ := parseP_of l f (c + 1) (n + 4 + x.ms.length) (fun y hy => hx y (by simp [hy])) (by omega) (by simp only [List.length_cons] at hc; omega)
    rw [h']
    exact ⟨n', rfl⟩
theorem parseP_some : ∀ {f c n n' : Nat} {r : List UInt8} {l : List Sk}, r.length < f → parseP f c r n = (some l, n') → r = printT l ∧ (∀ x ∈ l, x.Fits) ∧ (c ≤ 256 → c + l.length ≤ 256)
  | 0, _, _, _, _, _, h, _ => absurd h (Nat.not_lt_zero _)
  | f + 1, c, n, n', r, l, hl, h => by
    rw [parseP] at h
    split at h
    · next h0 =>
      simp only [Prod.mk.injEq, Option.some.injEq] at h
      obtain ⟨rfl, _⟩ := h
      exact ⟨h0, by simp, by simp⟩
    · split at h
      · cases (Prod.mk.inj h).1
      · next hc =>
        split at h
        · cases (Prod.mk.inj h).1
        · next x r1 n1 h1 =>
          split at h
          · cases (Prod.mk.inj h).1
          · next l1 n2 h2 =>
            simp only [Prod.mk.injEq, Option.some.injEq] at h
            obtain ⟨rfl, _⟩ := h
            obtain ⟨e, hf⟩ := snapP_some h1
            have h0 := oneT_len x
            rw [e, List.length_append] at hl
            obtain ⟨e2, h3, h4⟩ := parseP_some (by omega) h2
            refine ⟨by rw [e, e2]; rfl, fun y hy => ?_, ?_⟩
            · rcases List.mem_cons.1 hy with rfl | hy
              · exact hf
              · exact h3 y hy
            · intro hc2
              have := h4 (by omega)
              simp only [List.length_cons]
              omega
theorem parse_print {l : List Sk} (h : ∀ x ∈ l, x.Fits) (hl : l.length ≤ 256) : ∃ n', parseT (printT l) = (some l, n') := parseP_of l _ 0 0 h (Nat.lt_succ_self _) (by omega)
theorem print_parse {t : List UInt8} {l : List Sk} {n : Nat} (h : parseT t = (some l, n)) : printT l = t := (parseP_some (Nat.lt_succ_self _) h).1.symm
end Go.Proofs.YtkinhhkodaacjaaGreatDoor
