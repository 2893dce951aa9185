/- The text of a script, and the script of a text: plain laws. -/
import Derived.Test.YtkinhhkodaacjaaGreatDoorPt
namespace Go.Proofs.YtkinhhkodaacjaaGreatDoor

structure Ok where
  (nd rd sl kd n : Int)
  d : List UInt8
structure Fk where
  (kd nd ch rd sl a b : Int)
/-- What a script says. -/
structure Scr where
  rounds : Int
  ups : List Bool
  (offs gates guards drifts : List Int)
  ops : List Ok
  fts : List Fk
def scr0 : Scr := ⟨0, [], [], [], [], [], [], []⟩
def hdW : Nat → List UInt8
  | 0 => [114, 111, 117, 110, 100, 115]
  | 1 => [117, 112, 115]
  | 2 => [111, 102, 102, 115]
  | 3 => [103, 97, 116, 101, 115]
  | 4 => [103, 117, 97, 114, 100, 115]
  | _ => [100, 114, 105, 102, 116, 115]
def wOp : List UInt8 := [111, 112]
def wFault : List UInt8 := [102, 97, 117, 108, 116]
def headN (x : Scr) : Nat → List Int
  | 0 => [x.rounds]
  | 1 => x.ups.map bitZ
  | 2 => x.offs
  | 3 => x.gates
  | 4 => x.guards
  | _ => x.drifts
def headT (x : Scr) (n : Nat) : List UInt8 := lineW (hdW n :: (headN x n).map decZ)
def Ok.ints (o : Ok) : List Int := [o.nd, o.rd, o.sl, o.kd, o.n]
def Fk.ints (f : Fk) : List Int := [f.kd, f.nd, f.ch, f.rd, f.sl, f.a, f.b]
def opT (o : Ok) : List UInt8 := lineW (wOp :: (o.ints.map decZ ++ [hexW o.d]))
def ftT (f : Fk) : List UInt8 := lineW (wFault :: f.ints.map decZ)
/-- What stands ahead of the line n. -/
def preT (x : Scr) : Nat → List UInt8
  | 0 => []
  | n + 1 => preT x n ++ headT x n
def restT (x : Scr) : List UInt8 := x.ops.flatMap opT ++ x.fts.flatMap ftT
def printS (x : Scr) : List UInt8 := preT x 6 ++ restT x
def bitS : List Int → Option (List Bool)
  | [] => some []
  | v :: l => if v = 0 ∨ v = 1 then (bitS l).map (decide (v = 1) :: ·) else none
def headS (x : Scr) (n : Nat) : List (List UInt8) → Option Scr
  | [] => none
  | w :: r => match numsS r with
    | none => none
    | some l => if w = hdW n then (match n with
        | 0 => (match l with
          | [v] => some { x with rounds := v }
          | _ => none)
        | 1 => (bitS l).map fun b => { x with ups := x.ups ++ b }
        | 2 => some { x with offs := l }
        | 3 => some { x with gates := l }
        | 4 => some { x with guards := l }
        | _ => some { x with drifts := l })
      else none
def tailS (x : Scr) (ws : List (List UInt8)) : Option Scr := match ws with
  | [w, a, b, c, d, e, h] => if w = wOp ∧ x.fts = [] then (match numsS [a, b, c, d, e], unhexW h with
      | some [a, b, c, d, e], some h => some { x with ops := x.ops ++ [⟨a, b, c, d, e, h⟩] }
      | _, _ => none)
    else none
  | [w, a, b, c, d, e, f, g] => if w = wFault then (match numsS [a, b, c, d, e, f, g] with
      | some [a, b, c, d, e, f, g] => some { x with fts := x.fts ++ [⟨a, b, c, d, e, f, g⟩] }
      | _ => none)
    else none
  | _ => none
def lineS (x : Scr) (n : Nat) (ws : List (List UInt8)) : Option Scr := if n < 6 then headS x n ws else tailS x ws
def parseG : Nat → Nat → Scr → List UInt8 → Option Scr × Nat
  | 0, n, _, _ => (none, n)
  | f + 1, n, x, r => if 6 ≤ n ∧ r = [] then (some x, 0) else match nextW r with
    | none => (none, n + 1)
    | some p => match lineS x n p.1 with
      | none => (none, n + 1)
      | some y => parseG f (n + 1) y p.2
def parseS (t : List UInt8) : Option Scr × Nat := parseG (t.length + 1) 0 scr0 t

structure Scr.Fits (x : Scr) : Prop where
  heads : ∀ k < 6, ∀ n ∈ headN x k, inI n
  ops : ∀ o ∈ x.ops, ∀ n ∈ o.ints, inI n
  fts : ∀ f ∈ x.fts, ∀ n ∈ f.ints, inI n
theorem bitS_iff : ∀ {l : List Int} {b : List Bool}, bitS l = some b ↔ l = b.map bitZ
  | [], b => by
    constructor
    · intro h; simp only [bitS, Option.some.injEq] at h; subst h; rfl
    · intro h; cases b with
      | nil => rfl
      | cons c b => simp at h
  | v :: l, b => by
    unfold bitS
    constructor
    · intro h
      split at h
      · next hv =>
        obtain ⟨c, hc, rfl⟩ := Option.map_eq_some_iff.1 h
        rw [List.map_cons, ← bitS_iff.1 hc, bit_of hv]
      · cases h
    · intro h
      cases b with
      | nil => simp at h
      | cons c b =>
        simp only [List.map_cons, List.cons.injEq] at h
        obtain ⟨rfl, h⟩ := h
        rw [if_pos (by cases c <;> simp [bitZ]), bitS_iff.2 h, bit_back]
        rfl
theorem hdW_no (n : Nat) : (32 : UInt8) ∉ hdW n ∧ (10 : UInt8) ∉ hdW n := by
  match n with
  | 0 => decide
  | 1 => decide
  | 2 => decide
  | 3 => decide
  | 4 => decide
  | n + 5 => exact (by decide : (32 : UInt8) ∉ ([100, 114, 105, 102, 116, 115] : List UInt8) ∧ (10 : UInt8) ∉ ([100, 114, 105, 102, 116, 115] : List UInt8))
/-- What a head's line says. -/
theorem headS_some {x y : Scr} {n : Nat} {ws : List (List UInt8)} (hn : n < 6) (hu : n = 1 → x.ups = []) (h : headS x n ws = some y) : ws = hdW n :: (headN y n).map decZ ∧ (∀ v ∈ headN y n, inI v) ∧ (∀ k < 6, k ≠ n → headN y k = headN x k) ∧ y.ops = x.ops ∧ y.fts = x.fts ∧ (1 < n → y.ups = x.ups) ∧ (n = 0 → y.ups = x.ups) := by
  unfold headS at h
  match ws, h with
  | w :: r, h =>
    simp only at h
    split at h
    · cases h
    · next l hl =>
      obtain ⟨e1, e2⟩ := numsS_iff.1 hl
      split at h
      · next hw =>
        subst hw
        subst e1
        match n, hn with
        | 0, _ =>
          simp only at h
          split at h
          · simp only [Option.some.injEq] at h
            subst h
            refine ⟨rfl, e2, fun k hk hne => ?_, rfl, rfl, fun h => absurd h (by decide), fun _ => rfl⟩
            match k, hk with
            | 0, _ => exact absurd rfl hne
            | 1, _ => rfl
            | 2, _ => rfl
            | 3, _ => rfl
            | 4, _ => rfl
            | 5, _ => rfl
          · cases h
        | 1, _ =>
          simp only at h
          obtain ⟨b, hb, rfl⟩ := Option.map_eq_some_iff.1 h
          have hb' := bitS_iff.1 hb
          subst hb'
          have hu' := hu rfl
          have e3 : headN { x with ups := x.ups ++ b } 1 = b.map bitZ := by unfold headN; simp only [hu', List.nil_append]
          refine ⟨by rw [e3], by rw [e3]; exact e2, fun k hk hne => ?_, rfl, rfl, fun h => absurd h (by decide), fun h => absurd h (by decide)⟩
          match k, hk with
          | 0, _ => rfl
          | 1, _ => exact absurd rfl hne
          | 2, _ => rfl
          | 3, _ => rfl
          | 4, _ => rfl
          | 5, _ => rfl
        | 2, _ =>
          simp only [Option.some.injEq] at h
          subst h
          refine ⟨rfl, e2, fun k hk hne => ?_, rfl, rfl, fun _ => rfl, fun h => absurd h (by decide)⟩
          match k, hk with
          | 0, _ => rfl
          | 1, _ => rfl
          | 2, _ => exact absurd rfl hne
          | 3, _ => rfl
          | 4, _ => rfl
          | 5, _ => rfl
        | 3, _ =>
          simp only [Option.some.injEq] at h
          subst h
          refine ⟨rfl, e2, fun k hk hne => ?_, rfl, rfl, fun _ => rfl, fun h => absurd h (by decide)⟩
          match k, hk with
          | 0, _ => rfl
          | 1, _ => rfl
          | 2, _ => rfl
          | 3, _ => exact absurd rfl hne
          | 4, _ => rfl
          | 5, _ => rfl
        | 4, _ =>
          simp only [Option.some.injEq] at h
          subst h
          refine ⟨rfl, e2, fun k hk hne => ?_, rfl, rfl, fun _ => rfl, fun h => absurd h (by decide)⟩
          match k, hk with
          | 0, _ => rfl
          | 1, _ => rfl
          | 2, _ => rfl
          | 3, _ => rfl
          | 4, _ => exact absurd rfl hne
          | 5, _ => rfl
        | 5, _ =>
          simp only [Option.some.injEq] at h
          subst h
          refine ⟨rfl, e2, fun k hk hne => ?_, rfl, rfl, fun _ => rfl, fun h => absurd h (by decide)⟩
          match k, hk with
          | 0, _ => rfl
          | 1, _ => rfl
          | 2, _ => rfl
          | 3, _ => rfl
          | 4, _ => rfl
          | 5, _ => exact absurd rfl hne
      · cases h
theorem tailS_some {x y : Scr} {ws : List (List UInt8)} (h : tailS x ws = some y) : (∀ k, headN y k = headN x k) ∧
    ((∃ o : Ok, ws = wOp :: (o.ints.map decZ ++ [hexW o.d]) ∧ (∀ n ∈ o.ints, inI n) ∧ y.ops = x.ops ++ [o] ∧ x.fts = [] ∧ y.fts = []) ∨ (∃ f : Fk, ws = wFault :: f.ints.map decZ ∧ (∀ n ∈ f.ints, inI n) ∧ y.ops = x.ops ∧ y.fts = x.fts ++ [f])) := by
  unfold tailS at h
  split at h
  · next w a b c d e hh =>
    split at h
    · next hw =>
      split at h
      · next a' b' c' d' e' h' hn hx =>
        simp only [Option.some.injEq] at h
        subst h
        obtain ⟨e1, e2⟩ := numsS_iff.1 hn
        refine ⟨fun k => by match k with
          | 0 => rfl
          | 1 => rfl
          | 2 => rfl
          | 3 => rfl
          | 4 => rfl
          | k + 5 => rfl, .inl ⟨⟨a', b', c', d', e', h'⟩, ?_, e2, rfl, hw.2, hw.2⟩⟩
        simp only [List.map_cons, List.map_nil, List.cons.injEq, and_true] at e1
        obtain ⟨rfl, rfl, rfl, rfl, rfl⟩ := e1
        rw [hw.1, unhexW_iff.1 hx]
        rfl
      · cases h
    · cases h
  · next w a b c d e f g =>
    split at h
    · next hw =>
      split at h
      · next a' b' c' d' e' f' g' hn =>
        simp only [Option.some.injEq] at h
        subst h
        obtain ⟨e1, e2⟩ := numsS_iff.1 hn
        refine ⟨fun k => by match k with
          | 0 => rfl
          | 1 => rfl
          | 2 => rfl
          | 3 => rfl
          | 4 => rfl
          | k + 5 => rfl, .inr ⟨⟨a', b', c', d', e', f', g'⟩, ?_, e2, rfl, rfl⟩⟩
        rw [e1, hw]
        rfl
      · cases h
    · cases h
  · cases h
theorem preT_eq {x y : Scr} : ∀ {n : Nat}, (∀ k < n, headN y k = headN x k) → preT y n = preT x n
  | 0, _ => rfl
  | n + 1, h => by
    unfold preT headT
    rw [preT_eq (fun k hk => h k (by omega)), h n (by omega)]
theorem next_line {r : List UInt8} {p : List (List UInt8) × List UInt8} (h : nextW r = some p) : r = lineW p.1 ++ p.2 := by
  unfold nextW at h
  obtain ⟨q, hq, rfl⟩ := Option.map_eq_some_iff.1 h
  obtain ⟨e, _⟩ := cutB_some hq
  unfold lineW
  simp only [joinB_splitB]
  rw [e]
  simp
theorem line_next {ws : List (List UInt8)} (hne : ws ≠ []) (hw : ∀ w ∈ ws, (32 : UInt8) ∉ w ∧ (10 : UInt8) ∉ w) (r : List UInt8) : nextW (lineW ws ++ r) = some (ws, r) := by
  have := lineP_of (f := fun ws => some ws) (ws := ws) rfl hne hw r 0
  unfold lineP at this
  cases hn : nextW (lineW ws ++ r) with
  | none => rw [hn] at this; simp at this
  | some p =>
    rw [hn] at this
    simp at this
    rw [← this.1, ← this.2]
/-- Where a parse stands. -/
structure At (n : Nat) (x : Scr) : Prop where
  ups : n ≤ 1 → x.ups = []
  low : n < 6 → x.ops = [] ∧ x.fts = []
  fits : (∀ k < 6, k < n → ∀ v ∈ headN x k, inI v) ∧ (∀ o ∈ x.ops, ∀ v ∈ o.ints, inI v) ∧ (∀ f ∈ x.fts, ∀ v ∈ f.ints, inI v)
def donT (x : Scr) (n : Nat) : List UInt8 := if n < 6 then preT x n else printS x
theorem At.step {n : Nat} {x y : Scr} {ws : List (List UInt8)} (h : At n x) (hl : lineS x n ws = some y) : At (n + 1) y ∧ donT y (n + 1) = donT x n ++ lineW ws := by
  unfold lineS at hl
  split at hl
  · next hn =>
    obtain ⟨e1, e2, e3, e4, e5, e6, e7⟩ := headS_some hn (fun e => h.ups (by omega)) hl
    obtain ⟨l1, l2⟩ := h.low hn
    refine ⟨⟨fun hk => ?_, fun _ => ⟨e4.trans l1, e5.trans l2⟩, fun k hk hkn v hv => ?_, by rw [e4, l1]; simp, by rw [e5, l2]; simp⟩, ?_⟩
    · rw [e7 (by omega)]; exact h.ups (by omega)
    · by_cases hkn2 : k = n
      · subst hkn2; exact e2 v hv
      · rw [e3 k hk hkn2] at hv
        exact h.fits.1 k hk (by omega) v hv
    · have ep : preT y (n + 1) = preT x n ++ lineW ws := by
        show preT y n ++ headT y n = _
        rw [preT_eq (fun k hk => e3 k (by omega) (by omega)), e1]
        rfl
      unfold donT
      rw [if_pos hn]
      split
      · exact ep
      · obtain rfl : n = 5 := by omega
        unfold printS restT
        rw [ep, e4, l1, e5, l2]
        simp
  · next hn =>
    obtain ⟨e1, e2⟩ := tailS_some hl
    have ep : preT y 6 = preT x 6 := preT_eq (fun k _ => e1 k)
    have hf : ∀ k < 6, k < n + 1 → ∀ v ∈ headN y k, inI v := fun k hk _ v hv => by
      rw [e1 k] at hv
      exact h.fits.1 k hk (by omega) v hv
    unfold donT
    rw [if_neg hn, if_neg (by omega)]
    unfold printS
    rw [ep, List.append_assoc]
    rcases e2 with ⟨o, rfl, q1, q2, q3, q4⟩ | ⟨f, rfl, q1, q2, q3⟩
    · refine ⟨⟨fun hk => by omega, fun hk => by omega, hf, fun p hp => ?_, by rw [q4]; simp⟩, ?_⟩
      · rw [q2] at hp
        rcases List.mem_append.1 hp with hp | hp
        · exact h.fits.2.1 p hp
        · rw [List.mem_singleton.1 hp]; exact q1
      · unfold restT
        rw [q2, q3, q4]
        simp [opT]
    · refine ⟨⟨fun hk => by omega, fun hk => by omega, hf, by rw [q2]; exact h.fits.2.1, fun p hp => ?_⟩, ?_⟩
      · rw [q3] at hp
        rcases List.mem_append.1 hp with hp | hp
        · exact h.fits.2.2 p hp
        · rw [List.mem_singleton.1 hp]; exact q1
      · unfold restT
        rw [q2, q3]
        simp [ftT]
theorem parseG_some : ∀ {f n : Nat} {x y : Scr} {r : List UInt8} {m : Nat}, r.length < f → At n x → parseG f n x r = (some y, m) → donT x n ++ r = printS y ∧ y.Fits ∧ m = 0
  | 0, _, _, _, _, _, h, _, _ => absurd h (Nat.not_lt_zero _)
  | f + 1, n, x, y, r, m, hr, ha, h => by
    rw [parseG] at h
    split at h
    · next hc =>
      simp only [Prod.mk.injEq, Option.some.injEq] at h
      obtain ⟨rfl, rfl⟩ := h
      refine ⟨?_, ⟨fun k hk => ha.fits.1 k hk (by omega), ha.fits.2.1, ha.fits.2.2⟩, rfl⟩
      unfold donT
      rw [if_neg (by omega), hc.2, List.append_nil]
    · split at h
      · cases (Prod.mk.inj h).1
      · next p hp =>
        split at h
        · cases (Prod.mk.inj h).1
        · next z hz =>
          have hl := next_line hp
          obtain ⟨a1, a2⟩ := ha.step hz
          have hlen : p.2.length < f := by
            have := congrArg List.length hl
            rw [List.length_append] at this
            have h1 : 1 ≤ (lineW p.1).length := by unfold lineW; simp
            omega
          obtain ⟨b1, b2, b3⟩ := parseG_some hlen a1 h
          refine ⟨?_, b2, b3⟩
          rw [← b1, a2, hl, List.append_assoc]
theorem At.start : At 0 scr0 := ⟨fun _ => rfl, fun _ => ⟨rfl, rfl⟩, fun k _ hk => absurd hk (Nat.not_lt_zero _), by simp [scr0], by simp [scr0]⟩
theorem print_parseS {t : List UInt8} {y : Scr} {m : Nat} (h : parseS t = (some y, m)) : printS y = t ∧ y.Fits ∧ m = 0 := by
  obtain ⟨e1, e2, e3⟩ := parseG_some (Nat.lt_succ_self _) At.start h
  exact ⟨e1.symm.trans (by simp [donT, preT]), e2, e3⟩
theorem head_no (x : Scr) (n : Nat) : ∀ w ∈ hdW n :: (headN x n).map decZ, (32 : UInt8) ∉ w ∧ (10 : UInt8) ∉ w := row_no (hdW_no n) _
theorem op_no (o : Ok) : ∀ w ∈ wOp :: (o.ints.map decZ ++ [hexW o.d]), (32 : UInt8) ∉ w ∧ (10 : UInt8) ∉ w := fun w hw => by
  rcases List.mem_cons.1 hw with rfl | hw
  · decide
  · rcases List.mem_append.1 hw with hw | hw
    · obtain ⟨n, _, rfl⟩ := List.mem_map.1 hw
      exact dec_no n
    · rw [List.mem_singleton.1 hw]; exact hexW_no _
theorem ft_no (f : Fk) : ∀ w ∈ wFault :: f.ints.map decZ, (32 : UInt8) ∉ w ∧ (10 : UInt8) ∉ w := row_no (by decide) _
/-- The script that is read behind the lines so far. -/
def upTo (x : Scr) : Nat → Scr
  | 0 => scr0
  | 1 => { scr0 with rounds := x.rounds }
  | 2 => { scr0 with rounds := x.rounds, ups := x.ups }
  | 3 => { scr0 with rounds := x.rounds, ups := x.ups, offs := x.offs }
  | 4 => { scr0 with rounds := x.rounds, ups := x.ups, offs := x.offs, gates := x.gates }
  | 5 => { scr0 with rounds := x.rounds, ups := x.ups, offs := x.offs, gates := x.gates, guards := x.guards }
  | _ => { x with ops := [], fts := [] }
theorem headS_of {x : Scr} (hx : x.Fits) {n : Nat} (hn : n < 6) : headS (upTo x n) n (hdW n :: (headN x n).map decZ) = some (upTo x (n + 1)) := by
  have h1 : numsS ((headN x n).map decZ) = some (headN x n) := numsS_iff.2 ⟨rfl, hx.heads n hn⟩
  unfold headS
  simp only [h1, if_pos]
  match n, hn with
  | 0, _ => rfl
  | 1, _ =>
    simp only [headN]
    rw [bitS_iff.2 rfl]
    rfl
  | 2, _ => rfl
  | 3, _ => rfl
  | 4, _ => rfl
  | 5, _ => rfl
theorem tailS_op {x : Scr} {o : Ok} (ho : ∀ n ∈ o.ints, inI n) (hf : x.fts = []) : tailS x (wOp :: (o.ints.map decZ ++ [hexW o.d])) = some { x with ops := x.ops ++ [o] } := by
  obtain ⟨a, b, c, d, e, h⟩ := o
  have h1 : numsS ([a, b, c, d, e].map decZ) = some [a, b, c, d, e] := numsS_iff.2 ⟨rfl, ho⟩
  simp only [List.map_cons, List.map_nil] at h1
  unfold tailS
  simp only [Ok.ints, List.map_cons, List.map_nil, List.cons_append, List.nil_append]
  rw [if_pos ⟨trivial, hf⟩, h1, unhexW_iff.2 rfl]
theorem tailS_ft {x : Scr} {f : Fk} (hf : ∀ n ∈ f.ints, inI n) : tailS x (wFault :: f.ints.map decZ) = some { x with fts := x.fts ++ [f] } := by
  obtain ⟨a, b, c, d, e, g, h⟩ := f
  have h1 : numsS ([a, b, c, d, e, g, h].map decZ) = some [a, b, c, d, e, g, h] := numsS_iff.2 ⟨rfl, hf⟩
  simp only [List.map_cons, List.map_nil] at h1
  unfold tailS
  simp only [Fk.ints, List.map_cons, List.map_nil]
  rw [if_pos trivial, h1]
theorem parseG_line {f n : Nat} {x y : Scr} {ws : List (List UInt8)} {r : List UInt8} (hne : ws ≠ []) (hw : ∀ w ∈ ws, (32 : UInt8) ∉ w ∧ (10 : UInt8) ∉ w) (hl : lineS x n ws = some y) : parseG (f + 1) n x (lineW ws ++ r) = parseG f (n + 1) y r := by
  rw [parseG, if_neg (fun h => by have := congrArg List.length h.2; simp [lineW] at this), line_next hne hw]
  simp only [hl]
theorem parseG_fts : ∀ (l : List Fk) {f n : Nat} {x : Scr}, 6 ≤ n → (∀ g ∈ l, ∀ v ∈ g.ints, inI v) → (l.flatMap ftT).length < f → parseG f n x (l.flatMap ftT) = (some { x with fts := x.fts ++ l }, 0)
  | [], 0, _, _, _, _, h => absurd h (Nat.not_lt_zero _)
  | g :: l, 0, _, _, _, _, h => absurd h (Nat.not_lt_zero _)
  | [], f + 1, n, x, hn, _, _ => by rw [parseG, if_pos ⟨hn, rfl⟩]; simp
  | g :: l, f + 1, n, x, hn, hf, hl => by
    have h1 : 1 ≤ (ftT g).length := by unfold ftT lineW; simp
    rw [List.flatMap_cons, List.length_append] at hl
    rw [List.flatMap_cons]
    unfold ftT
    rw [parseG_line (by simp) (ft_no g) (y := { x with fts := x.fts ++ [g] }) (by unfold lineS; rw [if_neg (by omega)]; exact tailS_ft (hf g (by simp)))]
    have := parseG_fts l (f := f) (n := n + 1) (x := { x with fts := x.fts ++ [g] }) (by omega) (fun q hq => hf q (by simp [hq])) (by omega)
    unfold ftT at this
    rw [this]
    simp
theorem parseG_ops : ∀ (l : List Ok) {f n : Nat} {x : Scr} (k : List Fk), 6 ≤ n → (∀ o ∈ l, ∀ v ∈ o.ints, inI v) → (∀ g ∈ k, ∀ v ∈ g.ints, inI v) → x.fts = [] → (l.flatMap opT ++ k.flatMap ftT).length < f → parseG f n x (l.flatMap opT ++ k.flatMap ftT) = (some { x with ops := x.ops ++ l, fts := k }, 0)
  | [], f, n, x, k, hn, _, hk, h0, hl => by
    rw [List.flatMap_nil, List.nil_append] at hl ⊢
    rw [parseG_fts k hn hk hl, h0]
    simp
  | o :: l, 0, _, _, _, _, _, _, _, h => absurd h (Nat.not_lt_zero _)
  | o :: l, f + 1, n, x, k, hn, ho, hk, h0, hl => by
    have h1 : 1 ≤ (opT o).length := by unfold opT lineW; simp
    rw [List.flatMap_cons, List.append_assoc, List.length_append] at hl
    rw [List.flatMap_cons, List.append_assoc]
    have e : opT o = lineW (wOp :: (o.ints.map decZ ++ [hexW o.d])) := rfl
    rw [e, parseG_line (by simp) (op_no o) (y := { x with ops := x.ops ++ [o] }) (by unfold lineS; rw [if_neg (by omega)]; exact tailS_op (ho o (by simp)) h0)]
    have := parseG_ops l (f := f) (n := n + 1) (x := { x with ops := x.ops ++ [o] }) k (by omega) (fun q hq => ho q (by simp [hq])) hk h0 (by omega)
    rw [this]
    simp
theorem parse_printS {x : Scr} (hx : x.Fits) : parseS (printS x) = (some x, 0) := by
  have hstep : ∀ {f n : Nat} {r : List UInt8}, n < 6 → parseG (f + 1) n (upTo x n) (headT x n ++ r) = parseG f (n + 1) (upTo x (n + 1)) r := fun hn => by
    unfold headT
    exact parseG_line (by simp) (head_no x _) (by unfold lineS; rw [if_pos hn]; exact headS_of hx hn)
  have hlen : ∀ n, 1 ≤ (headT x n).length := fun n => by unfold headT lineW; simp
  have e : printS x = headT x 0 ++ (headT x 1 ++ (headT x 2 ++ (headT x 3 ++ (headT x 4 ++ (headT x 5 ++ restT x))))) := by
    unfold printS preT preT preT preT preT preT preT
    simp
  unfold parseS
  rw [e]
  obtain ⟨f, hf⟩ : ∃ f, (headT x 0 ++ (headT x 1 ++ (headT x 2 ++ (headT x 3 ++ (headT x 4 ++ (headT x 5 ++ restT x)))))).length + 1 = f + 1 + 1 + 1 + 1 + 1 + 1 ∧ (restT x).length < f := by
    have h0 := hlen 0; have h1 := hlen 1; have h2 := hlen 2; have h3 := hlen 3; have h4 := hlen 4; have h5 := hlen 5
    refine ⟨(headT x 0).length + (headT x 1).length + (headT x 2).length + (headT x 3).length + (headT x 4).length + (headT x 5).length + (restT x).length - 5, ?_, ?_⟩
    · simp only [List.length_append]; omega
    · omega
  rw [hf.1]
  have e0 : scr0 = upTo x 0 := rfl
  rw [e0, hstep (by decide), hstep (by decide), hstep (by decide), hstep (by decide), hstep (by decide), hstep (by decide)]
  unfold restT at hf ⊢
  rw [parseG_ops x.ops x.fts (by decide) hx.ops hx.fts rfl hf.2]
  rfl
end Go.Proofs.YtkinhhkodaacjaaGreatDoor
