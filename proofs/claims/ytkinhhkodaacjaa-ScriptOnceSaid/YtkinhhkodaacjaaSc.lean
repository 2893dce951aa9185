/- The library's stable sort at structs of k cells, over any program that bears its bodies: from a world of the sort's to a world of the sort's. -/
import Derived.Test.YtkinhhkodaacjaaSb
import Derived.Shelf.SlSortCmp.WholeK
import Derived.Test.YtkinhhkodaacjaaProg
import Derived.Sort.WalkB2
import Derived.Sort.WalkB12
import Derived.Deep.LoopGhost
import Derived.Deep.Cut
import Derived.Lib.Hide
import Derived.WalkArith
namespace Go.Proofs.Ytkinhhkodaacjaa
open Go.Shelf Go.RowKit Go.Lib Go.Sort
variable {P : Program} {α : Type} [Inhabited α]

/-- What the bodies ask of a program. -/
structure Srt (P : Program) (k : Nat) : Prop where
  mixed : P.follows .mixedOrders = true
  f109 : P.funcs[109]? = some Try.f109
  f100 : P.funcs[100]? = some Try.f100
  f85 : P.funcs[85]? = some Try.f85
  f86 : P.funcs[86]? = some Try.f86
  f63 : P.funcs[63]? = some Try.f63
  t0 : P.underlying 0 = some (TypeDesc.tuple #[])
  a0 : ∀ w, (isAgg 0).run P w = .ok false w
  z0 : ∀ w, (Go.sizeOf 0).run P w = .ok 1 w
  v0 : ∀ w, (zeroValue 0).run P w = .ok (Value.tuple #[]) w
  t3 : P.underlying 3 = some (TypeDesc.int IntKind.i64)
  a3 : ∀ w, (isAgg 3).run P w = .ok false w
  z3 : ∀ w, (Go.sizeOf 3).run P w = .ok 1 w
  v3 : ∀ w, (zeroValue 3).run P w = .ok (Value.int IntKind.i64 0) w
  t4 : P.underlying 4 = some (TypeDesc.bool)
  a4 : ∀ w, (isAgg 4).run P w = .ok false w
  z4 : ∀ w, (Go.sizeOf 4).run P w = .ok 1 w
  v4 : ∀ w, (zeroValue 4).run P w = .ok (Value.bool false) w
  t99 : P.underlying 99 = some (TypeDesc.int IntKind.u64)
  a99 : ∀ w, (isAgg 99).run P w = .ok false w
  z99 : ∀ w, (Go.sizeOf 99).run P w = .ok 1 w
  v99 : ∀ w, (zeroValue 99).run P w = .ok (Value.int IntKind.u64 0) w
  t27 : P.underlying 27 = some (TypeDesc.slice 43)
  a27 : ∀ w, (isAgg 27).run P w = .ok false w
  z27 : ∀ w, (Go.sizeOf 27).run P w = .ok 1 w
  v27 : ∀ w, (zeroValue 27).run P w = .ok (Value.slice none 0 0) w
  t69 : P.underlying 69 = some (TypeDesc.func #[43, 43] #[3] false)
  a69 : ∀ w, (isAgg 69).run P w = .ok false w
  z69 : ∀ w, (Go.sizeOf 69).run P w = .ok 1 w
  v69 : ∀ w, (zeroValue 69).run P w = .ok (Value.nilFunc) w
  aE : ∀ w, (isAgg 43).run P w = .ok true w
  zE : ∀ w, (Go.sizeOf 43).run P w = .ok k w

set_option maxHeartbeats 4000000 in
set_option maxRecDepth 1000000 in
theorem swapRange_w {k : Nat} (L : Srt P k) (enc : α → List Value) (_cf : α → α → Int) (g : Nat) (cb : Array Value) (blk off cap : Nat) (a b n : Nat) (d0 d : Array α) (w0 w : World)
    (R : RowK enc k w0 blk off d0) (hs : d0.size = d.size) (S : SWK enc k w0 blk off d w) (ha : a + n ≤ d.size) (hb : b + n ≤ d.size) (hsz : d.size < 4611686018427387904) :
    Calls P 109 #[.slice (some ⟨blk, off, none⟩) d.size cap, .int .i64 a, .int .i64 b, .int .i64 n, .func (.func g) #[] cb] w fun e w' => e = .returned (.tuple #[]) ∧ SWK enc k w0 blk off (swapUp d a b n) w' := by
  have mixed := L.mixed; have t0 := L.t0; have a0 := L.a0; have z0 := L.z0; have v0 := L.v0; have t3 := L.t3; have a3 := L.a3; have z3 := L.z3; have v3 := L.v3; have t4 := L.t4; have a4 := L.a4; have z4 := L.z4; have v4 := L.v4; have t27 := L.t27; have a27 := L.a27; have z27 := L.z27; have v27 := L.v27; have t69 := L.t69; have a69 := L.a69; have z69 := L.z69; have v69 := L.v69; have aE := L.aE; have zE := L.zE
  have S0 : Aside (SWK enc k w0 blk off d w) := S
  clear S
  go_enter L.f109, Try.ntmps109
  clear L
  go_wp2
  go_loopg [10] n (fun kx s10 wr => ∃ (i : Nat) (dk : Array α), s10 = .int .i64 i ∧ i ≤ n ∧ n - i ≤ kx ∧ dk.size = d.size ∧ Aside (SWK enc k w0 blk off dk wr) ∧ Hid (dk = swapUp d a b i))
  case atStart => exact ⟨0, d, rfl, Nat.zero_le _, Nat.le_refl _, rfl, S0, rfl⟩
  case round =>
    obtain ⟨i, dk, rfl, hin, hkx, hds, S1, HE⟩ := hrel
    clear S0
    by_cases h0 : i < n
    · have h0z : (i : Int) < (n : Int) := by omega
      go_wp2_with fail
      have ea11 : ((a : Int) + (i : Int)).toNat = a + i := by omega
      have pa11 : (0 : Int) ≤ (a : Int) + (i : Int) := by omega
      have ba11 : (a : Int) + (i : Int) < (d.size : Int) := by omega
      have ra11 : IntKind.i64.wrap ((a : Int) + (i : Int)) = (a : Int) + (i : Int) := by rw [IntKind.wrap_i64]; omega
      have ec11 : ((b : Int) + (i : Int)).toNat = b + i := by omega
      have pc11 : (0 : Int) ≤ (b : Int) + (i : Int) := by omega
      have bc11 : (b : Int) + (i : Int) < (d.size : Int) := by omega
      have rc11 : IntKind.i64.wrap ((b : Int) + (i : Int)) = (b : Int) + (i : Int) := by rw [IntKind.wrap_i64]; omega
      have S2 : Aside (SWK enc k w0 blk off (swp dk (a + i) (b + i)) ((wr.drew.setCells blk (off + (a + i) * k) (enc dk[b + i]!)).setCells blk (off + (b + i) * k) (enc dk[a + i]!))) := S1.out.swapped R (a + i) (b + i) (by omega) (by omega)
      have l11a := S1.out.ld1 R (by omega) P (a + i) (by omega)
      have l11b := S1.out.ld1 R (by omega) P (b + i) (by omega)
      have s11a := S1.out.st1 R (by omega) P (a + i) (by omega) dk[b + i]!
      have s11b := S1.out.st2 R (by omega) P (a + i) (b + i) (by omega) (by omega) dk[b + i]! dk[a + i]!
      have n11a : (enc dk[a + i]!).length = k := R.hk _
      have n11b : (enc dk[b + i]!).length = k := R.hk _
      generalize enc dk[a + i]! = cI11 at S2 l11a s11b n11a
      generalize enc dk[b + i]! = cJ11 at S2 l11b s11a s11b n11b
      clear S1
      go_wp2_with fail
      go_big_region_o
      clear l11a l11b s11a s11b
      generalize (wr.drew.setCells blk (off + (a + i) * k) cJ11).setCells blk (off + (b + i) * k) cI11 = w2 at S2 ⊢
      go_wp2
      go_roundg (n - (i + 1))
      case measure => omega
      case rel => exact ⟨i + 1, swp dk (a + i) (b + i), by go_num, by omega, Nat.le_refl _, by rw [size_swp]; exact hds, S2, (show Hid _ from by rw [HE.out]; exact rfl)⟩
    · have h0z : ¬ (i : Int) < (n : Int) := by omega
      go_wp2
      go_end0
      obtain rfl : i = n := by omega
      exact ⟨rfl, by rw [← HE.out]; exact S1.out⟩

set_option maxHeartbeats 4000000 in
set_option maxRecDepth 1000000 in
theorem rotate_w {k : Nat} (L : Srt P k) (enc : α → List Value) (cf : α → α → Int) (g : Nat) (cb : Array Value) (blk off cap : Nat) (a m b : Nat) (d0 d : Array α) (w0 w : World)
    (R : RowK enc k w0 blk off d0) (hs : d0.size = d.size) (S : SWK enc k w0 blk off d w) (ham : a < m) (hmb : m < b) (hb : b ≤ d.size) (hsz : d.size < 4611686018427387904) :
    Calls P 100 #[.slice (some ⟨blk, off, none⟩) d.size cap, .int .i64 a, .int .i64 m, .int .i64 b, .func (.func g) #[] cb] w fun e w' =>
      e = .returned (.tuple #[]) ∧ ∃ d', PermIn a b d d' ∧ (∀ x : Nat, d'[x]! = rotAt a m b (fun y => d[y]!) x) ∧ SWK enc k w0 blk off d' w' := by
  have mixed := L.mixed; have t0 := L.t0; have a0 := L.a0; have z0 := L.z0; have v0 := L.v0; have t3 := L.t3; have a3 := L.a3; have z3 := L.z3; have v3 := L.v3; have t4 := L.t4; have a4 := L.a4; have z4 := L.z4; have v4 := L.v4; have t27 := L.t27; have a27 := L.a27; have z27 := L.z27; have v27 := L.v27; have t69 := L.t69; have a69 := L.a69; have z69 := L.z69; have v69 := L.v69; have aE := L.aE; have zE := L.zE
  have S0 : Aside (SWK enc k w0 blk off d w) := S
  clear S
  have e109 : ∀ args w, (callFunc 109 args).run P w = .ok (.enter 109 args) w := enters_of L.f109 (by kernel_rfl) rfl
  go_enter L.f100, Try.ntmps100
  go_wp2
  go_loopg [10, 11] (b - a) (fun kx s10 s11 wr => ∃ (i j : Nat) (dk : Array α), s10 = .int .i64 i ∧ s11 = .int .i64 j ∧ 0 < i ∧ 0 < j ∧ i ≤ m - a ∧ m + j ≤ b ∧ i + j ≤ kx ∧ dk.size = d.size ∧ Aside (SWK enc k w0 blk off dk wr) ∧
    Hid (PermIn a b d dk ∧ ∀ x : Nat, rotAt (m - i) m (m + j) (fun y => dk[y]!) x = rotAt a m b (fun y => d[y]!) x))
  case atStart => exact ⟨m - a, b - m, d, by congr 1; omega, by congr 1; omega, by omega, by omega, Nat.le_refl _, by omega, by omega, rfl, S0, (show Hid _ from ⟨permIn_refl _ _ _, fun x => by rw [show m - (m - a) = a by omega, show m + (b - m) = b by omega]⟩)⟩
  case round =>
    obtain ⟨i, j, dk, rfl, rfl, hi0, hj0, him, hjb, hkx, hds, S1, HE⟩ := hrel
    clear S0
    by_cases hlt : i < j
    · have hz1 : ¬ ((i : Int) = (j : Int)) := by omega
      have hz2 : ¬ ((j : Int) < (i : Int)) := by omega
      have hc := swapRange_w L enc cf g cb blk off cap (m - i) (m + j - i) i d0 dk w0 wr R (by omega) S1.out (by omega) (by omega) (by omega)
      rw [hds, show ((m - i : Nat) : Int) = (m : Int) - (i : Int) by omega, show ((m + j - i : Nat) : Int) = (m : Int) + (j : Int) - (i : Int) by omega] at hc
      go_wp2_with (go_at_fn 109; refine hc.mono ?_; rintro e w1 ⟨rfl, S2⟩)
      go_roundg (i + (j - i))
      case measure => omega
      case rel => exact ⟨i, j - i, swapUp dk (m - i) (m + j - i) i, rfl, by congr 1; omega, hi0, by omega, him, by omega, Nat.le_refl _, by rw [swapUp_size]; exact hds, S2, (show Hid _ from ⟨permIn_trans _ _ _ _ _ HE.out.1 (swapUp_perm _ _ _ _ _ _ (by omega) (by omega) (by omega) (by omega)), fun x => by rw [rot_stepR dk m i j hlt (by omega) (by omega)]; exact HE.out.2 x⟩)⟩
    · by_cases hgt : j < i
      · have hz1 : ¬ ((i : Int) = (j : Int)) := by omega
        have hz2 : (j : Int) < (i : Int) := by omega
        have hc := swapRange_w L enc cf g cb blk off cap (m - i) m j d0 dk w0 wr R (by omega) S1.out (by omega) (by omega) (by omega)
        rw [hds, show ((m - i : Nat) : Int) = (m : Int) - (i : Int) by omega] at hc
        go_wp2_with (go_at_fn 109; refine hc.mono ?_; rintro e w1 ⟨rfl, S2⟩)
        go_roundg (i - j + j)
        case measure => omega
        case rel => exact ⟨i - j, j, swapUp dk (m - i) m j, by congr 1; omega, rfl, by omega, hj0, by omega, by omega, Nat.le_refl _, by rw [swapUp_size]; exact hds, S2, (show Hid _ from ⟨permIn_trans _ _ _ _ _ HE.out.1 (swapUp_perm _ _ _ _ _ _ (by omega) (by omega) (by omega) (by omega)), fun x => by rw [rot_stepL dk m i j hgt (by omega) (by omega)]; exact HE.out.2 x⟩)⟩
      · obtain rfl : j = i := by omega
        have hc := swapRange_w L enc cf g cb blk off cap (m - j) m j d0 dk w0 wr R (by omega) S1.out (by omega) (by omega) (by omega)
        rw [hds, show ((m - j : Nat) : Int) = (m : Int) - (j : Int) by omega] at hc
        go_wp2_with (go_at_fn 109; refine hc.mono ?_; rintro e w1 ⟨rfl, S2⟩)
        go_end0
        exact ⟨rfl, _, permIn_trans _ _ _ _ _ HE.out.1 (swapUp_perm _ _ _ _ _ _ (by omega) (by omega) (by omega) (by omega)), fun x => by rw [rot_stepE dk m j (by omega) (by omega)]; exact HE.out.2 x, S2⟩

set_option maxHeartbeats 16000000 in
set_option maxRecDepth 1000000 in
theorem symA_w {k : Nat} (L : Srt P k) (enc : α → List Value) (cf : α → α → Int) (g : Nat) (cb : Array Value) (blk off cap : Nat) (hO : SWO (ltOf cf)) (d0 : Array α) (w0 : World)
    (eg : ∀ args w, (callFunc g args).run P w = .ok (.enter g args) w) (hcmp : CmpLays P g cb enc k cf blk off d0.size w0) (R : RowK enc k w0 blk off d0)
    (a m b : Nat) (d : Array α) (w : World) (hs : d0.size = d.size) (S : SWK enc k w0 blk off d w) (ham : a < m) (hmb : m < b) (hb : b ≤ d.size) (hsz : d.size < 4611686018427387904) (h1 : m = a + 1) :
    Calls P 86 #[.slice (some ⟨blk, off, none⟩) d.size cap, .int .i64 a, .int .i64 m, .int .i64 b, .func (.func g) #[] cb] w fun e w' =>
      e = .returned (.tuple #[]) ∧ ∃ d', SymP (ltOf cf) a m b d d' ∧ SWK enc k w0 blk off d' w' := by
  have mixed := L.mixed; have t0 := L.t0; have a0 := L.a0; have z0 := L.z0; have v0 := L.v0; have t3 := L.t3; have a3 := L.a3; have z3 := L.z3; have v3 := L.v3; have t4 := L.t4; have a4 := L.a4; have z4 := L.z4; have v4 := L.v4; have t27 := L.t27; have a27 := L.a27; have z27 := L.z27; have v27 := L.v27; have t69 := L.t69; have a69 := L.a69; have z69 := L.z69; have v69 := L.v69; have aE := L.aE; have zE := L.zE
  have u0 := run_underlying L.t0; have u3 := run_underlying L.t3; have u4 := run_underlying L.t4; have u99 := run_underlying L.t99; have u27 := run_underlying L.t27; have t99 := L.t99; have a99 := L.a99; have z99 := L.z99; have v99 := L.v99
  have HC : Aside _ := hcmp
  clear hcmp
  have S0 : Aside (SWK enc k w0 blk off d w) := S
  clear S
  go_enter L.f86, Try.ntmps86
  have h1z : (m : Int) - (a : Int) = 1 := by omega
  have h1b : ((m : Int) - (a : Int) == 1) = true := by simp only [beq_iff_eq]; omega
  have H1 := Lib.hid h1
  have h1l : m ≤ a + 1 ∧ a + 1 ≤ m := by omega
  clear h1
  go_wp2
  go_loopg [10, 11] (b - a) (fun kx s10 s11 wr => ∃ i j : Nat, s10 = .int .i64 i ∧ s11 = .int .i64 j ∧ m ≤ i ∧ i ≤ j ∧ j ≤ b ∧ j - i ≤ kx ∧ Aside (SWK enc k w0 blk off d wr) ∧ Hid (bsr (fun h => ltOf cf d[h]! d[a]!) i j = bsr (fun h => ltOf cf d[h]! d[a]!) m b))
  case atStart => exact ⟨m, b, rfl, rfl, Nat.le_refl _, by omega, Nat.le_refl _, by omega, S0, rfl⟩
  case round =>
    clear S0
    obtain ⟨i, j, rfl, rfl, hmi, hij, hjb, hkx, S1, HE⟩ := hrel
    by_cases h0 : i < j
    · have h0z : (i : Int) < (j : Int) := by omega
      obtain ⟨cc, hcc⟩ : ∃ cc, cc = (i + j) / 2 := ⟨_, rfl⟩
      have hcz : ((i : Int) + (j : Int)) / 2 = (cc : Int) := by omega
      have hcl : 2 * cc ≤ i + j ∧ i + j ≤ 2 * cc + 1 := by omega
      have HCC := Lib.hid hcc
      clear hcc
      cases hL : ltOf cf d[cc]! d[a]! with
      | true =>
        have ea12 : ((cc : Int)).toNat = cc := by omega
        have pa12 : (0 : Int) ≤ (cc : Int) := by omega
        have ba12 : (cc : Int) < (d.size : Int) := by omega
        have ra12 : IntKind.i64.wrap ((cc : Int)) = (cc : Int) := by rw [IntKind.wrap_i64]; omega
        have ec12 : ((a : Int)).toNat = a := by omega
        have pc12 : (0 : Int) ≤ (a : Int) := by omega
        have bc12 : (a : Int) < (d.size : Int) := by omega
        have rc12 : IntKind.i64.wrap ((a : Int)) = (a : Int) := by rw [IntKind.wrap_i64]; omega
        obtain ⟨x12, hx12⟩ : ∃ x, x = d[cc]! := ⟨_, rfl⟩
        obtain ⟨y12, hy12⟩ : ∃ x, x = d[a]! := ⟨_, rfl⟩
        have l12a := S1.out.ld R (by omega) P (cc) (by omega)
        have l12b := S1.out.ld R (by omega) P (a) (by omega)
        rw [← hx12] at l12a
        rw [← hy12] at l12b
        have hc12 := S1.out.cmp HC.out (by omega) x12 y12
        have hv12 : cf x12 y12 < 0 := by rw [hx12, hy12]; exact of_decide_eq_true hL
        have hd12 : decide (cf x12 y12 < 0) = true := decide_eq_true hv12
        clear hx12 hy12
        go_wp2_with fail
        go_quiet_grown (first | (go_at_fn g; refine Calls.grown_of (hc12 _ _)))
        have S2 : Aside (SWK enc k w0 blk off d (grow (wr.drewN nq) osq)) := S1.out.grown nq osq
        clear l12a l12b hc12 S1
        generalize grow (wr.drewN nq) osq = w2 at S2 ⊢
        clear nq osq
        have HE2 : Hid (bsr (fun h => ltOf cf d[h]! d[a]!) (cc + 1) j = bsr (fun h => ltOf cf d[h]! d[a]!) m b) := by
          have := bsr_t (fun h => ltOf cf d[h]! d[a]!) i j h0 (by rw [← HCC.out]; exact hL)
          rw [← HCC.out] at this
          exact (show _ = _ from this.symm.trans HE.out)
        go_wp2
        go_roundg (j - (cc + 1))
        case measure => omega
        case rel => exact ⟨cc + 1, j, by go_num, rfl, by omega, by omega, hjb, Nat.le_refl _, S2, HE2⟩
      | false =>
        have ea13 : ((cc : Int)).toNat = cc := by omega
        have pa13 : (0 : Int) ≤ (cc : Int) := by omega
        have ba13 : (cc : Int) < (d.size : Int) := by omega
        have ra13 : IntKind.i64.wrap ((cc : Int)) = (cc : Int) := by rw [IntKind.wrap_i64]; omega
        have ec13 : ((a : Int)).toNat = a := by omega
        have pc13 : (0 : Int) ≤ (a : Int) := by omega
        have bc13 : (a : Int) < (d.size : Int) := by omega
        have rc13 : IntKind.i64.wrap ((a : Int)) = (a : Int) := by rw [IntKind.wrap_i64]; omega
        obtain ⟨x13, hx13⟩ : ∃ x, x = d[cc]! := ⟨_, rfl⟩
        obtain ⟨y13, hy13⟩ : ∃ x, x = d[a]! := ⟨_, rfl⟩
        have l13a := S1.out.ld R (by omega) P (cc) (by omega)
        have l13b := S1.out.ld R (by omega) P (a) (by omega)
        rw [← hx13] at l13a
        rw [← hy13] at l13b
        have hc13 := S1.out.cmp HC.out (by omega) x13 y13
        have hv13 : ¬ cf x13 y13 < 0 := by rw [hx13, hy13]; exact of_decide_eq_false hL
        have hd13 : decide (cf x13 y13 < 0) = false := decide_eq_false hv13
        clear hx13 hy13
        go_wp2_with fail
        go_quiet_grown (first | (go_at_fn g; refine Calls.grown_of (hc13 _ _)))
        have S2 : Aside (SWK enc k w0 blk off d (grow (wr.drewN nq) osq)) := S1.out.grown nq osq
        clear l13a l13b hc13 S1
        generalize grow (wr.drewN nq) osq = w2 at S2 ⊢
        clear nq osq
        have HE2 : Hid (bsr (fun h => ltOf cf d[h]! d[a]!) i cc = bsr (fun h => ltOf cf d[h]! d[a]!) m b) := by
          have := bsr_f (fun h => ltOf cf d[h]! d[a]!) i j h0 (by rw [← HCC.out]; exact hL)
          rw [← HCC.out] at this
          exact (show _ = _ from this.symm.trans HE.out)
        go_wp2
        go_roundg (cc - i)
        case measure => omega
        case rel => exact ⟨i, cc, rfl, rfl, hmi, by omega, by omega, Nat.le_refl _, S2, HE2⟩
    · obtain rfl : j = i := by omega
      have h0z : ¬ (j : Int) < (j : Int) := by omega
      go_wp2
      go_loopg [13] b (fun ky s13 wr2 => ∃ (c n : Nat) (dk : Array α), s13 = .int .i64 c ∧ (c ≤ a + n ∧ a + n ≤ c) ∧ c ≤ j - 1 ∧ j - 1 - c ≤ ky ∧ dk.size = d.size ∧ Aside (SWK enc k w0 blk off dk wr2) ∧ Hid (dk = shiftUp d a n))
      case atStart => exact ⟨a, 0, d, rfl, by omega, by omega, by omega, rfl, S1, rfl⟩
      case round =>
        clear S1
        obtain ⟨c, n, dk, rfl, hcn, hcj, hky, hds, S1, HK⟩ := hrel
        by_cases h3 : c < j - 1
        · have h3z : (c : Int) < (j : Int) - 1 := by omega
          go_wp2_with fail
          have ea14 : ((c : Int)).toNat = c := by omega
          have pa14 : (0 : Int) ≤ (c : Int) := by omega
          have ba14 : (c : Int) < (d.size : Int) := by omega
          have ra14 : IntKind.i64.wrap ((c : Int)) = (c : Int) := by rw [IntKind.wrap_i64]; omega
          have ec14 : ((c : Int) + 1).toNat = c + 1 := by omega
          have pc14 : (0 : Int) ≤ (c : Int) + 1 := by omega
          have bc14 : (c : Int) + 1 < (d.size : Int) := by omega
          have rc14 : IntKind.i64.wrap ((c : Int) + 1) = (c : Int) + 1 := by rw [IntKind.wrap_i64]; omega
          have S2 : Aside (SWK enc k w0 blk off (swp dk (c) (c + 1)) ((wr.drew.setCells blk (off + (c) * k) (enc dk[c + 1]!)).setCells blk (off + (c + 1) * k) (enc dk[c]!))) := S1.out.swapped R (c) (c + 1) (by omega) (by omega)
          have l14a := S1.out.ld1 R (by omega) P (c) (by omega)
          have l14b := S1.out.ld1 R (by omega) P (c + 1) (by omega)
          have s14a := S1.out.st1 R (by omega) P (c) (by omega) dk[c + 1]!
          have s14b := S1.out.st2 R (by omega) P (c) (c + 1) (by omega) (by omega) dk[c + 1]! dk[c]!
          have n14a : (enc dk[c]!).length = k := R.hk _
          have n14b : (enc dk[c + 1]!).length = k := R.hk _
          generalize enc dk[c]! = cI14 at S2 l14a s14b n14a
          generalize enc dk[c + 1]! = cJ14 at S2 l14b s14a s14b n14b
          clear S1
          go_wp2_with fail
          go_big_region_o
          clear l14a l14b s14a s14b
          generalize (wr.drew.setCells blk (off + (c) * k) cJ14).setCells blk (off + (c + 1) * k) cI14 = w2 at S2 ⊢
          go_wp2
          go_roundg (j - 1 - (c + 1))
          case measure => omega
          case rel => exact ⟨c + 1, n + 1, swp dk c (c + 1), by go_num, by omega, by omega, Nat.le_refl _, by rw [size_swp]; exact hds, S2, (show Hid _ from by rw [HK.out, show c = a + n by omega]; exact rfl)⟩
        · have h3z : ¬ (c : Int) < (j : Int) - 1 := by omega
          go_wp2
          (try simp only [Exit.inBlock, Exit.then]); refine bodyPost_ret (results_none rfl _ _ _) rfl ?_
          have hE := HE.out
          rw [bsr_ge _ j j (Nat.le_refl _)] at hE
          obtain rfl := H1.out
          have hP := sym_a1 (d := d) hO (show a + 1 < b from hmb) hb hE
          rw [show j - 1 - a = n by omega, ← HK.out] at hP
          exact ⟨rfl, dk, hP, S1.out⟩

set_option maxHeartbeats 16000000 in
set_option maxRecDepth 1000000 in
theorem symB_w {k : Nat} (L : Srt P k) (enc : α → List Value) (cf : α → α → Int) (g : Nat) (cb : Array Value) (blk off cap : Nat) (hO : SWO (ltOf cf)) (d0 : Array α) (w0 : World)
    (eg : ∀ args w, (callFunc g args).run P w = .ok (.enter g args) w) (hcmp : CmpLays P g cb enc k cf blk off d0.size w0) (R : RowK enc k w0 blk off d0)
    (a m b : Nat) (d : Array α) (w : World) (hs : d0.size = d.size) (S : SWK enc k w0 blk off d w) (ham : a < m) (hmb : m < b) (hb : b ≤ d.size) (hsz : d.size < 4611686018427387904) (h1 : ¬ m = a + 1) (h2 : b = m + 1) :
    Calls P 86 #[.slice (some ⟨blk, off, none⟩) d.size cap, .int .i64 a, .int .i64 m, .int .i64 b, .func (.func g) #[] cb] w fun e w' =>
      e = .returned (.tuple #[]) ∧ ∃ d', SymP (ltOf cf) a m b d d' ∧ SWK enc k w0 blk off d' w' := by
  have mixed := L.mixed; have t0 := L.t0; have a0 := L.a0; have z0 := L.z0; have v0 := L.v0; have t3 := L.t3; have a3 := L.a3; have z3 := L.z3; have v3 := L.v3; have t4 := L.t4; have a4 := L.a4; have z4 := L.z4; have v4 := L.v4; have t27 := L.t27; have a27 := L.a27; have z27 := L.z27; have v27 := L.v27; have t69 := L.t69; have a69 := L.a69; have z69 := L.z69; have v69 := L.v69; have aE := L.aE; have zE := L.zE
  have u0 := run_underlying L.t0; have u3 := run_underlying L.t3; have u4 := run_underlying L.t4; have u99 := run_underlying L.t99; have u27 := run_underlying L.t27; have t99 := L.t99; have a99 := L.a99; have z99 := L.z99; have v99 := L.v99
  have HC : Aside _ := hcmp
  clear hcmp
  have S0 : Aside (SWK enc k w0 blk off d w) := S
  clear S
  go_enter L.f86, Try.ntmps86
  have h1z : ¬ ((m : Int) - (a : Int) = 1) := by omega
  have h1b : ((m : Int) - (a : Int) == 1) = false := by simp only [beq_eq_false_iff_ne]; omega
  have h2z : (b : Int) - (m : Int) = 1 := by omega
  have h2b : ((b : Int) - (m : Int) == 1) = true := by simp only [beq_iff_eq]; omega
  have H2 := Lib.hid h2
  have h2l : b ≤ m + 1 ∧ m + 1 ≤ b := by omega
  clear h2
  go_wp2
  go_loopg [14, 15] (b - a) (fun kx s10 s11 wr => ∃ i j : Nat, s10 = .int .i64 i ∧ s11 = .int .i64 j ∧ a ≤ i ∧ i ≤ j ∧ j ≤ m ∧ j - i ≤ kx ∧ Aside (SWK enc k w0 blk off d wr) ∧ Hid (bsr (fun h => !ltOf cf d[m]! d[h]!) i j = bsr (fun h => !ltOf cf d[m]! d[h]!) a m))
  case atStart => exact ⟨a, m, rfl, rfl, Nat.le_refl _, by omega, Nat.le_refl _, by omega, S0, rfl⟩
  case round =>
    clear S0
    obtain ⟨i, j, rfl, rfl, hai, hij, hjm, hkx, S1, HE⟩ := hrel
    by_cases h0 : i < j
    · have h0z : (i : Int) < (j : Int) := by omega
      obtain ⟨cc, hcc⟩ : ∃ cc, cc = (i + j) / 2 := ⟨_, rfl⟩
      have hcz : ((i : Int) + (j : Int)) / 2 = (cc : Int) := by omega
      have hcl : 2 * cc ≤ i + j ∧ i + j ≤ 2 * cc + 1 := by omega
      have HCC := Lib.hid hcc
      clear hcc
      cases hL : ltOf cf d[m]! d[cc]! with
      | false =>
        have ea23 : ((m : Int)).toNat = m := by omega
        have pa23 : (0 : Int) ≤ (m : Int) := by omega
        have ba23 : (m : Int) < (d.size : Int) := by omega
        have ra23 : IntKind.i64.wrap ((m : Int)) = (m : Int) := by rw [IntKind.wrap_i64]; omega
        have ec23 : ((cc : Int)).toNat = cc := by omega
        have pc23 : (0 : Int) ≤ (cc : Int) := by omega
        have bc23 : (cc : Int) < (d.size : Int) := by omega
        have rc23 : IntKind.i64.wrap ((cc : Int)) = (cc : Int) := by rw [IntKind.wrap_i64]; omega
        obtain ⟨x23, hx23⟩ : ∃ x, x = d[m]! := ⟨_, rfl⟩
        obtain ⟨y23, hy23⟩ : ∃ x, x = d[cc]! := ⟨_, rfl⟩
        have l23a := S1.out.ld R (by omega) P (m) (by omega)
        have l23b := S1.out.ld R (by omega) P (cc) (by omega)
        rw [← hx23] at l23a
        rw [← hy23] at l23b
        have hc23 := S1.out.cmp HC.out (by omega) x23 y23
        have hv23 : ¬ cf x23 y23 < 0 := by rw [hx23, hy23]; exact of_decide_eq_false hL
        have hd23 : decide (cf x23 y23 < 0) = false := decide_eq_false hv23
        clear hx23 hy23
        go_wp2_with fail
        go_quiet_grown (first | (go_at_fn g; refine Calls.grown_of (hc23 _ _)))
        have S2 : Aside (SWK enc k w0 blk off d (grow (wr.drewN nq) osq)) := S1.out.grown nq osq
        clear l23a l23b hc23 S1
        generalize grow (wr.drewN nq) osq = w2 at S2 ⊢
        clear nq osq
        have HE2 : Hid (bsr (fun h => !ltOf cf d[m]! d[h]!) (cc + 1) j = bsr (fun h => !ltOf cf d[m]! d[h]!) a m) := by
          have := bsr_t (fun h => !ltOf cf d[m]! d[h]!) i j h0 (by rw [← HCC.out]; show (!ltOf cf d[m]! d[cc]!) = true; rw [hL]; rfl)
          rw [← HCC.out] at this
          exact (show _ = _ from this.symm.trans HE.out)
        go_wp2
        go_roundg (j - (cc + 1))
        case measure => omega
        case rel => exact ⟨cc + 1, j, by go_num, rfl, by omega, by omega, hjm, Nat.le_refl _, S2, HE2⟩
      | true =>
        have ea24 : ((m : Int)).toNat = m := by omega
        have pa24 : (0 : Int) ≤ (m : Int) := by omega
        have ba24 : (m : Int) < (d.size : Int) := by omega
        have ra24 : IntKind.i64.wrap ((m : Int)) = (m : Int) := by rw [IntKind.wrap_i64]; omega
        have ec24 : ((cc : Int)).toNat = cc := by omega
        have pc24 : (0 : Int) ≤ (cc : Int) := by omega
        have bc24 : (cc : Int) < (d.size : Int) := by omega
        have rc24 : IntKind.i64.wrap ((cc : Int)) = (cc : Int) := by rw [IntKind.wrap_i64]; omega
        obtain ⟨x24, hx24⟩ : ∃ x, x = d[m]! := ⟨_, rfl⟩
        obtain ⟨y24, hy24⟩ : ∃ x, x = d[cc]! := ⟨_, rfl⟩
        have l24a := S1.out.ld R (by omega) P (m) (by omega)
        have l24b := S1.out.ld R (by omega) P (cc) (by omega)
        rw [← hx24] at l24a
        rw [← hy24] at l24b
        have hc24 := S1.out.cmp HC.out (by omega) x24 y24
        have hv24 : cf x24 y24 < 0 := by rw [hx24, hy24]; exact of_decide_eq_true hL
        have hd24 : decide (cf x24 y24 < 0) = true := decide_eq_true hv24
        clear hx24 hy24
        go_wp2_with fail
        go_quiet_grown (first | (go_at_fn g; refine Calls.grown_of (hc24 _ _)))
        have S2 : Aside (SWK enc k w0 blk off d (grow (wr.drewN nq) osq)) := S1.out.grown nq osq
        clear l24a l24b hc24 S1
        generalize grow (wr.drewN nq) osq = w2 at S2 ⊢
        clear nq osq
        have HE2 : Hid (bsr (fun h => !ltOf cf d[m]! d[h]!) i cc = bsr (fun h => !ltOf cf d[m]! d[h]!) a m) := by
          have := bsr_f (fun h => !ltOf cf d[m]! d[h]!) i j h0 (by rw [← HCC.out]; show (!ltOf cf d[m]! d[cc]!) = false; rw [hL]; rfl)
          rw [← HCC.out] at this
          exact (show _ = _ from this.symm.trans HE.out)
        go_wp2
        go_roundg (cc - i)
        case measure => omega
        case rel => exact ⟨i, cc, rfl, rfl, hai, by omega, by omega, Nat.le_refl _, S2, HE2⟩
    · obtain rfl : j = i := by omega
      have h0z : ¬ (j : Int) < (j : Int) := by omega
      go_wp2
      go_loopg [17] b (fun ky s17 wr2 => ∃ (c n : Nat) (dk : Array α), s17 = .int .i64 c ∧ (c + n ≤ m ∧ m ≤ c + n) ∧ j ≤ c ∧ c - j ≤ ky ∧ dk.size = d.size ∧ Aside (SWK enc k w0 blk off dk wr2) ∧ Hid (dk = shiftDn d m n))
      case atStart => exact ⟨m, 0, d, rfl, by omega, by omega, by omega, rfl, S1, rfl⟩
      case round =>
        clear S1
        obtain ⟨c, n, dk, rfl, hcn, hcj, hky, hds, S1, HK⟩ := hrel
        by_cases h3 : j < c
        · have h3z : (j : Int) < (c : Int) := by omega
          go_wp2_with fail
          have ea25 : ((c : Int)).toNat = c := by omega
          have pa25 : (0 : Int) ≤ (c : Int) := by omega
          have ba25 : (c : Int) < (d.size : Int) := by omega
          have ra25 : IntKind.i64.wrap ((c : Int)) = (c : Int) := by rw [IntKind.wrap_i64]; omega
          have ec25 : ((c : Int) - 1).toNat = c - 1 := by omega
          have pc25 : (0 : Int) ≤ (c : Int) - 1 := by omega
          have bc25 : (c : Int) - 1 < (d.size : Int) := by omega
          have rc25 : IntKind.i64.wrap ((c : Int) - 1) = (c : Int) - 1 := by rw [IntKind.wrap_i64]; omega
          have S2 : Aside (SWK enc k w0 blk off (swp dk (c) (c - 1)) ((wr.drew.setCells blk (off + (c) * k) (enc dk[c - 1]!)).setCells blk (off + (c - 1) * k) (enc dk[c]!))) := S1.out.swapped R (c) (c - 1) (by omega) (by omega)
          have l25a := S1.out.ld1 R (by omega) P (c) (by omega)
          have l25b := S1.out.ld1 R (by omega) P (c - 1) (by omega)
          have s25a := S1.out.st1 R (by omega) P (c) (by omega) dk[c - 1]!
          have s25b := S1.out.st2 R (by omega) P (c) (c - 1) (by omega) (by omega) dk[c - 1]! dk[c]!
          have n25a : (enc dk[c]!).length = k := R.hk _
          have n25b : (enc dk[c - 1]!).length = k := R.hk _
          generalize enc dk[c]! = cI25 at S2 l25a s25b n25a
          generalize enc dk[c - 1]! = cJ25 at S2 l25b s25a s25b n25b
          clear S1
          go_wp2_with fail
          go_big_region_o
          clear l25a l25b s25a s25b
          generalize (wr.drew.setCells blk (off + (c) * k) cJ25).setCells blk (off + (c - 1) * k) cI25 = w2 at S2 ⊢
          go_wp2
          go_roundg (c - 1 - j)
          case measure => omega
          case rel => exact ⟨c - 1, n + 1, swp dk c (c - 1), by congr 1; omega, by omega, by omega, Nat.le_refl _, by rw [size_swp]; exact hds, S2, (show Hid _ from by rw [HK.out, show c = m - n by omega]; exact rfl)⟩
        · have h3z : ¬ (j : Int) < (c : Int) := by omega
          go_wp2
          (try simp only [Exit.inBlock, Exit.then]); refine bodyPost_ret (results_none rfl _ _ _) rfl ?_
          have hE := HE.out
          rw [bsr_ge _ j j (Nat.le_refl _)] at hE
          obtain rfl := H2.out
          have hP := sym_b1 (d := d) hO ham hb hE
          rw [show m - j = n by omega, ← HK.out] at hP
          exact ⟨rfl, dk, hP, S1.out⟩

end Go.Proofs.Ytkinhhkodaacjaa
