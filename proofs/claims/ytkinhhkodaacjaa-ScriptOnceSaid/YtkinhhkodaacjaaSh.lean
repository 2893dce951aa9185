/- The library's stable sort at structs, further on. -/
import Derived.Test.YtkinhhkodaacjaaSg
namespace Go.Proofs.Ytkinhhkodaacjaa
open Go.Shelf Go.RowKit Go.Lib Go.Sort
variable {P : Program} {α : Type} [Inhabited α]

theorem symMerge_w {k : Nat} (L : Srt P k) (enc : α → List Value) (cf : α → α → Int) (g : Nat) (cb : Array Value) (blk off cap : Nat) (hO : SWO (ltOf cf)) (d0 : Array α) (w0 : World)
    (eg : ∀ args w, (callFunc g args).run P w = .ok (.enter g args) w) (hcmp : CmpLays P g cb enc k cf blk off d0.size w0) (R : RowK enc k w0 blk off d0) :
    ∀ (N a m b : Nat) (d : Array α) (w : World), b - a < N → d0.size = d.size → SWK enc k w0 blk off d w → a < m → m < b → b ≤ d.size → d.size < 4611686018427387904 →
    Calls P 86 #[.slice (some ⟨blk, off, none⟩) d.size cap, .int .i64 a, .int .i64 m, .int .i64 b, .func (.func g) #[] cb] w fun e w' =>
      e = .returned (.tuple #[]) ∧ ∃ d', SymP (ltOf cf) a m b d d' ∧ SWK enc k w0 blk off d' w' := by
  intro N
  induction N with
  | zero => intro _ _ _ _ _ h; exact absurd h (Nat.not_lt_zero _)
  | succ N ih =>
    intro a m b d w hN hs S ham hmb hb hsz
    by_cases h1 : m = a + 1
    · exact symA_w L enc cf g cb blk off cap hO d0 w0 eg hcmp R a m b d w hs S ham hmb hb hsz h1
    · by_cases h2 : b = m + 1
      · exact symB_w L enc cf g cb blk off cap hO d0 w0 eg hcmp R a m b d w hs S ham hmb hb hsz h1 h2
      · exact symG_w L enc cf g cb blk off cap hO d0 w0 eg hcmp R N ih a m b d w hN hs S ham hmb hb hsz h1 h2

set_option maxHeartbeats 16000000 in
set_option maxRecDepth 1000000 in
theorem stable_w {k : Nat} (L : Srt P k) (enc : α → List Value) (cf : α → α → Int) (g : Nat) (cb : Array Value) (blk off cap : Nat) (hO : SWO (ltOf cf)) (d0 : Array α) (w0 : World)
    (eg : ∀ args w, (callFunc g args).run P w = .ok (.enter g args) w) (hcmp : CmpLays P g cb enc k cf blk off d0.size w0) (R : RowK enc k w0 blk off d0) (hsz : d0.size ≤ 1000000)
    (hins : ∀ (a b : Nat) (d : Array α) (w : World), d0.size = d.size → SWK enc k w0 blk off d w → a ≤ b → b ≤ d.size →
      Calls P 85 #[.slice (some ⟨blk, off, none⟩) d.size cap, .int .i64 a, .int .i64 b, .func (.func g) #[] cb] w fun e w' => e = .returned (.tuple #[]) ∧ SWK enc k w0 blk off (Sort.insertionSort (ltOf cf) d a b) w') :
    Calls P 63 #[.slice (some ⟨blk, off, none⟩) d0.size cap, .int .i64 d0.size, .func (.func g) #[] cb] w0 fun e w' =>
      e = .returned (.tuple #[]) ∧ ∃ d', PermIn 0 d0.size d0 d' ∧ SortedIn (ltOf cf) 0 d0.size d' ∧ (SortedIn (ltOf cf) 0 d0.size d0 → d' = d0) ∧ SWK enc k w0 blk off d' w' := by
  have mixed := L.mixed; have t0 := L.t0; have a0 := L.a0; have z0 := L.z0; have v0 := L.v0; have t3 := L.t3; have a3 := L.a3; have z3 := L.z3; have v3 := L.v3; have t4 := L.t4; have a4 := L.a4; have z4 := L.z4; have v4 := L.v4; have t27 := L.t27; have a27 := L.a27; have z27 := L.z27; have v27 := L.v27; have t69 := L.t69; have a69 := L.a69; have z69 := L.z69; have v69 := L.v69; have aE := L.aE; have zE := L.zE
  have e85 : ∀ args w, (callFunc 85 args).run P w = .ok (.enter 85 args) w := enters_of L.f85 (by kernel_rfl) rfl
  have e86 : ∀ args w, (callFunc 86 args).run P w = .ok (.enter 86 args) w := enters_of L.f86 (by kernel_rfl) rfl
  have hsym : ∀ (a m b : Nat) (d : Array α) (w : World), d0.size = d.size → SWK enc k w0 blk off d w → a < m → m < b → b ≤ d.size →
      Calls P 86 #[.slice (some ⟨blk, off, none⟩) d.size cap, .int .i64 a, .int .i64 m, .int .i64 b, .func (.func g) #[] cb] w fun e w' => e = .returned (.tuple #[]) ∧ ∃ d', SymP (ltOf cf) a m b d d' ∧ SWK enc k w0 blk off d' w' :=
    fun a m b d w q1 q2 q3 q4 q5 => symMerge_w L enc cf g cb blk off cap hO d0 w0 eg hcmp R (b - a + 1) a m b d w (by omega) q1 q2 q3 q4 q5 (by omega)
  have HSYM := Lib.hid hsym
  have HINS := Lib.hid hins
  have S0 : Aside (SWK enc k w0 blk off d0 w0) := SWK.start R.hH
  have HR := Lib.hid R
  clear hsym hins hcmp R
  obtain ⟨n, hn⟩ : ∃ n, n = d0.size := ⟨_, rfl⟩
  rw [← hn] at hsz ⊢
  have HN : Hid (n = d0.size) := hn
  clear hn
  go_enter L.f63, Try.ntmps63
  go_wp2
  go_loopg [7, 8] n (fun kx s7 s8 wr => ∃ (A B q : Nat) (dk : Array α), s7 = .int .i64 A ∧ s8 = .int .i64 B ∧ Hid (A = q * 20) ∧ (B ≤ A + 20 ∧ A + 20 ≤ B) ∧ A ≤ n ∧ n - A ≤ kx ∧ Hid (dk.size = d0.size) ∧ Aside (SWK enc k w0 blk off dk wr) ∧ Hid (I1 (ltOf cf) n q d0 dk))
  case atStart => exact ⟨0, 20, 0, d0, rfl, rfl, rfl, by omega, Nat.zero_le _, by omega, rfl, S0, I1.start n d0⟩
  case round =>
    clear S0
    obtain ⟨A, B, q, dk, rfl, rfl, HA, hB, hAn, hkx, HD, S1, HI⟩ := hrel
    by_cases h0 : B ≤ n
    · have h0z : (B : Int) ≤ (n : Int) := by omega
      have hc := HINS.out A B dk wr HD.out.symm S1.out (by omega) (by rw [HD.out, ← HN.out]; exact h0)
      rw [HD.out, ← HN.out] at hc
      go_wp2_with (go_at_fn 85; refine hc.mono ?_; rintro e w1 ⟨rfl, S2⟩)
      have hq := I1.step hO HN.out HI.out (by have := HA.out; omega)
      rw [← HA.out, show A + 20 = B by omega] at hq
      have HQ : Hid _ := hq
      clear hq
      go_roundg (n - B)
      case measure => omega
      case rel => exact ⟨B, B + 20, q + 1, _, rfl, by go_num, (show B = (q + 1) * 20 by have := HA.out; omega), by omega, h0, Nat.le_refl _, HQ.out.perm.1, S2, HQ.out⟩
    · have h0z : ¬ (B : Int) ≤ (n : Int) := by omega
      have hc := HINS.out A n dk wr HD.out.symm S1.out (by omega) (by rw [HD.out, ← HN.out]; exact Nat.le_refl _)
      rw [HD.out, ← HN.out] at hc
      go_wp2_with (go_at_fn 85; refine hc.mono ?_; rintro e w1 ⟨rfl, S2⟩)
      have hq := I1.done hO HN.out HI.out (by have := HA.out; omega) (by have := HA.out; omega)
      rw [← HA.out] at hq
      have HQ : Hid _ := hq
      clear hq S1 HD HI HA
      go_loopg [6, 7, 8, 9] n (fun ky s6 s7 s8 s9 wr => ∃ (bs : Nat) (dk : Array α), s6 = .int .i64 bs ∧ 20 ≤ bs ∧ bs ≤ 2000000 ∧ n - bs ≤ ky ∧ Hid (dk.size = d0.size) ∧ Aside (SWK enc k w0 blk off dk wr) ∧ Hid (I2 (ltOf cf) n bs d0 dk))
      case atStart => exact ⟨20, _, rfl, by omega, by omega, by omega, HQ.out.perm.1, S2, HQ.out⟩
      case round =>
        clear S2 HQ
        obtain ⟨bs, dk, rfl, hb1, hb2, hky, HD, S1, HI⟩ := hrel
        by_cases h1 : bs < n
        · have h1z : (bs : Int) < (n : Int) := by omega
          go_wp2
          go_loopg [7, 8] n (fun kz s7 s8 wr2 => ∃ (A B q : Nat) (dk : Array α), s7 = .int .i64 A ∧ s8 = .int .i64 B ∧ Hid (A = q * (2 * bs)) ∧ (B ≤ A + 2 * bs ∧ A + 2 * bs ≤ B) ∧ A ≤ n ∧ n - A ≤ kz ∧ Hid (dk.size = d0.size) ∧ Aside (SWK enc k w0 blk off dk wr2) ∧ Hid (I3 (ltOf cf) n bs q d0 dk))
          case atStart => exact ⟨0, 2 * bs, 0, dk, rfl, by go_num, (show 0 = 0 * (2 * bs) by omega), by omega, Nat.zero_le _, by omega, HD, S1, I2.start HI.out⟩
          case round =>
            clear S1 HI HD
            obtain ⟨A, B, q, dk, rfl, rfl, HA, hB, hAn, hkz, HD, S1, HI⟩ := hrel
            by_cases h2 : B ≤ n
            · have h2z : (B : Int) ≤ (n : Int) := by omega
              have hc := HSYM.out A (A + bs) B dk wr HD.out.symm S1.out (by omega) (by omega) (by rw [HD.out, ← HN.out]; exact h2)
              rw [HD.out, ← HN.out, show ((A + bs : Nat) : Int) = (A : Int) + (bs : Int) by omega] at hc
              go_wp2_with (go_at_fn 86; refine hc.mono ?_; rintro e w2 ⟨rfl, d', hp, S2⟩)
              have hq : I3 (ltOf cf) n bs (q + 1) d0 d' := I3.step HN.out HI.out (by rw [← HA.out]; omega) (by rw [← HA.out, show A + 2 * bs = B by omega]; exact hp)
              have HQ : Hid _ := hq
              clear hq hp
              go_roundg (n - B)
              case measure => omega
              case rel => exact ⟨B, B + 2 * bs, q + 1, d', rfl, by go_num, (show B = (q + 1) * (2 * bs) by rw [Nat.add_mul, ← HA.out]; omega), by omega, h2, Nat.le_refl _, HQ.out.perm.1, S2, HQ.out⟩
            · have h2z : ¬ (B : Int) ≤ (n : Int) := by omega
              by_cases h3 : A + bs < n
              · have h3z : (A : Int) + (bs : Int) < (n : Int) := by omega
                have hc := HSYM.out A (A + bs) n dk wr HD.out.symm S1.out (by omega) h3 (by rw [HD.out, ← HN.out]; exact Nat.le_refl _)
                rw [HD.out, ← HN.out, show ((A + bs : Nat) : Int) = (A : Int) + (bs : Int) by omega] at hc
                go_wp2_with (go_at_fn 86; refine hc.mono ?_; rintro e w2 ⟨rfl, d', hp, S2⟩)
                have hq : I2 (ltOf cf) n (2 * bs) d0 d' := I3.done HN.out HI.out (by rw [← HA.out]; exact hAn) (by rw [← HA.out]; omega) (fun _ => by rw [← HA.out]; exact hp) (fun h => absurd (by rw [← HA.out]; exact h3) h)
                have HQ : Hid _ := hq
                clear hq hp
                go_roundg (n - 2 * bs)
                case measure => omega
                case rel => exact ⟨2 * bs, d', by congr 1; omega, by omega, by omega, Nat.le_refl _, HQ.out.perm.1, S2, HQ.out⟩
              · have h3z : ¬ (A : Int) + (bs : Int) < (n : Int) := by omega
                go_wp2
                have hq : I2 (ltOf cf) n (2 * bs) d0 dk := I3.done HN.out HI.out (by rw [← HA.out]; exact hAn) (by rw [← HA.out]; omega) (fun h => absurd (by rw [← HA.out] at h; exact h) h3) (fun _ => rfl)
                have HQ : Hid _ := hq
                clear hq
                go_roundg (n - 2 * bs)
                case measure => omega
                case rel => exact ⟨2 * bs, dk, by congr 1; omega, by omega, by omega, Nat.le_refl _, HQ.out.perm.1, S1, HQ.out⟩
        · have h1z : ¬ (bs : Int) < (n : Int) := by omega
          go_wp2
          go_end0
          have hq := HI.out
          rw [HN.out] at hq
          exact ⟨rfl, dk, by rw [HN.out]; exact hq.perm, by rw [HN.out]; exact hq.sorted (by have := HN.out; omega), by rw [HN.out]; exact hq.stay, S1.out⟩

end Go.Proofs.Ytkinhhkodaacjaa
