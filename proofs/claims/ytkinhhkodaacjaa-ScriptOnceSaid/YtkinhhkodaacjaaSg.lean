/- The library's stable sort at structs, further on. -/
import Derived.Test.YtkinhhkodaacjaaSc
namespace Go.Proofs.Ytkinhhkodaacjaa
open Go.Shelf Go.RowKit Go.Lib Go.Sort
variable {P : Program} {α : Type} [Inhabited α]

set_option maxHeartbeats 16000000 in
set_option maxRecDepth 1000000 in
theorem symG_w {k : Nat} (L : Srt P k) (enc : α → List Value) (cf : α → α → Int) (g : Nat) (cb : Array Value) (blk off cap : Nat) (hO : SWO (ltOf cf)) (d0 : Array α) (w0 : World)
    (eg : ∀ args w, (callFunc g args).run P w = .ok (.enter g args) w) (hcmp : CmpLays P g cb enc k cf blk off d0.size w0) (R : RowK enc k w0 blk off d0)
    (N : Nat) (ih : (∀ (a m b : Nat) (d : Array α) (w : World), b - a < N → d0.size = d.size → SWK enc k w0 blk off d w → a < m → m < b → b ≤ d.size → d.size < 4611686018427387904 →
    Calls P 86 #[.slice (some ⟨blk, off, none⟩) d.size cap, .int .i64 a, .int .i64 m, .int .i64 b, .func (.func g) #[] cb] w fun e w' =>
      e = .returned (.tuple #[]) ∧ ∃ d', SymP (ltOf cf) a m b d d' ∧ SWK enc k w0 blk off d' w'))
    (a m b : Nat) (d : Array α) (w : World) (hN : b - a < N + 1) (hs : d0.size = d.size) (S : SWK enc k w0 blk off d w) (ham : a < m) (hmb : m < b) (hb : b ≤ d.size) (hsz : d.size < 4611686018427387904) (h1 : ¬ m = a + 1) (h2 : ¬ b = m + 1) :
    Calls P 86 #[.slice (some ⟨blk, off, none⟩) d.size cap, .int .i64 a, .int .i64 m, .int .i64 b, .func (.func g) #[] cb] w fun e w' =>
      e = .returned (.tuple #[]) ∧ ∃ d', SymP (ltOf cf) a m b d d' ∧ SWK enc k w0 blk off d' w' := by
  have e100 : ∀ args w, (callFunc 100 args).run P w = .ok (.enter 100 args) w := enters_of L.f100 (by kernel_rfl) rfl
  have e86 : ∀ args w, (callFunc 86 args).run P w = .ok (.enter 86 args) w := enters_of L.f86 (by kernel_rfl) rfl
  have IH := Lib.hid ih
  clear ih
  have mixed := L.mixed; have t0 := L.t0; have a0 := L.a0; have z0 := L.z0; have v0 := L.v0; have t3 := L.t3; have a3 := L.a3; have z3 := L.z3; have v3 := L.v3; have t4 := L.t4; have a4 := L.a4; have z4 := L.z4; have v4 := L.v4; have t27 := L.t27; have a27 := L.a27; have z27 := L.z27; have v27 := L.v27; have t69 := L.t69; have a69 := L.a69; have z69 := L.z69; have v69 := L.v69; have aE := L.aE; have zE := L.zE
  have u0 := run_underlying L.t0; have u3 := run_underlying L.t3; have u4 := run_underlying L.t4; have u99 := run_underlying L.t99; have u27 := run_underlying L.t27; have t99 := L.t99; have a99 := L.a99; have z99 := L.z99; have v99 := L.v99
  have HC : Aside _ := hcmp
  clear hcmp
  have S0 : Aside (SWK enc k w0 blk off d w) := S
  clear S
  go_enter L.f86, Try.ntmps86
  have h1z : ¬ ((m : Int) - (a : Int) = 1) := by omega
  have h1b : ((m : Int) - (a : Int) == 1) = false := by simp only [beq_eq_false_iff_ne]; omega
  have h2z : ¬ ((b : Int) - (m : Int) = 1) := by omega
  have h2b : ((b : Int) - (m : Int) == 1) = false := by simp only [beq_eq_false_iff_ne]; omega
  obtain ⟨mid, hmid⟩ : ∃ mid, mid = (a + b) / 2 := ⟨_, rfl⟩
  have hmz : ((a : Int) + (b : Int)) / 2 = (mid : Int) := by omega
  obtain ⟨nn, hnn⟩ : ∃ nn, nn = mid + m := ⟨_, rfl⟩
  have hnz : (mid : Int) + (m : Int) = (nn : Int) := by omega
  obtain ⟨pp, hpp⟩ : ∃ pp, pp = mid + m - 1 := ⟨_, rfl⟩
  have hpz : (nn : Int) - 1 = (pp : Int) := by omega
  obtain ⟨s0, hs0⟩ : ∃ s0, s0 = if mid < m then mid + m - b else a := ⟨_, rfl⟩
  obtain ⟨r0, hr0⟩ : ∃ r0, r0 = if mid < m then mid else m := ⟨_, rfl⟩
  obtain ⟨st, hst⟩ : ∃ st, st = bsr (fun c => !ltOf cf d[mid + m - 1 - c]! d[c]!) s0 r0 := ⟨_, rfl⟩
  obtain ⟨b1, b2, b3, b4, b5, b6, b7, b8, b9, b10⟩ := sym_bd ham hmb hmid hs0 hr0 hst
  have hcase : (mid < m ∧ r0 = mid ∧ s0 = mid + m - b) ∨ (m ≤ mid ∧ r0 = m ∧ s0 = a) := by
    by_cases hm : mid < m
    · rw [if_pos hm] at hs0 hr0; exact Or.inl ⟨hm, hr0, hs0⟩
    · rw [if_neg hm] at hs0 hr0; exact Or.inr ⟨by omega, hr0, hs0⟩
  obtain ⟨en, hen⟩ : ∃ en, en = mid + m - st := ⟨_, rfl⟩
  have HMID : Hid (mid = (a + b) / 2) := hmid
  have HS0 : Hid (s0 = if mid < m then mid + m - b else a) := hs0
  have HR0 : Hid (r0 = if mid < m then mid else m) := hr0
  have HST : Hid (st = bsr (fun c => !ltOf cf d[mid + m - 1 - c]! d[c]!) s0 r0) := hst
  have hmid2 : a ≤ mid ∧ mid < b := by omega
  have HNN := Lib.hid hnn
  have HPP := Lib.hid hpp
  have HEN := Lib.hid hen
  have hnl : nn ≤ mid + m ∧ mid + m ≤ nn := by omega
  have hpl : pp + 1 ≤ mid + m ∧ mid + m ≤ pp + 1 := by omega
  have hel : en + st ≤ mid + m ∧ mid + m ≤ en + st := by omega
  clear hmid hs0 hr0 hst hnn hpp hen
  go_upto_if 140 with fail
  go_cut [20, 21] from 25 (fun s20 s21 wx => s20 = .int .i64 s0 ∧ s21 = .int .i64 r0 ∧ Aside (SWK enc k w0 blk off d wx))
  case first => as_aux_lemma =>
    rcases hcase with ⟨q1, q2, q3⟩ | ⟨q1, q2, q3⟩
    · have qz : (mid : Int) < (m : Int) := by omega
      have Q2 := Lib.hid q2
      have q3l : s0 + b ≤ mid + m ∧ mid + m ≤ s0 + b := by omega
      clear q2 q3
      go_wp2_with fail
      go_meet
      case rel => exact ⟨by congr 1; omega, by rw [Q2.out], S0⟩
    · have qz : ¬ (mid : Int) < (m : Int) := by omega
      have Q2 := Lib.hid q2
      have Q3 := Lib.hid q3
      clear q2 q3
      go_wp2_with fail
      go_meet
      case rel => exact ⟨by rw [Q3.out], by rw [Q2.out], S0⟩
  case rest => as_aux_lemma =>
    clear S0
    obtain ⟨rfl, rfl, S0⟩ := hcut
    clear hcase
    go_wp2
    go_loopg [20, 21] (b - a) (fun kx s10 s11 wr => ∃ i j : Nat, s10 = .int .i64 i ∧ s11 = .int .i64 j ∧ s0 ≤ i ∧ i ≤ j ∧ j ≤ r0 ∧ j - i ≤ kx ∧ Aside (SWK enc k w0 blk off d wr) ∧ Hid (bsr (fun c => !ltOf cf d[mid + m - 1 - c]! d[c]!) i j = st))
    case atStart => exact ⟨s0, r0, rfl, rfl, Nat.le_refl _, b2, Nat.le_refl _, by omega, S0, HST.out.symm⟩
    case round =>
      clear S0
      obtain ⟨i, j, rfl, rfl, hsi, hij, hjr, hkx, S1, HE⟩ := hrel
      by_cases h0 : i < j
      · have h0z : (i : Int) < (j : Int) := by omega
        obtain ⟨cc, hcc⟩ : ∃ cc, cc = (i + j) / 2 := ⟨_, rfl⟩
        have hcz : ((i : Int) + (j : Int)) / 2 = (cc : Int) := by omega
        have hcl : 2 * cc ≤ i + j ∧ i + j ≤ 2 * cc + 1 := by omega
        have HCC := Lib.hid hcc
        clear hcc
        obtain ⟨qq, hqq⟩ : ∃ qq, qq = pp - cc := ⟨_, rfl⟩
        have hqz : (pp : Int) - (cc : Int) = (qq : Int) := by omega
        have hql : qq + cc ≤ pp ∧ pp ≤ qq + cc := by omega
        have HQQ := Lib.hid hqq
        clear hqq
        cases hL : ltOf cf d[qq]! d[cc]! with
        | false => as_aux_lemma =>
          have ea17 : ((qq : Int)).toNat = qq := by omega
          have pa17 : (0 : Int) ≤ (qq : Int) := by omega
          have ba17 : (qq : Int) < (d.size : Int) := by omega
          have ra17 : IntKind.i64.wrap ((qq : Int)) = (qq : Int) := by rw [IntKind.wrap_i64]; omega
          have ec17 : ((cc : Int)).toNat = cc := by omega
          have pc17 : (0 : Int) ≤ (cc : Int) := by omega
          have bc17 : (cc : Int) < (d.size : Int) := by omega
          have rc17 : IntKind.i64.wrap ((cc : Int)) = (cc : Int) := by rw [IntKind.wrap_i64]; omega
          obtain ⟨x17, hx17⟩ : ∃ x, x = d[qq]! := ⟨_, rfl⟩
          obtain ⟨y17, hy17⟩ : ∃ x, x = d[cc]! := ⟨_, rfl⟩
          have l17a := S1.out.ld R (by omega) P (qq) (by omega)
          have l17b := S1.out.ld R (by omega) P (cc) (by omega)
          rw [← hx17] at l17a
          rw [← hy17] at l17b
          have hc17 := S1.out.cmp HC.out (by omega) x17 y17
          have hv17 : ¬ cf x17 y17 < 0 := by rw [hx17, hy17]; exact of_decide_eq_false hL
          have hd17 : decide (cf x17 y17 < 0) = false := decide_eq_false hv17
          clear hx17 hy17
          go_wp2_with fail
          go_quiet_grown (first | (go_at_fn g; refine Calls.grown_of (hc17 _ _)))
          have S2 : Aside (SWK enc k w0 blk off d (grow (wr.drewN nq) osq)) := S1.out.grown nq osq
          clear l17a l17b hc17 S1
          generalize grow (wr.drewN nq) osq = w2 at S2 ⊢
          clear nq osq
          have HE2 : Hid (bsr (fun c => !ltOf cf d[mid + m - 1 - c]! d[c]!) (cc + 1) j = st) := by
            have := bsr_t (fun c => !ltOf cf d[mid + m - 1 - c]! d[c]!) i j h0 (by rw [← HCC.out, ← HPP.out, ← HQQ.out]; show (!ltOf cf d[qq]! d[cc]!) = true; rw [hL]; rfl)
            rw [← HCC.out] at this
            exact (show _ = _ from this.symm.trans HE.out)
          go_wp2
          go_roundg (j - (cc + 1))
          case measure => omega
          case rel => exact ⟨cc + 1, j, by go_num, rfl, by omega, by omega, hjr, Nat.le_refl _, S2, HE2⟩
        | true => as_aux_lemma =>
          have ea18 : ((qq : Int)).toNat = qq := by omega
          have pa18 : (0 : Int) ≤ (qq : Int) := by omega
          have ba18 : (qq : Int) < (d.size : Int) := by omega
          have ra18 : IntKind.i64.wrap ((qq : Int)) = (qq : Int) := by rw [IntKind.wrap_i64]; omega
          have ec18 : ((cc : Int)).toNat = cc := by omega
          have pc18 : (0 : Int) ≤ (cc : Int) := by omega
          have bc18 : (cc : Int) < (d.size : Int) := by omega
          have rc18 : IntKind.i64.wrap ((cc : Int)) = (cc : Int) := by rw [IntKind.wrap_i64]; omega
          obtain ⟨x18, hx18⟩ : ∃ x, x = d[qq]! := ⟨_, rfl⟩
          obtain ⟨y18, hy18⟩ : ∃ x, x = d[cc]! := ⟨_, rfl⟩
          have l18a := S1.out.ld R (by omega) P (qq) (by omega)
          have l18b := S1.out.ld R (by omega) P (cc) (by omega)
          rw [← hx18] at l18a
          rw [← hy18] at l18b
          have hc18 := S1.out.cmp HC.out (by omega) x18 y18
          have hv18 : cf x18 y18 < 0 := by rw [hx18, hy18]; exact of_decide_eq_true hL
          have hd18 : decide (cf x18 y18 < 0) = true := decide_eq_true hv18
          clear hx18 hy18
          go_wp2_with fail
          go_quiet_grown (first | (go_at_fn g; refine Calls.grown_of (hc18 _ _)))
          have S2 : Aside (SWK enc k w0 blk off d (grow (wr.drewN nq) osq)) := S1.out.grown nq osq
          clear l18a l18b hc18 S1
          generalize grow (wr.drewN nq) osq = w2 at S2 ⊢
          clear nq osq
          have HE2 : Hid (bsr (fun c => !ltOf cf d[mid + m - 1 - c]! d[c]!) i cc = st) := by
            have := bsr_f (fun c => !ltOf cf d[mid + m - 1 - c]! d[c]!) i j h0 (by rw [← HCC.out, ← HPP.out, ← HQQ.out]; show (!ltOf cf d[qq]! d[cc]!) = false; rw [hL]; rfl)
            rw [← HCC.out] at this
            exact (show _ = _ from this.symm.trans HE.out)
          go_wp2
          go_roundg (cc - i)
          case measure => omega
          case rel => exact ⟨i, cc, rfl, rfl, hsi, by omega, by omega, Nat.le_refl _, S2, HE2⟩
      · obtain rfl : j = i := by omega
        have h0z : ¬ (j : Int) < (j : Int) := by omega
        have hE := HE.out
        rw [bsr_ge _ j j (Nat.le_refl _)] at hE
        subst hE
        have hez : (nn : Int) - (j : Int) = (en : Int) := by omega
        go_upto_region 39 with fail
        obtain ⟨B1, hB⟩ : ∃ B, B = decide (j < m ∧ m < en) := ⟨_, rfl⟩
        have HB1 := Lib.hid hB
        clear hB
        go_cut [185] from 25 (fun s wx => s = .bool B1 ∧ Aside (SWK enc k w0 blk off d wx))
        case first => as_aux_lemma =>
          by_cases c1 : j < m
          · have c1z : (j : Int) < (m : Int) := by omega
            by_cases c2 : m < en
            · have c2z : (m : Int) < (en : Int) := by omega
              go_wp2_with fail
              go_meet
              case rel => exact ⟨by rw [HB1.out, decide_eq_true ⟨c1, c2⟩], S1⟩
            · have c2z : ¬ (m : Int) < (en : Int) := by omega
              go_wp2_with fail
              go_meet
              case rel => exact ⟨by rw [HB1.out, decide_eq_false (fun h => c2 h.2)], S1⟩
          · have c1z : ¬ (j : Int) < (m : Int) := by omega
            go_wp2_with fail
            go_meet
            case rel => exact ⟨by rw [HB1.out, decide_eq_false (fun h => c1 h.1)], S1⟩
        case rest => as_aux_lemma =>
        clear S1
        obtain ⟨rfl, S1⟩ := hcut
        go_upto_if 185 with fail
        -- the middle parts change places
        go_cut [] from 25 (fun wx => ∃ d1 : Array α, d1.size = d.size ∧ Aside (SWK enc k w0 blk off d1 wx) ∧ Hid (PermIn a b d d1 ∧ ∀ x : Nat, d1[x]! = rotAt j m en (fun y => d[y]!) x))
        case first => as_aux_lemma =>
          cases B1 with
          | true => as_aux_lemma =>
            obtain ⟨c1, c2⟩ := of_decide_eq_true HB1.out.symm
            have hc := rotate_w L enc cf g cb blk off cap j m en d0 d w0 _ R hs S1.out c1 c2 (by omega) hsz
            go_wp2_with (go_at_fn 100; refine hc.mono ?_; rintro e w1 ⟨rfl, d1, hp1, hg1, S2⟩)
            go_meet
            case rel => exact ⟨d1, hp1.1, S2, (show Hid _ from ⟨permIn_mono _ _ _ _ _ _ (by omega) (by omega) (by omega) hp1, hg1⟩)⟩
          | false => as_aux_lemma =>
            have c := of_decide_eq_false HB1.out.symm
            go_wp2_with fail
            go_meet
            case rel => exact ⟨d, rfl, S1, (show Hid _ from ⟨permIn_refl _ _ _, fun x => (rot_id _ _ _ (by omega) (by omega) (by omega) _ _).symm⟩)⟩
        case rest => as_aux_lemma =>
        clear S1 HB1
        obtain ⟨d1, hz1, S1, HR⟩ := hcut
        go_upto_region 41 with fail
        obtain ⟨B2, hB⟩ : ∃ B, B = decide (a < j ∧ j < mid) := ⟨_, rfl⟩
        have HB2 := Lib.hid hB
        clear hB
        go_cut [199] from 25 (fun s wx => s = .bool B2 ∧ Aside (SWK enc k w0 blk off d1 wx))
        case first => as_aux_lemma =>
          by_cases c1 : a < j
          · have c1z : (a : Int) < (j : Int) := by omega
            by_cases c2 : j < mid
            · have c2z : (j : Int) < (mid : Int) := by omega
              go_wp2_with fail
              go_meet
              case rel => exact ⟨by rw [HB2.out, decide_eq_true ⟨c1, c2⟩], S1⟩
            · have c2z : ¬ (j : Int) < (mid : Int) := by omega
              go_wp2_with fail
              go_meet
              case rel => exact ⟨by rw [HB2.out, decide_eq_false (fun h => c2 h.2)], S1⟩
          · have c1z : ¬ (a : Int) < (j : Int) := by omega
            go_wp2_with fail
            go_meet
            case rel => exact ⟨by rw [HB2.out, decide_eq_false (fun h => c1 h.1)], S1⟩
        case rest => as_aux_lemma =>
        clear S1
        obtain ⟨rfl, S1⟩ := hcut
        go_upto_if 199 with fail
        go_cut [] from 25 (fun wy => ∃ d2 : Array α, d2.size = d.size ∧ Aside (SWK enc k w0 blk off d2 wy) ∧ Hid ((a < j ∧ j < mid → SymP (ltOf cf) a j mid d1 d2) ∧ (¬ (a < j ∧ j < mid) → d2 = d1)))
        case first => as_aux_lemma =>
          cases B2 with
          | true => as_aux_lemma =>
            obtain ⟨c1, c2⟩ := of_decide_eq_true HB2.out.symm
            have hc := IH.out a j mid d1 _ (by omega) (by omega) S1.out c1 c2 (by omega) (by omega)
            rw [hz1] at hc
            go_wp2_with (go_at_fn 86; refine hc.mono ?_; rintro e w1 ⟨rfl, d2, hp2, S2⟩)
            go_meet
            case rel => exact ⟨d2, hp2.perm.1.trans hz1, S2, (show Hid _ from ⟨fun _ => hp2, fun h => absurd ⟨c1, c2⟩ h⟩)⟩
          | false => as_aux_lemma =>
            have c := of_decide_eq_false HB2.out.symm
            go_wp2_with fail
            go_meet
            case rel => exact ⟨d1, hz1, S1, (show Hid _ from ⟨fun h => absurd h c, fun _ => rfl⟩)⟩
        case rest => as_aux_lemma =>
        clear S1 HB2
        obtain ⟨d2, hz2, S1, HR2⟩ := hcut
        have fin : ∀ d3 : Array α, (mid < en ∧ en < b → SymP (ltOf cf) mid en b d2 d3) → (¬ (mid < en ∧ en < b) → d3 = d2) → SymP (ltOf cf) a m b d d3 := fun d3 g1 g2 =>
          sym_gen hO ham hmb hb HMID.out HS0.out HR0.out HST.out HEN.out HR.out.1 HR.out.2 HR2.out.1 HR2.out.2 g1 g2
        have FIN := Lib.hid fin
        clear fin
        by_cases c1 : mid < en
        · have c1z : (mid : Int) < (en : Int) := by omega
          by_cases c2 : en < b
          · have c2z : (en : Int) < (b : Int) := by omega
            have hc := IH.out mid en b d2 _ (by omega) (by omega) S1.out c1 c2 (by omega) (by omega)
            rw [hz2] at hc
            go_wp2_with (go_at_fn 86; refine hc.mono ?_; rintro e w1 ⟨rfl, d3, hp3, S2⟩)
            go_end0
            exact ⟨rfl, d3, FIN.out d3 (fun _ => hp3) (fun h => absurd ⟨c1, c2⟩ h), S2⟩
          · have c2z : ¬ (en : Int) < (b : Int) := by omega
            go_wp2
            go_end0
            exact ⟨rfl, d2, FIN.out d2 (fun h => absurd h.2 c2) (fun _ => rfl), S1.out⟩
        · have c1z : ¬ (mid : Int) < (en : Int) := by omega
          go_wp2
          go_end0
          exact ⟨rfl, d2, FIN.out d2 (fun h => absurd h.1 c1) (fun _ => rfl), S1.out⟩

end Go.Proofs.Ytkinhhkodaacjaa
