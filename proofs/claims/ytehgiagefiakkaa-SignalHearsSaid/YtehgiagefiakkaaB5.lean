/- Contracts: strong, which bits, which seen and which signals are the same, bytes.Clone. -/
import Derived.Test.YtehgiagefiakkaaB4
namespace Go.Proofs.Ytehgiagefiakkaa
open Go.RowKit Go.Shelf
open Sched (Sp bad)
open Sig

set_option maxRecDepth 100000 in
set_option maxHeartbeats 1600000 in
theorem strong_any (s : Sg) (th : Int) (w : World) (h : GoodSg w s) :
    Calls Try.prog 45 #[sgv s, .int .i64 th] w fun e w' => e = .returned (.bool (strong th s)) ∧ Below w.heap.size w w' := by
  have hck : ∀ W, Below w.heap.size w W → _ := fun W hW => scheck_any s W (h.below hW)
  have HW : Hid (strong th s = (decide (th ≤ s.lv) && decide (1 ≤ s.lv) && !badS s)) := rfl
  have HS : Hid (errS s = if badS s then 110 else 0) := rfl
  have hal : Below w.heap.size w (w.alloc (.cells #[.int .i64 s.fr, .int .i64 s.sp.1, .int .i64 s.sp.2, .int .i64 s.lv, .int .i64 s.n, .slice s.ba s.b.length s.bc] 28)) := below1 w _
  obtain ⟨fr, ⟨f, t⟩, lv, n, a, c, B⟩ := s
  unfold sgv at *
  simp only at hck HW HS hal ⊢
  clear h
  generalize strong _ _ = z at *
  generalize badS _ = p at *
  generalize errS _ = x at *
  generalize B.length = L at *
  cases p
  · obtain rfl : x = 0 := HS.out
    clear HS
    go_enter Try.func45, Try.ntmps45
    go_wp2_with (go_at_call 12; refine (hck _ hal).mono ?_; rintro e w1 ⟨rfl, hb1⟩; have b1 := bt hal hb1)
    all_goals go_ret
    all_goals (refine ⟨ret_bool (by rw [HW.out, Bool.eq_iff_iff]; try simp; try omega), ?_⟩; first | exact b1 | exact hal)
  · obtain rfl : x = 110 := HS.out
    clear HS
    go_enter Try.func45, Try.ntmps45
    go_wp2_with (go_at_call 12; refine (hck _ hal).mono ?_; rintro e w1 ⟨rfl, hb1⟩; have b1 := bt hal hb1)
    all_goals go_ret
    all_goals (refine ⟨ret_bool (by rw [HW.out, Bool.eq_iff_iff]; try simp; try omega), ?_⟩; first | exact b1 | exact hal)
set_option maxRecDepth 100000 in
set_option maxHeartbeats 1600000 in
theorem rstrong_any (s : Sg) (th : Int) (w : World) (h : GoodSg w s) :
    Calls Try.prog 48 #[sgv s, .int .i64 th] w fun e w' => e = .returned (.bool (strong th s)) ∧ Below w.heap.size w w' := by
  have hck : ∀ W, Below w.heap.size w W → _ := fun W hW => rscheck_any s W (h.below hW)
  have HW : Hid (strong th s = (decide (th ≤ s.lv) && decide (1 ≤ s.lv) && !badS s)) := rfl
  have HS : Hid (errS s = if badS s then 110 else 0) := rfl
  have hal : Below w.heap.size w (w.alloc (.cells #[.int .i64 s.fr, .int .i64 s.sp.1, .int .i64 s.sp.2, .int .i64 s.lv, .int .i64 s.n, .slice s.ba s.b.length s.bc] 28)) := below1 w _
  obtain ⟨fr, ⟨f, t⟩, lv, n, a, c, B⟩ := s
  unfold sgv at *
  simp only at hck HW HS hal ⊢
  clear h
  generalize strong _ _ = z at *
  generalize badS _ = p at *
  generalize errS _ = x at *
  generalize B.length = L at *
  cases p
  · obtain rfl : x = 0 := HS.out
    clear HS
    go_enter Try.func48, Try.ntmps48
    go_wp2_with (go_at_call 13; refine (hck _ hal).mono ?_; rintro e w1 ⟨rfl, hb1⟩; have b1 := bt hal hb1; have hc1 := bcell hb1)
    all_goals go_ret
    all_goals (refine ⟨ret_bool (by rw [HW.out, Bool.eq_iff_iff]; try simp; try omega), ?_⟩; first | exact b1 | exact hal)
  · obtain rfl : x = 110 := HS.out
    clear HS
    go_enter Try.func48, Try.ntmps48
    go_wp2_with (go_at_call 13; refine (hck _ hal).mono ?_; rintro e w1 ⟨rfl, hb1⟩; have b1 := bt hal hb1; have hc1 := bcell hb1)
    all_goals go_ret
    all_goals (refine ⟨ret_bool (by rw [HW.out, Bool.eq_iff_iff]; try simp; try omega), ?_⟩; first | exact b1 | exact hal)

/-- Are bits the same? -/
def sameB (n : Int) (B : List Int) (m : Int) (C : List Int) : Bool := decide (n = m) && decide (B = C)

theorem toList_inj {a b : ByteArray} (h : a.toList = b.toList) : a = b := by
  rw [ByteArray.toList_eq, ByteArray.toList_eq] at h
  obtain ⟨⟨a⟩⟩ := a
  obtain ⟨⟨b⟩⟩ := b
  simp only at h
  rw [h]
theorem same_str {B C : List Int} (hB : ∀ x ∈ B, 0 ≤ x ∧ x ≤ 255) (hC : ∀ x ∈ C, 0 ≤ x ∧ x ≤ 255) : decide (strOfNums B = strOfNums C) = decide (B = C) := by
  rw [Bool.eq_iff_iff]
  simp only [decide_eq_true_eq]
  exact ⟨fun h => strOfNums_inj hB hC h, fun h => by rw [h]⟩

set_option maxRecDepth 100000 in
set_option maxHeartbeats 1600000 in
theorem bsame_any (n : Int) (a : Option Addr) (c : Nat) (B : List Int) (m : Int) (a' : Option Addr) (c' : Nat) (C : List Int) (w : World) (h : Byts w (.slice a B.length c) B) (h' : Byts w (.slice a' C.length c') C) :
    Calls Try.prog 43 #[.agg #[.int .i64 n, .slice a B.length c], .agg #[.int .i64 m, .slice a' C.length c']] w fun e w' => e = .returned (.bool (sameB n B m C)) ∧ Below w.heap.size w w' := by
  have HW : Hid (sameB n B m C = (decide (n = m) && decide (B = C))) := rfl
  have HS := Lib.hid (same_str h.2 h'.2)
  by_cases hnm : n = m
  · subst hnm
    have hal : Below w.heap.size w ((w.alloc (.cells #[.int .i64 n, .slice a B.length c] 26)).alloc (.cells #[.int .i64 n, .slice a' C.length c'] 26)) := below2 w _ _
    have k1 := run_string_of Try.underlying24 Try.underlying5 Try.underlying9 (h.below hal)
    have k2 := run_string_of Try.underlying24 Try.underlying5 Try.underlying9 (h'.below hal)
    clear h h'
    generalize strOfNums B = sB at *
    generalize strOfNums C = sC at *
    by_cases hs : sB = sC
    · have HT : Hid (sameB n B n C = true) := by
        show _ = _
        rw [HW.out, ← HS.out]; simp [hs]
      subst hs
      clear HS HW
      go_enter Try.func43, Try.ntmps43
      go_wp2
      go_ret
      exact ⟨ret_bool (by rw [HT.out]; try simp), hal⟩
    · have HT : Hid (sameB n B n C = false) := by
        show _ = _
        rw [HW.out, ← HS.out]; simp [hs]
      have hs' : (sB.toList == sC.toList) = false := by
        rw [Bool.eq_false_iff]
        intro e
        exact hs (toList_inj (eq_of_beq e))
      clear HS HW hs
      go_enter Try.func43, Try.ntmps43
      go_wp2
      go_ret
      exact ⟨ret_bool (by rw [HT.out]; try simp), hal⟩
  · have hal : Below w.heap.size w ((w.alloc (.cells #[.int .i64 n, .slice a B.length c] 26)).alloc (.cells #[.int .i64 m, .slice a' C.length c'] 26)) := below2 w _ _
    have hnm' : (n == m) = false := by simpa using hnm
    have HT : Hid (sameB n B m C = false) := by
      show _ = _
      rw [HW.out]; simp [hnm]
    clear h h' HS HW hnm
    go_enter Try.func43, Try.ntmps43
    go_wp2
    go_ret
    exact ⟨ret_bool (by rw [HT.out]), hal⟩
set_option maxRecDepth 100000 in
set_option maxHeartbeats 1600000 in
theorem rbsame_any (n : Int) (a : Option Addr) (c : Nat) (B : List Int) (m : Int) (a' : Option Addr) (c' : Nat) (C : List Int) (w : World) (h : Byts w (.slice a B.length c) B) (h' : Byts w (.slice a' C.length c') C) :
    Calls Try.prog 41 #[.agg #[.int .i64 n, .slice a B.length c], .agg #[.int .i64 m, .slice a' C.length c']] w fun e w' => e = .returned (.bool (sameB n B m C)) ∧ Below w.heap.size w w' := by
  have HW : Hid (sameB n B m C = (decide (n = m) && decide (B = C))) := rfl
  have HS := Lib.hid (same_str h.2 h'.2)
  by_cases hnm : n = m
  · subst hnm
    have hal : Below w.heap.size w ((w.alloc (.cells #[.int .i64 n, .slice a B.length c] 26)).alloc (.cells #[.int .i64 n, .slice a' C.length c'] 26)) := below2 w _ _
    have k1 := run_string_of Try.underlying24 Try.underlying5 Try.underlying9 (h.below hal)
    have k2 := run_string_of Try.underlying24 Try.underlying5 Try.underlying9 (h'.below hal)
    clear h h'
    generalize strOfNums B = sB at *
    generalize strOfNums C = sC at *
    by_cases hs : sB = sC
    · have HT : Hid (sameB n B n C = true) := by
        show _ = _
        rw [HW.out, ← HS.out]; simp [hs]
      subst hs
      clear HS HW
      go_enter Try.func41, Try.ntmps41
      go_wp2
      go_ret
      exact ⟨ret_bool (by rw [HT.out]; try simp), hal⟩
    · have HT : Hid (sameB n B n C = false) := by
        show _ = _
        rw [HW.out, ← HS.out]; simp [hs]
      have hs' : (sB.toList == sC.toList) = false := by
        rw [Bool.eq_false_iff]
        intro e
        exact hs (toList_inj (eq_of_beq e))
      clear HS HW hs
      go_enter Try.func41, Try.ntmps41
      go_wp2
      go_ret
      exact ⟨ret_bool (by rw [HT.out]; try simp), hal⟩
  · have hal : Below w.heap.size w ((w.alloc (.cells #[.int .i64 n, .slice a B.length c] 26)).alloc (.cells #[.int .i64 m, .slice a' C.length c'] 26)) := below2 w _ _
    have hnm' : (n == m) = false := by simpa using hnm
    have HT : Hid (sameB n B m C = false) := by
      show _ = _
      rw [HW.out]; simp [hnm]
    clear h h' HS HW hnm
    go_enter Try.func41, Try.ntmps41
    go_wp2
    go_ret
    exact ⟨ret_bool (by rw [HT.out]), hal⟩

theorem E24 : Elem Try.prog 24 5 (.int .u8 0) 1 1 := ⟨Try.underlying24, by kernel_rfl, rfl, by decide, by decide⟩
/-- Bytes that the call owns, as they read. -/
theorem Byts.of_owns {w : World} {base : Nat} {v : Value} {l : List Int} (h : w.ownsRow base 5 1 v l.length (l.map (.int .u8))) (hl : l.length ≤ 140737488351232) (hb : ∀ x ∈ l, 0 ≤ x ∧ x ≤ 255) : Byts w v l :=
  ⟨Rd.of_owns (encI_len .u8) (by rw [encI_flat]; exact h) hl, hb⟩
theorem Byts.src {w : World} {v : Value} {l : List Int} (h : Byts w v l) : Src w v l.length (l.map (.int .u8)) 1 := by
  have := Rd.src (encI_len .u8) (encI_one .u8) (by decide) h.1
  rwa [encI_flat] at this

theorem bclone_any (a : Option Addr) (c : Nat) (B : List Int) (w : World) (h : Byts w (.slice a B.length c) B) :
    Calls Try.prog 36 #[.slice a B.length c] w fun e w' => (∃ a' c', e = .returned (.slice a' B.length c') ∧ Byts w' (.slice a' B.length c') B) ∧ Below w.heap.size w w' := by
  have hlen := h.1.len
  have hsh := h.1.shape
  obtain ⟨_, _, hE, hc1, hc2, _⟩ := hsh
  simp only [Value.slice.injEq] at hE
  obtain ⟨rfl, _, rfl⟩ := hE
  cases a with
  | none =>
    obtain ⟨rfl, _, rfl⟩ := h.1.none_
    have hq := fun w : World => Lib.run_eql_slice_nil (P := Try.prog) w 24 5 none 0 0 0 0 Try.underlying24
    simp only [List.length_nil] at *
    go_enter Try.func36, Try.ntmps36
    go_wp2
    go_ret
    exact ⟨⟨_, _, rfl, h⟩, Below.refl _ _⟩
  | some ad =>
    have hnq := fun w : World => Lib.run_eql_slice_nil (P := Try.prog) w 24 5 (some ad) B.length c 0 0 Try.underlying24
    have hal : Below w.heap.size w (w.alloc (.cells #[] 5)) := (Below.refl _ _).alloc (Nat.le_refl _) _
    have hs := (h.below hal).src
    have hown : (w.alloc (.cells #[] 5)).ownsRow w.heap.size 5 1 (.slice (some ⟨w.heap.size, 0, none⟩) 0 0) 0 [] := World.ownsRow_made w #[] 0 (Nat.le_refl _) (by decide) rfl
    have HB := Lib.hid h.2
    clear h
    go_enter Try.func36, Try.ntmps36
    go_wp2_with (at_builtin; refine wpList_app E24 rfl _ _ rfl hown hs rfl rfl (by omega) (by simp) ?_; intro v' w1 hown1 hgrow _)
    go_ret
    have hbl := below_app hal (Nat.le_refl _) hown hgrow (by simp)
    have hby := Byts.of_owns (v := v') (l := B) (by simpa using hown1) hlen HB.out
    obtain ⟨a', c', e, _⟩ := hby.1.shape
    subst e
    exact ⟨⟨a', c', rfl, hby⟩, hbl⟩
end Go.Proofs.Ytehgiagefiakkaa
