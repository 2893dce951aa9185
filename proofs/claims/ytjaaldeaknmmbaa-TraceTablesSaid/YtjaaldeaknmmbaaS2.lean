/- slices.Index and slices.Contains at integers. -/
import Derived.Test.YtjaaldeaknmmbaaS1
namespace Go.Proofs.Ytjaaldeaknmmbaa
open Go.RowKit Go.Shelf

/-- A slice of 64-bit integers that reads as l (their bounds are not told). -/
abbrev Ns (w : World) (v : Value) (l : List Int) : Prop := Rd (encI .i64) 1 w v l
/-- Where x stands first: -1: nowhere. -/
def indexOf (x : Int) : List Int → Nat → Int
  | [], _ => -1
  | y :: l, k => if x = y then k else indexOf x l (k + 1)
theorem indexOf_ge (x : Int) : ∀ (l : List Int) (k : Nat), decide (0 ≤ indexOf x l k) = l.contains x
  | [], _ => rfl
  | y :: l, k => by
    unfold indexOf
    by_cases h : x = y
    · subst h; simp
    · rw [if_neg h, indexOf_ge x l (k + 1)]
      simp [h]

set_option maxHeartbeats 1600000 in
theorem index_any (v : Value) (l : List Int) (x : Int) (w : World) (h : Ns w v l) :
    Calls Try.prog 53 #[v, .int .i64 x] w fun e w' => e = .returned (.int .i64 (indexOf x l 0)) ∧ w' = w := by
  obtain ⟨a, c, rfl, h1, h2, h3⟩ := h.shape
  have HR := Lib.hid h
  clear h
  go_enter Try.func53, Try.ntmps53
  go_wp2
  go_loop [8] (fun i => ∃ k : Nat, k ≤ l.length ∧ i = .int .i64 k ∧ Hid (indexOf x l 0 = indexOf x (l.drop k) k)) (fun i => l.length - (intOf i).toNat)
  case atStart => exact ⟨0, Nat.zero_le _, rfl, rfl⟩
  case round =>
    obtain ⟨k, hk, rfl, HI⟩ := hrel
    by_cases hlt : k < l.length
    · obtain ⟨y, hy⟩ : ∃ y, l[k]? = some y := ⟨_, List.getElem?_eq_getElem hlt⟩
      obtain ⟨b, off, rfl, hbl, hc⟩ := HR.out.row (by rintro rfl; simp at hlt)
      have c0 : w.cell? ⟨b, off + k, none⟩ = some (.int .i64 y) := hc.one (f := fun x => .int .i64 x) hy
      have HD : Hid (l.drop k = y :: l.drop (k + 1)) := by
        have := List.drop_eq_getElem_cons hlt
        rw [List.getElem?_eq_getElem hlt] at hy
        cases hy
        exact this
      clear hy hc
      by_cases hxy : x = y
      · subst hxy
        go_wp2
        go_ret
        refine ⟨ret_int ?_, rfl⟩
        rw [HI.out, HD.out, indexOf, if_pos rfl]
      · have hne : (x == y) = false := by simpa using hxy
        have HN := Lib.hid hxy
        clear hxy
        go_wp2
        go_round
        case rel =>
          refine ⟨k + 1, by omega, by go_num, ?_⟩
          have := HI.out
          rw [HD.out, indexOf, if_neg HN.out] at this
          exact this
        case measure => simp [intOf]; omega
    · obtain rfl : k = l.length := by omega
      go_wp2
      go_ret
      refine ⟨ret_int ?_, rfl⟩
      rw [HI.out, List.drop_length]
      rfl

theorem contains_any (v : Value) (l : List Int) (x : Int) (w : World) (h : Ns w v l) :
    Calls Try.prog 45 #[v, .int .i64 x] w fun e w' => e = .returned (.bool (l.contains x)) ∧ w' = w := by
  have hi := fun W (hW : Ns W v l) => index_any v l x W hW
  have HI := Lib.hid (indexOf_ge x l 0)
  obtain ⟨a, c, rfl, _⟩ := h.shape
  generalize indexOf x l 0 = y at *
  generalize l.contains x = z at *
  go_enter Try.func45, Try.ntmps45
  go_wp2_with (go_at_call 53; refine (hi _ h).mono ?_; rintro e w' ⟨rfl, rfl⟩)
  go_ret
  exact ⟨ret_bool HI.out, rfl⟩
end Go.Proofs.Ytjaaldeaknmmbaa
