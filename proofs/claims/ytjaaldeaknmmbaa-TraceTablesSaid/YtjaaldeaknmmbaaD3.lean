/- letter: a state's letter. -/
import Derived.Test.YtjaaldeaknmmbaaD2
namespace Go.Proofs.Ytjaaldeaknmmbaa
open Go.RowKit

def letC (s : Int) : UInt8 := if s < 0 ∨ 6 ≤ s then 63 else [111, 108, 99, 112, 97, 102].getD s.toNat 0
theorem letter_any (s : Int) (w : World) : Calls Try.prog 40 #[.int .i64 s] w fun e w' => e = .returned (u8c (letC s)) ∧ w = w' := by
  have HPO : Hid (∀ c, letC s = c → (fun e w' => e = Ending.returned (u8c (letC s)) ∧ w = w') (.returned (u8c c)) w) := fun c h => by subst h; exact ⟨rfl, rfl⟩
  generalize hP : (fun e w' => e = Ending.returned (u8c (letC s)) ∧ w = w') = POST at *
  clear hP
  by_cases hs : s < 0
  · have HL := Lib.hid (HPO.out 63 (if_pos (.inl hs)))
    go_enter Try.func40, Try.ntmps40
    go_wp2
    exact HL.out
  · by_cases hs6 : 6 ≤ s
    · have HL := Lib.hid (HPO.out 63 (if_pos (.inr hs6)))
      go_enter Try.func40, Try.ntmps40
      go_wp2
      exact HL.out
    · have h : s = 0 ∨ s = 1 ∨ s = 2 ∨ s = 3 ∨ s = 4 ∨ s = 5 := by omega
      clear hs hs6
      rcases h with rfl | rfl | rfl | rfl | rfl | rfl
      all_goals
        have HL := Lib.hid (HPO.out _ rfl)
        go_enter Try.func40, Try.ntmps40
        go_wp2
        exact HL.out
theorem rletter_any (s : Int) (w : World) : Calls Try.prog 44 #[.int .i64 s] w fun e w' => e = .returned (.string ⟨[letC s].toArray⟩) ∧ w = w' := by
  have HPO : Hid (∀ c, letC s = c → (fun e w' => e = Ending.returned (.string ⟨[letC s].toArray⟩) ∧ w = w') (.returned (.string ⟨[c].toArray⟩)) w) := fun c h => by subst h; exact ⟨rfl, rfl⟩
  generalize hP : (fun e w' => e = Ending.returned (.string ⟨[letC s].toArray⟩) ∧ w = w') = POST at *
  clear hP
  by_cases hs : s < 0
  · have HL := Lib.hid (HPO.out 63 (if_pos (.inl hs)))
    go_enter Try.func44, Try.ntmps44
    go_wp2
    exact HL.out
  · by_cases hs6 : 6 ≤ s
    · have HL := Lib.hid (HPO.out 63 (if_pos (.inr hs6)))
      go_enter Try.func44, Try.ntmps44
      go_wp2
      exact HL.out
    · have h : s = 0 ∨ s = 1 ∨ s = 2 ∨ s = 3 ∨ s = 4 ∨ s = 5 := by omega
      clear hs hs6
      rcases h with rfl | rfl | rfl | rfl | rfl | rfl
      all_goals
        have HL := Lib.hid (HPO.out _ rfl)
        go_enter Try.func44, Try.ntmps44
        go_wp2
        exact HL.out
end Go.Proofs.Ytjaaldeaknmmbaa
