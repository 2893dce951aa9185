/- cmp.Compare, cmp.Or. -/
import Derived.Test.YtmflnbdajaiahaaReg2
import Derived.Test.YtmflnbdajaiahaaHeldIn
import Derived.Test.YtmflnbdajaiahaaBx
import Derived.Test.YtmflnbdajaiahaaAgg
import Derived.Sort.CutIn
import Derived.Test.YtmflnbdajaiahaaProg
import Derived.OwnWalk
namespace Go.Proofs.Ytmflnbdajaiahaa
open Go.RowKit

theorem isNaN_any (x : Int) (w : World) : Calls Try.prog 69 #[.int .i64 x] w fun e w' => e = .returned (.bool false) ∧ w = w' := by
  go_enter Try.func69, Try.ntmps69
  go_wp2
  go_ret
  exact ⟨ret_bool (by simp), rfl⟩
def cmpI (x y : Int) : Int := if x < y then -1 else if y < x then 1 else 0
theorem compareI_any (x y : Int) (w : World) : Calls Try.prog 48 #[.int .i64 x, .int .i64 y] w fun e w' => e = .returned (.int .i64 (cmpI x y)) ∧ w = w' := by
  go_enter Try.func48, Try.ntmps48
  go_wp2_with (go_at_call 69; refine (isNaN_any _ _).mono ?_; rintro e w' ⟨rfl, rfl⟩)
  all_goals go_ret
  all_goals refine ⟨ret_int ?_, rfl⟩
  all_goals (unfold cmpI; first | (rw [if_pos (by omega)]) | (rw [if_neg (by omega), if_pos (by omega)]) | (rw [if_neg (by omega), if_neg (by omega)]))

/-- The first number that is not 0. -/
def orL : List Int → Int
  | [] => 0
  | x :: l => if x = 0 then orL l else x
set_option maxHeartbeats 1600000 in
theorem or_any (v : Value) (l : List Int) (w : World) (h : Rd (encI .i64) 1 w v l) :
    Calls Try.prog 47 #[v] w fun e w' => e = .returned (.int .i64 (orL l)) ∧ w = w' := by
  obtain ⟨a, c, rfl, h1, h2, h3⟩ := h.shape
  have HR := Lib.hid h
  clear h
  go_enter Try.func47, Try.ntmps47
  go_wp2
  go_loop [8, 5] (fun i _ => ∃ k : Nat, k ≤ l.length ∧ i = .int .i64 k ∧ Hid (orL l = orL (l.drop k))) (fun i _ => l.length - (intOf i).toNat)
  case atStart => exact ⟨0, Nat.zero_le _, rfl, rfl⟩
  case round =>
    obtain ⟨k, hk, rfl, HI⟩ := hrel
    by_cases hlt : k < l.length
    · obtain ⟨y, hy⟩ : ∃ y, l[k]? = some y := ⟨_, List.getElem?_eq_getElem hlt⟩
      obtain ⟨b, off, rfl, hbl, hc⟩ := HR.out.row (by rintro rfl; simp at hlt)
      have c0 : w.cell? ⟨b, off + k, none⟩ = some (.int .i64 y) := hc.one (f := fun x => .int .i64 x) hy
      have HD : Hid (l.drop k = y :: l.drop (k + 1)) := by
        have := List.drop_eq_getElem_cons hlt
        rw [List.getElem?_eq_getElem hlt] at hy
        cases hy
        exact this
      clear hy hc
      by_cases hxy : y = 0
      · subst hxy
        go_wp2
        go_round
        case rel =>
          refine ⟨k + 1, by omega, by go_num, ?_⟩
          have := HI.out
          rw [HD.out, orL, if_pos rfl] at this
          exact this
        case measure => simp [intOf]; omega
      · have hne : (y != 0) = true := by simpa using hxy
        have HN := Lib.hid hxy
        clear hxy
        go_wp2
        go_ret
        refine ⟨ret_int ?_, rfl⟩
        rw [HI.out, HD.out, orL, if_neg HN.out]
    · obtain rfl : k = l.length := by omega
      go_wp2
      go_ret
      refine ⟨ret_int ?_, rfl⟩
      rw [HI.out, List.drop_length]
      rfl
end Go.Proofs.Ytmflnbdajaiahaa
