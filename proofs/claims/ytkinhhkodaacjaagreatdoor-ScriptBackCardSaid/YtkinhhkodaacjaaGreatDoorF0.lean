/- fault.Clean of no faults. -/
import Derived.Test.YtkinhhkodaacjaaGreatDoorM8
import Derived.Test.YtkinhhkodaacjaaGreatDoorF2
namespace Go.Proofs.YtkinhhkodaacjaaGreatDoor
open Go.RowKit Go.Shelf
open Md

theorem insF0_any (f : Value) (w : World) : Calls Tryz.prog 106 #[.slice none 0 0, .int .i64 0, .int .i64 0, f] w fun e w' => e = .returned (.tuple #[]) ∧ w = w' := by
  go_enter Tryz.func106, Tryz.ntmps106
  go_wp2_with fail
  go_loopw [8] (fun i wr => i = .int .i64 1 ∧ wr = w) (fun _ _ => 0)
  case atStart => exact ⟨rfl, rfl⟩
  case round =>
    obtain ⟨rfl, rfl⟩ := hrel
    go_wp2
    go_end0
    exact ⟨rfl, rfl⟩
set_option maxRecDepth 100000 in
theorem pdqF0_any (k : Int) (f : Fn) (a b : Array Value) (w : World) : Calls Tryz.prog 92 #[.slice none 0 0, .int .i64 0, .int .i64 0, .int .i64 k, .func f a b] w fun e w' => e = .returned (.tuple #[]) ∧ w = w' := by
  have HI := Lib.hid (insF0_any (.func f a b) w)
  go_enter Tryz.func92, Tryz.ntmps92
  go_wp2_with fail
  go_loopw [1, 2] (fun j i wr => j = .int .i64 0 ∧ i = .int .i64 0 ∧ wr = w) (fun _ _ _ => 0)
  case atStart => exact ⟨rfl, rfl, rfl⟩
  case round =>
    obtain ⟨rfl, rfl, rfl⟩ := hrel
    go_wp2_with fail
    refine HI.out.mono ?_
    rintro e w2 ⟨rfl, hw⟩
    subst hw
    go_wp2
    exact bodyPost_ret (results_none rfl _ _ _) rfl ⟨rfl, rfl⟩
theorem sortF0_any (f : Fn) (a b : Array Value) (w : World) : Calls Tryz.prog 65 #[.slice none 0 0, .func f a b] w fun e w' => e = .returned (.tuple #[]) ∧ w = w' := by
  have HL := Lib.hid (Tryz.bits_Len 0 w (by decide) (by decide))
  go_enter Tryz.func65, Tryz.ntmps65
  go_wp2_with fail
  refine HL.out.mono ?_
  rintro e w2 ⟨rfl, hw⟩
  subst hw
  go_wp2_with fail
  refine (pdqF0_any _ f a b _).mono ?_
  rintro e w3 ⟨rfl, hw⟩
  subst hw
  go_wp2
  go_end0
  exact ⟨rfl, rfl⟩
theorem compact0_any (w : World) : Calls Tryz.prog 67 #[.slice none 0 0] w fun e w' => e = .returned (.slice none 0 0) ∧ w = w' := by
  go_enter Tryz.func67, Tryz.ntmps67
  go_wp2
  go_ret
  exact ⟨rfl, rfl⟩
/-- What is left of no faults. -/
def cleanF (_m : Me) (_l : List Fa) : List Fa := []
def CleanPost (m : Me) (l : List Fa) (w : World) (e : Ending) (w' : World) : Prop :=
  (∃ v', e = .returned v' ∧ w'.ownsRow w.heap.size 81 7 v' (cleanF m l).length ((cleanF m l).flatMap encF)) ∧ Below w.heap.size w w'
set_option maxRecDepth 100000 in
set_option maxHeartbeats 1600000 in
theorem fclean0_any (m : Me) (w : World) (hm : GoodMe w m) : Calls Tryz.prog 39 #[mev m, .slice none 0 0] w (CleanPost m [] w) := by
  have HP : Hid (∀ w', Below w.heap.size w w' → CleanPost m [] w (.returned (.slice none 0 0)) w') := fun w' h1 => ⟨⟨_, rfl, World.ownsRow_nil _ _ _ _⟩, h1⟩
  generalize CleanPost m [] w = POST at *
  have HG := Lib.hid hm
  have HB0 := Lib.hid (below1 w (.cells (encMe m).toArray 38))
  have HM0 : Hid (Blk (w.alloc (.cells (encMe m).toArray 38)) w.heap.size 38 (encMe m).toArray) := Blk.new' rfl
  clear hm
  change Calls Tryz.prog 39 #[.agg (encMe m).toArray, .slice none 0 0] w POST
  go_enter Tryz.func39, Tryz.ntmps39
  go_upto_region 1 with fail
  change Code.wp _ _ _ _ (w.alloc (.cells (encMe m).toArray 38))
  generalize w.alloc (.cells (encMe m).toArray 38) = W0 at *
  go_wp2_with ((with_reducible show wpList _ _ _ (Oper.mk (some 8) _ _ _ _ _ :: _) _ _); refine wpList_loadW W25 rfl rfl rfl (encMe m) rfl HM0.out.list ?_)
  refine (mcheck_any m W0 (HG.out.below HB0.out)).mono ?_
  rintro e W1 ⟨rfl, hb1⟩
  have HB1 := Lib.hid (HB0.out.trans (hb1.mono HB0.out.size))
  clear hb1 HM0 HB0 HG
  by_cases hm : okM m = true
  · rw [show errM m = 0 from if_pos hm]
    clear hm
    go_wp2_with fail
    go_loopw [5, 13] (fun u i wr => u = .slice none 0 0 ∧ i = .int .i64 0 ∧ wr = W1) (fun _ _ _ => 0)
    case atStart => exact ⟨rfl, rfl, rfl⟩
    case round =>
      obtain ⟨rfl, rfl, rfl⟩ := hrel
      go_wp2_with fail
      refine (sortF0_any _ _ _ _).mono ?_
      rintro e W3 ⟨rfl, hw⟩
      subst hw
      go_wp2_with fail
      refine (compact0_any _).mono ?_
      rintro e W4 ⟨rfl, hw⟩
      subst hw
      go_wp2
      exact HP.out _ HB1.out
  · rw [show errM m = 70 from if_neg hm]
    clear hm
    go_wp2
    exact HP.out _ HB1.out
end Go.Proofs.YtkinhhkodaacjaaGreatDoor
