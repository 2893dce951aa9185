/- The document's Round. -/
import Derived.Test.YtjaaldeaknmmbaaS3
import Derived.Test.YtjaaldeaknmmbaaAgg
namespace Go.Proofs.Ytjaaldeaknmmbaa
open Go.RowKit Go.Shelf

theorem W41 : Wide Try.prog 41 23 := ⟨⟨_, Try.underlying41, rfl⟩, by kernel_rfl⟩
theorem sn_at {w : World} {b off k : Nat} {l : List Sn} {x : Sn} (h : CellsAt encS 23 w b off l) (hk : l[k]? = some x) : ∀ j u, (encS x)[j]? = some u → w.cell? ⟨b, off + k * 23 + j, none⟩ = some u := h k x hk
theorem sn_r {w : World} {b off k : Nat} {l : List Sn} {x : Sn} (h : CellsAt encS 23 w b off l) (hk : l[k]? = some x) : w.cell? ⟨b, off + k * 23, none⟩ = some (.int .i64 x.r) := h k x hk 0 _ rfl
def ofR (l : List Sn) (r : Int) (k : Nat) : List Sn := (l.take k).filter (fun x => x.r == r)
theorem ofR_succ (l : List Sn) (r : Int) (k : Nat) (x : Sn) (hx : l[k]? = some x) : ofR l r (k + 1) = if (x.r == r) = true then ofR l r k ++ [x] else ofR l r k := filter_snoc (fun x : Sn => x.r == r) hx
theorem ofR_len (l : List Sn) (r : Int) (k : Nat) : (ofR l r k).length ≤ l.length := by
  have h1 := List.length_filter_le (fun x : Sn => x.r == r) (l.take k)
  have h2 := List.length_take_le' k l
  unfold ofR
  omega

set_option maxRecDepth 100000 in
set_option maxHeartbeats 800000 in
theorem rround_any (l : List Sn) (v : Value) (r : Int) (w : World) (h : Snaps w v l) (hl : l.length ≤ 300) :
    Calls Try.prog 15 #[v, .int .i64 r] w fun e w' => (∃ v', e = .returned v' ∧ w'.ownsRow w.heap.size 41 23 v' (ofR l r l.length).length ((ofR l r l.length).flatMap encS)) ∧ Below w.heap.size w w' := by
  have HS := Lib.hid h
  obtain ⟨a, c, rfl, -⟩ := h.shape
  have HB0 : Hid (ofR l r 0 = []) := rfl
  have HB1 := Lib.hid (fun k x => ofR_succ l r k x)
  have HBL := Lib.hid (fun k => ofR_len l r k)
  clear h
  generalize hbt : ofR l r = bt' at *
  clear hbt
  generalize hn : l.length = n at *
  have HN := Lib.hid hn
  clear hn
  go_enter Try.func15, Try.ntmps15
  go_wp2_with fail
  go_loopw [5, 6] (fun u i wr => ∃ k : Nat, k ≤ n ∧ i = .int .i64 k ∧ Hid (wr.ownsRow w.heap.size 41 23 u (bt' k).length ((bt' k).flatMap encS)) ∧ Hid (Below w.heap.size w wr)) (fun _ i _ => n - (intOf i).toNat)
  case atStart => exact ⟨0, Nat.zero_le _, rfl, by rw [HB0.out]; exact World.ownsRow_nil _ _ _ _, Below.refl _ _⟩
  case round =>
    obtain ⟨k, hk, rfl, HO, HW⟩ := hrel
    by_cases hlt : k < n
    · obtain ⟨x, hs⟩ : ∃ x, l[k]? = some x := ⟨_, List.getElem?_eq_getElem (by rw [HN.out]; exact hlt)⟩
      have HQ := Lib.hid (HB1.out k x hs)
      have hSg := HS.out.below HW.out
      have hlen := HBL.out k
      have hsz := HW.out.size
      obtain ⟨b, off, rfl, hbl, hc⟩ := hSg.row (by rintro rfl; simp at hs)
      have c0 := sn_r hc hs
      have HC := Lib.hid (sn_at hc hs)
      clear hSg hc hs
      by_cases hp : x.r = r
      · have HQ2 : Hid (bt' (k + 1) = bt' k ++ [x]) := by show _ = _; rw [HQ.out]; simp [hp]
        have hp1 : (x.r == r) = true := by simpa using hp
        clear HQ hp
        go_wp2_with (first | (refine wpList_loadW W41 rfl rfl rfl (encS x) rfl HC.out ?_) | (refine wpList_sliceW E22 (by decide) rfl rfl (encS x) rfl rfl ?_) | (at_builtin; refine wpList_app1 E22 rfl _ _ rfl HO.out (encS x) rfl (encS_one x) rfl rfl (by omega) hsz ?_; intro v' w3 ho hg))
        go_roundw
        case rel => exact ⟨k + 1, by omega, by go_num, by rw [HQ2.out]; show World.ownsRow _ _ _ _ _ _ _; simpa using ho, below_app HW.out (Nat.le_refl _) HO.out hg hsz⟩
        case measure => simp [intOf]; omega
      · have HQ2 : Hid (bt' (k + 1) = bt' k) := by show _ = _; rw [HQ.out]; simp [hp]
        have hp1 : (x.r == r) = false := by simpa using hp
        clear HQ hp
        go_wp2
        go_roundw
        case rel => exact ⟨k + 1, by omega, by go_num, by rw [HQ2.out]; exact HO.out, HW⟩
        case measure => simp [intOf]; omega
    · obtain rfl : n = k := by omega
      obtain ⟨ao, co, rfl, -⟩ := owns_shape HO.out
      go_wp2
      go_ret
      exact ⟨⟨_, rfl, HO.out⟩, HW.out⟩
end Go.Proofs.Ytjaaldeaknmmbaa
