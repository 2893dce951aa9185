/- Round: what it hands back. -/
import Derived.Test.YtjaaldeaknmmbaaS2
namespace Go.Proofs.Ytjaaldeaknmmbaa
open Go.RowKit Go.Shelf

theorem round_any (l : List Sn) (v : Value) (k : Int) (w : World) (h : Snaps w v l) (hl : l.length ≤ 300) :
    Calls Try.prog 14 #[v, .int .i64 k] w fun e w' => e = .returned (.func (.func 31) #[] #[.pointer (some ⟨w.heap.size, 0, none⟩), .pointer (some ⟨w.heap.size + 1, 0, none⟩)]) ∧
      ∃ v', Blk w' w.heap.size 22 #[v'] ∧ Blk w' (w.heap.size + 1) 3 #[.int .i64 k] ∧ w'.ownsRow (w.heap.size + 2) 41 23 v' l.length (l.flatMap encS) ∧ Below w.heap.size w w' := by
  have hc := fun W (hW : Below w.heap.size w W) => sclone_any l v W (h.below hW) hl
  have HJ : Hid (Bx w ((w.alloc (.cells #[v] 22)).alloc (.cells #[.int .i64 k] 3)) [(w.heap.size, 22, #[v]), (w.heap.size + 1, 3, #[.int .i64 k])]) := (((Bx.nil w).new (b := w.heap.size) #[v] 22 (by simp)).new (b := w.heap.size + 1) #[.int .i64 k] 3 (by simp))
  obtain ⟨a, cap, rfl, _⟩ := h.shape
  clear h
  go_enter Try.func14, Try.ntmps14
  go_wp2_with fail
  refine (hc _ HJ.out.2).mono ?_
  rintro e w1 ⟨⟨v', rfl, ho⟩, hb⟩
  replace HJ := Lib.hid (HJ.out.keep hb)
  obtain ⟨a', c', rfl, _⟩ := owns_shape ho
  have HO := Lib.hid ho
  clear ho hb hc
  have c0 := HJ.out.at 0 0 rfl rfl
  have f0 : w1.frozen? ⟨w.heap.size, 0, none⟩ = false := HJ.out.fz 0 0 rfl
  have z0 : w.heap.size < w1.heap.size := HJ.out.lt 0 rfl
  go_wp2
  go_ret
  have ho : w1.ownsRow (w.heap.size + 2) 41 23 (.slice a' l.length c') l.length (l.flatMap encS) := by simpa using HO.out
  refine ⟨rfl, _, (HJ.out.get 0 rfl).set 0 _, (HJ.out.get 1 rfl).far (by simp) _, ?_, HJ.out.2.setCell (by simp) _⟩
  refine ho.kept (grownBy_setCell w1 _ _) ?_
  rcases ho.2 with ⟨e1, _⟩ | ⟨g, cap', cur, e1, hg, _, _⟩
  · exact .inl (by rw [e1]; rfl)
  · refine .inr fun e' => ?_
    rw [e1] at e'
    have : g = w.heap.size := by simpa [Value.ownBlock] using e'
    omega
end Go.Proofs.Ytjaaldeaknmmbaa
