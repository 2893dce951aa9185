/- Snaps: their cells, slices of them. -/
import Derived.Test.YtjaaldeaknmmbaaDoorLA
import Derived.Test.YtjaaldeaknmmbaaDoorRows
import Derived.WalkKit
import Derived.WalkSpells
import Derived.WalkLawsBesides
import Derived.Deep.QuietTactic
import Derived.BigQuiet
import Derived.Shelf.Abstract
import Derived.Laws.StructEq
import Derived.Lib.SliceRun
namespace Go.Proofs.YtjaaldeaknmmbaaDoor
open Go.RowKit Go.Shelf

structure Sn where
  (r i s t1 t2 t3 t4 t5 m1 m2 m3 m4 m5 m6 m7 tm : Int)
  bg : Bool
  (su hi : Int)
  oa : Option Addr
  (on oc : Nat)
  ia : Option Addr
  (nn ic : Nat)
  (lf wt : Int)
def encS (x : Sn) : List Value := [.int .i64 x.r, .int .i64 x.i, .int .i64 x.s, .int .i64 x.t1, .int .i64 x.t2, .int .i64 x.t3, .int .i64 x.t4, .int .i64 x.t5, .int .i64 x.m1, .int .i64 x.m2, .int .i64 x.m3, .int .i64 x.m4, .int .i64 x.m5, .int .i64 x.m6, .int .i64 x.m7, .int .i64 x.tm, .bool x.bg, .int .i64 x.su, .int .i64 x.hi, .slice x.oa x.on x.oc, .slice x.ia x.nn x.ic, .int .i64 x.lf, .int .i64 x.wt]
def snv (x : Sn) : Value := .agg #[.int .i64 x.r, .agg #[.int .i64 x.i, .int .i64 x.s, .agg #[.int .i64 x.t1, .int .i64 x.t2, .int .i64 x.t3, .int .i64 x.t4, .int .i64 x.t5], .agg #[.int .i64 x.m1, .int .i64 x.m2, .int .i64 x.m3, .int .i64 x.m4, .int .i64 x.m5, .int .i64 x.m6, .int .i64 x.m7], .int .i64 x.tm, .bool x.bg, .int .i64 x.su, .agg #[.int .i64 x.hi, .slice x.oa x.on x.oc, .slice x.ia x.nn x.ic, .int .i64 x.lf, .int .i64 x.wt]]]
theorem encS_len (x : Sn) : (encS x).length = 23 := rfl
theorem encS_one (x : Sn) : ∀ u ∈ encS x, u.oneCell' = true := by
  intro v hv
  simp [encS] at hv
  rcases hv with rfl | rfl | rfl | rfl | rfl | rfl | rfl | rfl | rfl | rfl | rfl | rfl | rfl | rfl | rfl | rfl | rfl | rfl | rfl | rfl | rfl | rfl | rfl <;> rfl
noncomputable def zS : Value := ((Tryd.prog.info? 43).bind (fun i => i.zero)).getD (.bool false)
theorem E22 : Elem Tryd.prog 22 43 zS 23 216 := ⟨Tryd.underlying22, by kernel_rfl, by kernel_rfl, by decide, by decide⟩
abbrev Snaps (w : World) (v : Value) (l : List Sn) : Prop := Rd encS 23 w v l

theorem sclone_any (l : List Sn) (v : Value) (w : World) (h : Snaps w v l) (hl : l.length ≤ 300) :
    Calls Tryd.prog 51 #[v] w fun e w' => (∃ v', e = .returned v' ∧ w'.ownsRow w.heap.size 43 23 v' l.length (l.flatMap encS)) ∧ Below w.heap.size w w' := by
  have h0 := h
  obtain ⟨a, cap, rfl, h1, h2, h3⟩ := h.shape
  cases a with
  | none =>
    obtain ⟨rfl, _, rfl⟩ := h.none_
    clear h h0
    have hq := fun w : World => Lib.run_eql_slice_nil (P := Tryd.prog) w 22 43 none 0 0 0 0 Tryd.underlying22
    go_enter Tryd.func51, Tryd.ntmps51
    go_wp2
    go_ret
    exact ⟨⟨_, rfl, by simpa using World.ownsRow_nil _ _ _ _⟩, Below.refl _ _⟩
  | some ad =>
    have hnq := fun w : World => Lib.run_eql_slice_nil (P := Tryd.prog) w 22 43 (some ad) l.length cap 0 0 Tryd.underlying22
    have hal : Below w.heap.size w (w.alloc (.cells #[] 43)) := (Below.refl _ _).alloc (Nat.le_refl _) _
    have hs := (h.below hal).src encS_len encS_one (by omega)
    have hown : (w.alloc (.cells #[] 43)).ownsRow w.heap.size 43 23 (.slice (some ⟨w.heap.size, 0, none⟩) 0 0) 0 [] := World.ownsRow_made w #[] 0 (Nat.le_refl _) (by decide) rfl
    clear h h0
    go_enter Tryd.func51, Tryd.ntmps51
    go_wp2_with (at_builtin; refine wpList_app E22 rfl _ _ rfl hown hs rfl rfl (by omega) (by simp) ?_; intro v' w1 hown1 hgrow _)
    go_ret
    refine ⟨⟨_, rfl, by simpa using hown1⟩, below_app hal (Nat.le_refl _) hown hgrow (by simp)⟩
end Go.Proofs.YtjaaldeaknmmbaaDoor
