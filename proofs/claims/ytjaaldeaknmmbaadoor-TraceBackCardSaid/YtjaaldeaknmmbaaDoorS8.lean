/- Cliques: their cells, which one has a state. -/
import Derived.Test.YtjaaldeaknmmbaaDoorS7
import Derived.Test.YtjaaldeaknmmbaaDoorLA
namespace Go.Proofs.YtjaaldeaknmmbaaDoor
open Go.RowKit Go.Shelf

structure Cs where
  (a b c d e : Int)
deriving DecidableEq
def encC (x : Cs) : List Value := [.int .i64 x.a, .int .i64 x.b, .int .i64 x.c, .int .i64 x.d, .int .i64 x.e]
def Sn.c (x : Sn) : Cs := ⟨x.t1, x.t2, x.t3, x.t4, x.t5⟩
theorem encC_one (x : Cs) : ∀ u ∈ encC x, u.oneCell' = true := by
  intro v hv
  simp [encC] at hv
  rcases hv with rfl | rfl | rfl | rfl | rfl <;> rfl
theorem W31 : Wide Tryd.prog 33 5 := ⟨⟨_, Tryd.underlying33, rfl⟩, by kernel_rfl⟩
theorem W64 : Wide Tryd.prog 77 6 := ⟨⟨_, Tryd.underlying77, rfl⟩, by kernel_rfl⟩
theorem F23 : Flat Tryd.prog 67 := ⟨⟨_, Tryd.underlying67, rfl⟩, by kernel_rfl⟩
theorem F61 : Flat Tryd.prog 74 := ⟨⟨_, Tryd.underlying74, rfl⟩, by kernel_rfl⟩
theorem sn_c (x : Sn) : ∀ j u, (encC x.c)[j]? = some u → (encS x)[3 + j]? = some u := by
  intro j u h
  match j with
  | 0 => exact h
  | 1 => exact h
  | 2 => exact h
  | 3 => exact h
  | 4 => exact h
  | n + 5 => simp [encC] at h

theorem exec_eqlC {w : World} {o : Oper} {a : Act} {x y : Operand} {tt : TypeId} (ho : o.op = .binOp .eql 33 x y tt) {c d : Cs} (hx : a.eval x = .agg (encC c).toArray) (hy : a.eval y = .agg (encC d).toArray) :
    (execOp a.eval o).run Tryd.prog w = .ok (.value (.bool (decide (c = d)))) w := by
  have e : decide (c = d) = (c.a == d.a && (c.b == d.b && (c.c == d.c && (c.d == d.d && c.e == d.e)))) := by
    obtain ⟨c1, c2, c3, c4, c5⟩ := c
    obtain ⟨d1, d2, d3, d4, d5⟩ := d
    simp only [Cs.mk.injEq]
    rw [Bool.eq_iff_iff]
    simp
  rw [e]
  unfold execOp
  simp only [ho, hx, hy]
  unfold encC
  go_simp
  by_cases h1 : c.a = d.a <;> by_cases h2 : c.b = d.b <;> by_cases h3 : c.c = d.c <;> by_cases h4 : c.d = d.d <;> by_cases h5 : c.e = d.e <;> simp [h1, h2, h3, h4, h5]

/-- A clique: its state, the value of its row, what lies there. -/
structure Gr where
  c : Cs
  v : Value
  ids : List Int
def encG (g : Gr) : List Value := encC g.c ++ [g.v]
theorem encG_len (g : Gr) : (encG g).length = 6 := rfl
def posG (c : Cs) : List Gr → Nat → Int
  | [], _ => -1
  | g :: l, k => if g.c = c then k else posG c l (k + 1)
theorem Blk.sn {W : World} {bx : Nat} {x : Sn} (h : Blk W bx 43 (encS x).toArray) : ∀ j u, (encC x.c)[j]? = some u → W.cell? ⟨bx, 3 + j, none⟩ = some u := fun j u hj => by
  rw [h.cell (3 + j)]
  simpa using sn_c x j u hj

theorem has_any (g : Gr) (bx : Nat) (x : Sn) (w : World) (h : Blk w bx 43 (encS x).toArray) :
    Calls Tryd.prog 41 #[.agg (encG g).toArray, .pointer (some ⟨bx, 0, none⟩)] w fun e w' => e = .returned (.bool (decide (g.c = x.c))) ∧ Below w.heap.size w w' := by
  have HB : Hid (Blk (w.alloc (.cells (encG g).toArray 77)) w.heap.size 77 (encG g).toArray) := (Blk.new' rfl : Blk _ _ _ _)
  have hb : Below w.heap.size w (w.alloc (.cells (encG g).toArray 77)) := below1 _ _
  have HX := Lib.hid (h.keep hb).sn
  have hl := h.lt
  have hz : (w.alloc (.cells (encG g).toArray 77)).heap.size = w.heap.size + 1 := by simp
  have HC : Hid (∀ j u, (encC g.c)[j]? = some u → (w.alloc (.cells (encG g).toArray 77)).cell? ⟨w.heap.size, 0 + j, none⟩ = some u) := fun j u hj => by
    rw [Nat.zero_add, HB.out.cell j]
    have : (encG g)[j]? = some u := by
      unfold encG
      rw [List.getElem?_append_left (by have := (List.getElem?_eq_some_iff.1 hj).1; exact this)]
      exact hj
    simpa using this
  go_enter Tryd.func41, Tryd.ntmps41
  clear h HB
  go_upto_region 1 with fail
  generalize w.alloc (.cells (encG g).toArray 77) = w1 at *
  have hlx : bx < w1.heap.size := by omega
  have hlw : w.heap.size < w1.heap.size := by omega
  go_wp2_with (first
    | (refine wpList_loadW W31 rfl rfl (x := .tmp 4) rfl (encC g.c) rfl HC.out ?_)
    | (refine wpList_loadW W31 rfl rfl (x := .tmp 7) rfl (encC x.c) rfl HX.out ?_)
    | (refine wpList_val rfl (exec_eqlC rfl rfl rfl) ?_))
  go_ret
  exact ⟨rfl, hb⟩

set_option maxHeartbeats 800000 in
theorem idx_any (gs : List Gr) (v : Value) (bx : Nat) (x : Sn) (w : World) (h : Rd encG 6 w v gs) (hx : Blk w bx 43 (encS x).toArray) :
    Calls Tryd.prog 40 #[v, .func (.func 41) #[] #[.pointer (some ⟨bx, 0, none⟩)]] w fun e w' => e = .returned (.int .i64 (posG x.c gs 0)) ∧ Below w.heap.size w w' := by
  have HR := Lib.hid h
  have HX := Lib.hid hx
  obtain ⟨a, c, rfl, h1, h2, h3⟩ := h.shape
  clear h hx
  go_enter Tryd.func40, Tryd.ntmps40
  go_wp2
  go_loopw [8] (fun i wr => ∃ k : Nat, k ≤ gs.length ∧ i = .int .i64 k ∧ Hid (posG x.c gs 0 = posG x.c (gs.drop k) k) ∧ Hid (Below w.heap.size w wr)) (fun i _ => gs.length - (intOf i).toNat)
  case atStart => exact ⟨0, Nat.zero_le _, rfl, rfl, Below.refl _ _⟩
  case round =>
    obtain ⟨k, hk, rfl, HI, HW⟩ := hrel
    by_cases hlt : k < gs.length
    · obtain ⟨g, hg⟩ : ∃ g, gs[k]? = some g := ⟨_, List.getElem?_eq_getElem hlt⟩
      obtain ⟨b, off, rfl, hbl, hc⟩ := (HR.out.below HW.out).row (by rintro rfl; simp at hlt)
      have HC : Hid (∀ j u, (encG g)[j]? = some u → wr.cell? ⟨b, off + k * 6 + j, none⟩ = some u) := hc k g hg
      have HD : Hid (gs.drop k = g :: gs.drop (k + 1)) := by
        have := List.drop_eq_getElem_cons hlt
        rw [List.getElem?_eq_getElem hlt] at hg
        cases hg
        exact this
      have hcon := has_any g bx x wr (HX.out.keep HW.out)
      clear hg hc
      by_cases hgc : g.c = x.c
      · have hd : decide (g.c = x.c) = true := decide_eq_true hgc
        have HE := Lib.hid hgc
        clear hgc
        rw [hd] at hcon
        go_wp2_with (first
          | (refine wpList_loadW W64 rfl rfl rfl (encG g) rfl HC.out ?_)
          | (go_at_call 41; refine hcon.mono ?_; rintro e w1 ⟨rfl, hb1⟩; have HB1 := Lib.hid hb1; clear hb1))
        go_ret
        refine ⟨ret_int ?_, HW.out.trans (HB1.out.mono HW.out.size)⟩
        rw [HI.out, HD.out, posG, if_pos HE.out]
      · have hd : decide (g.c = x.c) = false := decide_eq_false hgc
        have HE := Lib.hid hgc
        clear hgc
        rw [hd] at hcon
        go_wp2_with (first
          | (refine wpList_loadW W64 rfl rfl rfl (encG g) rfl HC.out ?_)
          | (go_at_call 41; refine hcon.mono ?_; rintro e w1 ⟨rfl, hb1⟩; have HB1 := Lib.hid hb1; clear hb1))
        go_roundw
        case rel =>
          refine ⟨k + 1, by omega, by go_num, ?_, HW.out.trans (HB1.out.mono HW.out.size)⟩
          have := HI.out
          rw [HD.out, posG, if_neg HE.out] at this
          exact this
        case measure => simp [intOf]; omega
    · obtain rfl : k = gs.length := by omega
      go_wp2
      go_ret
      refine ⟨ret_int ?_, HW.out⟩
      rw [HI.out, List.drop_length]
      rfl
end Go.Proofs.YtjaaldeaknmmbaaDoor
