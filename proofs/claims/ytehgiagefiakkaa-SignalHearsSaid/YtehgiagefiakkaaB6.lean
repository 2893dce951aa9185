/- Which signals are heard: the iterator's contract. -/
import Derived.RangeFuncNested
import Derived.RangeFuncBound
import Derived.RangeFuncCalls
import Derived.RangeFuncLeaves
import Derived.Shelf.Abstract
import Derived.Shelf.RegionOpen
import Derived.WalkKit
import Derived.OwnWalkIn
import Derived.TacticsInMore
import Derived.LoopNIn
import Derived.LoopIn
import Derived.Test.YtehgiagefiakkaaB5
namespace Go.Proofs.Ytehgiagefiakkaa
open Go.RowKit Go.Shelf
open Sched (Sp bad)
open Sig
attribute [local go_sem] Oper.semAt_some

/-- A slice of signals that reads as l. -/
def Sgs (w : World) (v : Value) (l : List Sg) : Prop := Rd encSg 6 w v l ∧ ∀ s ∈ l, GoodSg w s
theorem Sgs.below {w w' : World} {v : Value} {l : List Sg} (h : Sgs w v l) (hb : Below w.heap.size w w') : Sgs w' v l := ⟨h.1.below hb, fun s hs => (h.2 s hs).below hb⟩
theorem encSg_len (s : Sg) : (encSg s).length = 6 := rfl
theorem sg_cells {w : World} {b off : Nat} {l : List Sg} (h : CellsAt encSg 6 w b off l) {j : Nat} {s : Sg} (hj : l[j]? = some s) :
    w.cell? ⟨b, off + j * 6, none⟩ = some (.int .i64 s.fr) ∧ w.cell? ⟨b, off + j * 6 + 1, none⟩ = some (.int .i64 s.sp.1) ∧ w.cell? ⟨b, off + j * 6 + 2, none⟩ = some (.int .i64 s.sp.2) ∧
    w.cell? ⟨b, off + j * 6 + 3, none⟩ = some (.int .i64 s.lv) ∧ w.cell? ⟨b, off + j * 6 + 4, none⟩ = some (.int .i64 s.n) ∧ w.cell? ⟨b, off + j * 6 + 5, none⟩ = some (.slice s.ba s.b.length s.bc) :=
  ⟨h j s hj 0 _ rfl, h j s hj 1 _ rfl, h j s hj 2 _ rfl, h j s hj 3 _ rfl, h j s hj 4 _ rfl, h j s hj 5 _ rfl⟩

/-- Is a signal heard? -/
def hit (inn : Sp) (th : Int) (s : Sg) : Bool := strong th s && meets s.sp inn
def hitAt (l : List Sg) (inn : Sp) (th : Int) (i : Nat) : Bool := match l[i]? with
  | some s => hit inn th s
  | none => false
/-- The places of those that are heard, of the first k. -/
def hitsTo (l : List Sg) (inn : Sp) (th : Int) (k : Nat) : List Nat := (List.range k).filter (hitAt l inn th)
theorem hitsTo_succ (l : List Sg) (inn : Sp) (th : Int) (k : Nat) {s : Sg} (h : l[k]? = some s) : hitsTo l inn th (k + 1) = if hit inn th s then hitsTo l inn th k ++ [k] else hitsTo l inn th k := by
  unfold hitsTo
  rw [List.range_succ, List.filter_append]
  have e : hitAt l inn th k = hit inn th s := by unfold hitAt; rw [h]
  cases hh : hit inn th s <;> simp [e, hh]
theorem hitsTo_len (l : List Sg) (inn : Sp) (th : Int) (k : Nat) : (hitsTo l inn th k).length ≤ k := by
  have := List.length_filter_le (hitAt l inn th) (List.range k)
  simpa [hitsTo] using this
theorem hitsTo_prefix (l : List Sg) (inn : Sp) (th : Int) {k m : Nat} (h : k ≤ m) : hitsTo l inn th k <+: hitsTo l inn th m := by
  induction m with
  | zero =>
    obtain rfl : k = 0 := by omega
    exact List.prefix_refl _
  | succ m ih =>
    by_cases hk : k = m + 1
    · subst hk; exact List.prefix_refl _
    · refine (ih (by omega)).trans ?_
      unfold hitsTo
      rw [List.range_succ, List.filter_append]
      exact List.prefix_append _ _
def encN (x : Nat) : Array Value := #[.int .i64 (x : Int)]

theorem grown_of_below {w w' : World} (hb : Below w.heap.size w w') : w.grownBy w' none := ⟨hb.os, hb.tape, hb.output, hb.size, fun k hk _ => hb.block k hk⟩

/-- What a round keeps: whatever lay below n₀, and the blocks from lo to hi. -/
def KP (n₀ lo hi : Nat) (A B : World) : Prop := Below n₀ A B ∧ ∀ b, lo ≤ b → b < hi → b < A.heap.size → B.heap[b]? = A.heap[b]?
theorem KP.refl (n₀ lo hi : Nat) (A : World) : KP n₀ lo hi A A := ⟨Below.refl _ _, fun _ _ _ _ => rfl⟩
theorem KP.trans {n₀ lo hi : Nat} {A B C : World} (h : KP n₀ lo hi A B) (k : KP n₀ lo hi B C) : KP n₀ lo hi A C :=
  ⟨h.1.trans k.1, fun b h1 h2 h3 => (k.2 b h1 h2 (Nat.lt_of_lt_of_le h3 h.1.size)).trans (h.2 b h1 h2 h3)⟩
theorem KP.of_below {n₀ lo hi : Nat} {A B : World} (h : Below A.heap.size A B) (hn : n₀ ≤ A.heap.size) : KP n₀ lo hi A B := ⟨h.mono hn, fun b _ _ h3 => h.block b h3⟩
theorem KP.cell {n₀ lo hi : Nat} {A B : World} (h : KP n₀ lo hi A B) {b o : Nat} {v : Value} (h1 : lo ≤ b) (h2 : b < hi) (hc : A.cell? ⟨b, o, none⟩ = some v) : B.cell? ⟨b, o, none⟩ = some v := by
  have hlt := World.block_lt_of_cell? _ _ hc
  rw [← hc]
  exact World.cell?_of_block (h.2 b h1 h2 hlt)
theorem KP.setCell {n₀ lo hi : Nat} {W : World} {p : Addr} (h1 : n₀ ≤ p.block) (h2 : p.block < lo ∨ hi ≤ p.block) (v : Value) : KP n₀ lo hi W (W.setCell p v) :=
  ⟨(Below.refl _ _).setCell h1 v, fun b h3 h4 _ => Below.heap_setCell W p v b (by omega)⟩
theorem KP.put {n₀ lo hi : Nat} {w : World} (hn : n₀ ≤ w.heap.size) (hh : hi ≤ w.heap.size) (W : World) (l : Nat) (o o' : Obj) (hl : w.heap.size ≤ l) (h : W.heap[l]? = some o) (h1 : o.isCells = false) (h2 : o.isWalk = false) : KP n₀ lo hi W (W.putObj l o') :=
  ⟨belowK_b hn W l o o' hl h h1 h2, fun b _ h3 _ => World.putObj_heap_other (by omega)⟩

set_option maxRecDepth 100000 in
set_option maxHeartbeats 3200000 in
theorem heard1_in (n : Nat) (hn : 1 ≤ n) (y g1 g2 g3 n₀ lo hi : Nat) (v : Value) (l : List Sg) (inn : Sp) (th : Int) (J Jx : List Nat → World → Prop) (W : World) (hJ : AbidesFrom W.heap.size J)
    (hY : ∀ pre x W1, J pre W1 → pre.length < l.length → YieldAt Fence.wide (n - 1) Try.prog y (encN x) W1 fun e W' =>
      (e = .returned (.bool true) ∧ J (pre ++ [x]) W' ∧ KP n₀ lo hi W1 W') ∨ (e = .returned (.bool false) ∧ Jx (pre ++ [x]) W'))
    (hn₀ : n₀ ≤ W.heap.size) (h1 : W.cell? ⟨g1, 0, none⟩ = some v) (h2 : W.cell? ⟨g2, 0, none⟩ = some (.int .i64 th)) (h3 : W.cell? ⟨g3, 0, none⟩ = some (.int .i64 inn.1) ∧ W.cell? ⟨g3, 1, none⟩ = some (.int .i64 inn.2))
    (b2 : lo ≤ g2 ∧ g2 < hi) (b3 : lo ≤ g3 ∧ g3 < hi) (hL : ∀ W', Below n₀ W W' → Sgs W' v l) (h0 : J [] W) :
    CallsIn Fence.wide n Try.prog 44 #[.func (.yield y) #[] #[], .pointer (some ⟨g1, 0, none⟩), .pointer (some ⟨g2, 0, none⟩), .pointer (some ⟨g3, 0, none⟩)] W fun e W' => (∃ v, e = .returned v) ∧
      ((∃ xs, xs = hitsTo l inn th l.length ∧ J xs W') ∨ (∃ pre, pre <+: hitsTo l inn th l.length ∧ Jx pre W')) := by
  obtain ⟨a, cap, rfl, q1, q2, q3⟩ := (hL W (Below.refl _ _)).1.shape
  have HLL := Lib.hid hL
  clear hL
  obtain ⟨if_, it⟩ := inn
  simp only at h3
  obtain ⟨h3, h4⟩ := h3
  have hg1 := World.block_lt_of_cell? _ _ h1
  refine callsIn_of_wp Try.func44 rfl trivial ?_ rfl
  simp only [Try.ntmps44, List.size_toArray, List.length_cons, List.length_nil, Nat.reduceAdd, Nat.reduceSub, Array.replicate_succ, Array.replicate_zero, List.push_toArray, List.append_toArray, List.nil_append, List.cons_append]
  gi_wp2
  gi_loopw [9] (fun i wr => ∃ k : Nat, k ≤ l.length ∧ i = .int .i64 k ∧ J (hitsTo l (if_, it) th k) wr ∧ KP n₀ lo hi W wr ∧ W.heap.size ≤ wr.heap.size)
    (fun i _ => l.length - (intOf i).toNat)
  case atStart => exact ⟨0, Nat.zero_le _, rfl, h0, KP.refl _ _ _ _, Nat.le_refl _⟩
  case round =>
    obtain ⟨k, hk, rfl, hJs, hnx, hsz⟩ := hrel
    by_cases hlt : k < l.length
    · obtain ⟨s, hs⟩ : ∃ s, l[k]? = some s := ⟨_, List.getElem?_eq_getElem hlt⟩
      have hSg := HLL.out wr hnx.1
      have hgd := hSg.2 s (List.mem_of_getElem? hs)
      obtain ⟨b, off, rfl, hbl, hc⟩ := hSg.1.row (by rintro rfl; simp at hlt)
      obtain ⟨c0, c1, c2, c3, c4, c5⟩ := sg_cells hc hs
      have e2 := hnx.cell b2.1 b2.2 h2
      have e3 := hnx.cell b3.1 b3.2 h3
      have e4 := hnx.cell b3.1 b3.2 h4
      have l2 := World.block_lt_of_cell? _ _ e2
      have l3 := World.block_lt_of_cell? _ _ e3
      have hst := fun W' (hW' : Below wr.heap.size wr W') => strong_any s th W' (hgd.below hW')
      have hme := fun W' => meets_any s.sp.1 s.sp.2 if_ it W'
      have HH := Lib.hid (hitsTo_succ l (if_, it) th k hs)
      have HP : Hid (hit (if_, it) th s = (strong th s && meets (s.sp.1, s.sp.2) (if_, it))) := rfl
      have HQ := Lib.hid (hitsTo_prefix l (if_, it) th (show k + 1 ≤ l.length by omega))
      have hln := hitsTo_len l (if_, it) th k
      unfold sgv spv at *
      clear hSg hgd hc hs
      obtain ⟨fr, ⟨f, t⟩, lv, nn, ba, bc, B⟩ := s
      simp only at c0 c1 c2 c3 c4 c5 hst hme HP
      generalize B.length = L at *
      generalize hit _ _ _ = hh at *
      generalize strong _ _ = p at *
      generalize meets _ _ = q at *
      have hal : Below wr.heap.size wr (wr.alloc (.cells #[.int .i64 fr, .int .i64 f, .int .i64 t, .int .i64 lv, .int .i64 nn, .slice ba L bc] 28)) := below1 wr _
      have hlim : W.heap.size ≤ wr.heap.size := hsz
      cases p
      · have hz : hh = false := HP.out
        subst hz
        gi_wp2_with (refine ⟨trivial, ?_⟩; gi_at_call 45; refine (callsIn_wide.2 (hst _ hal)).mono ?_; rintro e w1 ⟨rfl, hb1⟩; have bb1 := bt hal hb1)
        refine ⟨trivial, ?_⟩
        gi_wp2
        refine ⟨fun _ h => (by cases h), ?_⟩
        gi_wp2
        go_roundw
        case rel => exact ⟨k + 1, by omega, by go_num, by rw [HH.out]; exact hJ _ _ _ none hJs (grown_of_below bb1) (by simp), hnx.trans (KP.of_below bb1 (Nat.le_trans hn₀ hsz)), Nat.le_trans hsz bb1.size⟩
        case measure => simp [intOf]; omega
      · cases q
        · have hz : hh = false := HP.out
          subst hz
          gi_wp2_with (first | (refine ⟨trivial, ?_⟩; gi_at_call 45; refine (callsIn_wide.2 (hst _ hal)).mono ?_; rintro e w1 ⟨rfl, hb1⟩; have bb1 := bt hal hb1; have hc1 := bcell hb1) | (refine ⟨trivial, ?_⟩; gi_at_call 46; refine (callsIn_wide.2 (hme _)).mono ?_; rintro e w2 ⟨rfl, hb2⟩; have bb2 := bt bb1 hb2))
          refine ⟨fun _ h => (by cases h), ?_⟩
          gi_wp2
          go_roundw
          case rel => exact ⟨k + 1, by omega, by go_num, by rw [HH.out]; exact hJ _ _ _ none hJs (grown_of_below bb2) (by simp), hnx.trans (KP.of_below bb2 (Nat.le_trans hn₀ hsz)), Nat.le_trans hsz bb2.size⟩
          case measure => simp [intOf]; omega
        · have hz : hh = true := HP.out
          subst hz
          gi_wp2_with (first | (refine ⟨trivial, ?_⟩; gi_at_call 45; refine (callsIn_wide.2 (hst _ hal)).mono ?_; rintro e w1 ⟨rfl, hb1⟩; have bb1 := bt hal hb1; have hc1 := bcell hb1) | (refine ⟨trivial, ?_⟩; gi_at_call 46; refine (callsIn_wide.2 (hme _)).mono ?_; rintro e w2 ⟨rfl, hb2⟩; have bb2 := bt bb1 hb2; obtain ⟨fn, tmps, assign, body, hy, hR⟩ := hY _ k w2 (hJ _ _ _ none hJs (grown_of_below bb2) (by simp)) (by omega); unfold encN at hy))
          refine hR.mono ?_
          rintro e W3 (⟨rfl, hJ3, hk3⟩ | ⟨rfl, hJx3⟩)
          · gi_wp2
            go_roundw
            case rel => exact ⟨k + 1, by omega, by go_num, by rw [HH.out]; exact hJ3, (hnx.trans (KP.of_below bb2 (Nat.le_trans hn₀ hsz))).trans hk3, Nat.le_trans hsz (Nat.le_trans bb2.size hk3.1.size)⟩
            case measure => simp [intOf]; omega
          · gi_wp2
            refine bodyPost_ret (results_none rfl _ _ _) rfl ?_
            refine ⟨⟨_, rfl⟩, .inr ⟨_, ?_, hJx3⟩⟩
            have := HQ.out
            rw [HH.out] at this
            exact this
    · obtain rfl : k = l.length := by omega
      gi_wp2
      go_end0
      exact ⟨⟨_, rfl⟩, .inl ⟨_, rfl, hJs⟩⟩
end Go.Proofs.Ytehgiagefiakkaa
