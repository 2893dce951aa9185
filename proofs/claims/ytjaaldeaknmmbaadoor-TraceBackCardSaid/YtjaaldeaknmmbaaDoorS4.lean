/- slices.Index and slices.Contains at integers. Round: what it hands back. The document's Round. -/
import Derived.Test.YtjaaldeaknmmbaaDoorS1
import Derived.Test.YtjaaldeaknmmbaaDoorLA
namespace Go.Proofs.YtjaaldeaknmmbaaDoor
open Go.RowKit Go.Shelf

/-- A slice of 64-bit integers that reads as l (their bounds are not told). -/
abbrev Ns (w : World) (v : Value) (l : List Int) : Prop := Rd (encI .i64) 1 w v l
/-- Where x stands first: -1: nowhere. -/
def indexOf (x : Int) : List Int → Nat → Int
  | [], _ => -1
  | y :: l, k => if x = y then k else indexOf x l (k + 1)
theorem indexOf_ge (x : Int) : ∀ (l : List Int) (k : Nat), decide (0 ≤ indexOf x l k) = l.contains x
  | [], _ => rfl
  | y :: l, k => by
    unfold indexOf
    by_cases h : x = y
    · subst h; simp
    · rw [if_neg h, indexOf_ge x l (k + 1)]
      simp [h]

set_option maxHeartbeats 1600000 in
theorem index_any (v : Value) (l : List Int) (x : Int) (w : World) (h : Ns w v l) :
    Calls Tryd.prog 53 #[v, .int .i64 x] w fun e w' => e = .returned (.int .i64 (indexOf x l 0)) ∧ w' = w := by
  obtain ⟨a, c, rfl, h1, h2, h3⟩ := h.shape
  have HR := Lib.hid h
  clear h
  go_enter Tryd.func53, Tryd.ntmps53
  go_wp2
  go_loop [8] (fun i => ∃ k : Nat, k ≤ l.length ∧ i = .int .i64 k ∧ Hid (indexOf x l 0 = indexOf x (l.drop k) k)) (fun i => l.length - (intOf i).toNat)
  case atStart => exact ⟨0, Nat.zero_le _, rfl, rfl⟩
  case round =>
    obtain ⟨k, hk, rfl, HI⟩ := hrel
    by_cases hlt : k < l.length
    · obtain ⟨y, hy⟩ : ∃ y, l[k]? = some y := ⟨_, List.getElem?_eq_getElem hlt⟩
      obtain ⟨b, off, rfl, hbl, hc⟩ := HR.out.row (by rintro rfl; simp at hlt)
      have c0 : w.cell? ⟨b, off + k, none⟩ = some (.int .i64 y) := hc.one (f := fun x => .int .i64 x) hy
      have HD : Hid (l.drop k = y :: l.drop (k + 1)) := by
        have := List.drop_eq_getElem_cons hlt
        rw [List.getElem?_eq_getElem hlt] at hy
        cases hy
        exact this
      clear hy hc
      by_cases hxy : x = y
      · subst hxy
        go_wp2
        go_ret
        refine ⟨ret_int ?_, rfl⟩
        rw [HI.out, HD.out, indexOf, if_pos rfl]
      · have hne : (x == y) = false := by simpa using hxy
        have HN := Lib.hid hxy
        clear hxy
        go_wp2
        go_round
        case rel =>
          refine ⟨k + 1, by omega, by go_num, ?_⟩
          have := HI.out
          rw [HD.out, indexOf, if_neg HN.out] at this
          exact this
        case measure => simp [intOf]; omega
    · obtain rfl : k = l.length := by omega
      go_wp2
      go_ret
      refine ⟨ret_int ?_, rfl⟩
      rw [HI.out, List.drop_length]
      rfl

theorem contains_any (v : Value) (l : List Int) (x : Int) (w : World) (h : Ns w v l) :
    Calls Tryd.prog 39 #[v, .int .i64 x] w fun e w' => e = .returned (.bool (l.contains x)) ∧ w' = w := by
  have hi := fun W (hW : Ns W v l) => index_any v l x W hW
  have HI := Lib.hid (indexOf_ge x l 0)
  obtain ⟨a, c, rfl, _⟩ := h.shape
  generalize indexOf x l 0 = y at *
  generalize l.contains x = z at *
  go_enter Tryd.func39, Tryd.ntmps39
  go_wp2_with (go_at_call 53; refine (hi _ h).mono ?_; rintro e w' ⟨rfl, rfl⟩)
  go_ret
  exact ⟨ret_bool HI.out, rfl⟩
end Go.Proofs.YtjaaldeaknmmbaaDoor
namespace Go.Proofs.YtjaaldeaknmmbaaDoor
open Go.RowKit Go.Shelf

theorem round_any (l : List Sn) (v : Value) (k : Int) (w : World) (h : Snaps w v l) (hl : l.length ≤ 300) :
    Calls Tryd.prog 38 #[v, .int .i64 k] w fun e w' => e = .returned (.func (.func 52) #[] #[.pointer (some ⟨w.heap.size, 0, none⟩), .pointer (some ⟨w.heap.size + 1, 0, none⟩)]) ∧
      ∃ v', Blk w' w.heap.size 22 #[v'] ∧ Blk w' (w.heap.size + 1) 3 #[.int .i64 k] ∧ w'.ownsRow (w.heap.size + 2) 43 23 v' l.length (l.flatMap encS) ∧ Below w.heap.size w w' := by
  have hc := fun W (hW : Below w.heap.size w W) => sclone_any l v W (h.below hW) hl
  have HJ : Hid (Bx w ((w.alloc (.cells #[v] 22)).alloc (.cells #[.int .i64 k] 3)) [(w.heap.size, 22, #[v]), (w.heap.size + 1, 3, #[.int .i64 k])]) := (((Bx.nil w).new (b := w.heap.size) #[v] 22 (by simp)).new (b := w.heap.size + 1) #[.int .i64 k] 3 (by simp))
  obtain ⟨a, cap, rfl, _⟩ := h.shape
  clear h
  go_enter Tryd.func38, Tryd.ntmps38
  go_wp2_with fail
  refine (hc _ HJ.out.2).mono ?_
  rintro e w1 ⟨⟨v', rfl, ho⟩, hb⟩
  replace HJ := Lib.hid (HJ.out.keep hb)
  obtain ⟨a', c', rfl, _⟩ := owns_shape ho
  have HO := Lib.hid ho
  clear ho hb hc
  have c0 := HJ.out.at 0 0 rfl rfl
  have f0 : w1.frozen? ⟨w.heap.size, 0, none⟩ = false := HJ.out.fz 0 0 rfl
  have z0 : w.heap.size < w1.heap.size := HJ.out.lt 0 rfl
  go_wp2
  go_ret
  have ho : w1.ownsRow (w.heap.size + 2) 43 23 (.slice a' l.length c') l.length (l.flatMap encS) := by simpa using HO.out
  refine ⟨rfl, _, (HJ.out.get 0 rfl).set 0 _, (HJ.out.get 1 rfl).far (by simp) _, ?_, HJ.out.2.setCell (by simp) _⟩
  refine ho.kept (grownBy_setCell w1 _ _) ?_
  rcases ho.2 with ⟨e1, _⟩ | ⟨g, cap', cur, e1, hg, _, _⟩
  · exact .inl (by rw [e1]; rfl)
  · refine .inr fun e' => ?_
    rw [e1] at e'
    have : g = w.heap.size := by simpa [Value.ownBlock] using e'
    omega
end Go.Proofs.YtjaaldeaknmmbaaDoor
namespace Go.Proofs.YtjaaldeaknmmbaaDoor
open Go.RowKit Go.Shelf

theorem W41 : Wide Tryd.prog 43 23 := ⟨⟨_, Tryd.underlying43, rfl⟩, by kernel_rfl⟩
theorem sn_at {w : World} {b off k : Nat} {l : List Sn} {x : Sn} (h : CellsAt encS 23 w b off l) (hk : l[k]? = some x) : ∀ j u, (encS x)[j]? = some u → w.cell? ⟨b, off + k * 23 + j, none⟩ = some u := h k x hk
theorem sn_r {w : World} {b off k : Nat} {l : List Sn} {x : Sn} (h : CellsAt encS 23 w b off l) (hk : l[k]? = some x) : w.cell? ⟨b, off + k * 23, none⟩ = some (.int .i64 x.r) := h k x hk 0 _ rfl
def ofR (l : List Sn) (r : Int) (k : Nat) : List Sn := (l.take k).filter (fun x => x.r == r)
theorem ofR_succ (l : List Sn) (r : Int) (k : Nat) (x : Sn) (hx : l[k]? = some x) : ofR l r (k + 1) = if (x.r == r) = true then ofR l r k ++ [x] else ofR l r k := filter_snoc (fun x : Sn => x.r == r) hx
theorem ofR_len (l : List Sn) (r : Int) (k : Nat) : (ofR l r k).length ≤ l.length := by
  have h1 := List.length_filter_le (fun x : Sn => x.r == r) (l.take k)
  have h2 := List.length_take_le' k l
  unfold ofR
  omega

end Go.Proofs.YtjaaldeaknmmbaaDoor
