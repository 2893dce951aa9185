/- Scripts and the host's operations as they lie; Clone; Ops. The document's Ops. -/
import Derived.Test.YtkinhhkodaacjaaG1
namespace Go.Proofs.Ytkinhhkodaacjaa
open Go.RowKit Go.Shelf
open Md

structure Ho where
  (n r s k v : Int)
  a : Option Addr
  c : Nat
  d : List Int
def encH (x : Ho) : List Value := [.int .i64 x.n, .int .i64 x.r, .int .i64 x.s, .int .i64 x.k, .int .i64 x.v, .slice x.a x.d.length x.c]
theorem encH_len (x : Ho) : (encH x).length = 6 := rfl
theorem encH_one (x : Ho) : ∀ u ∈ encH x, u.oneCell' = true := by
  intro v hv
  simp [encH] at hv
  rcases hv with rfl | rfl | rfl | rfl | rfl | rfl <;> rfl
structure GoodH (w : World) (x : Ho) : Prop where
  d : Byts w (.slice x.a x.d.length x.c) x.d
  n : I64 x.n
  r : I64 x.r
  s : I64 x.s
  k : I64 x.k
  v : I64 x.v
theorem GoodH.below {w w' : World} {x : Ho} (h : GoodH w x) (hb : Below w.heap.size w w') : GoodH w' x := ⟨h.d.below hb, h.n, h.r, h.s, h.k, h.v⟩
noncomputable def zH : Value := ((Try.prog.info? 43).bind (fun i => i.zero)).getD (.bool false)
theorem E27 : Elem Try.prog 27 43 zH 6 64 := ⟨Try.underlying27, by kernel_rfl, by kernel_rfl, by decide, by decide⟩
abbrev Hos (w : World) (v : Value) (l : List Ho) : Prop := Rd encH 6 w v l
/-- A script. -/
structure Sc where
  rounds : Int
  ups : Bl
  (offs gates guards drifts : Il)
  oa : Option Addr
  oc : Nat
  ops : List Ho
  fa : Option Addr
  fc : Nat
  faults : List Fa
def encSc (x : Sc) : List Value := [.int .i64 x.rounds, .slice x.ups.a x.ups.l.length x.ups.c, .slice x.offs.a x.offs.l.length x.offs.c, .slice x.gates.a x.gates.l.length x.gates.c, .slice x.guards.a x.guards.l.length x.guards.c, .slice x.drifts.a x.drifts.l.length x.drifts.c, .slice x.oa x.ops.length x.oc, .slice x.fa x.faults.length x.fc]
theorem encSc_len (x : Sc) : (encSc x).length = 8 := rfl
theorem encSc_one (x : Sc) : ∀ u ∈ encSc x, u.oneCell' = true := by
  intro v hv
  simp [encSc] at hv
  rcases hv with rfl | rfl | rfl | rfl | rfl | rfl | rfl | rfl <;> rfl
structure GoodSc (w : World) (x : Sc) : Prop where
  rounds : I64 x.rounds
  ups : Bls w x.ups
  offs : Ils w x.offs
  gates : Ils w x.gates
  guards : Ils w x.guards
  drifts : Ils w x.drifts
  ops : Hos w (.slice x.oa x.ops.length x.oc) x.ops
  opg : ∀ y ∈ x.ops, GoodH w y
  faults : Rd encF 7 w (.slice x.fa x.faults.length x.fc) x.faults
theorem GoodSc.below {w w' : World} {x : Sc} (h : GoodSc w x) (hb : Below w.heap.size w w') : GoodSc w' x :=
  ⟨h.rounds, h.ups.below hb, ⟨h.offs.1.below hb, h.offs.2⟩, ⟨h.gates.1.below hb, h.gates.2⟩, ⟨h.guards.1.below hb, h.guards.2⟩, ⟨h.drifts.1.below hb, h.drifts.2⟩, h.ops.below hb, fun y hy => (h.opg y hy).below hb, h.faults.below hb⟩
theorem hclone_any (l : List Ho) (v : Value) (w : World) (h : Hos w v l) (hl : l.length ≤ 300) :
    Calls Try.prog 40 #[v] w fun e w' => (∃ v', e = .returned v' ∧ w'.ownsRow w.heap.size 43 6 v' l.length (l.flatMap encH)) ∧ Below w.heap.size w w' := by
  have h0 := h
  obtain ⟨a, cap, rfl, h1, h2, h3⟩ := h.shape
  cases a with
  | none =>
    obtain ⟨rfl, _, rfl⟩ := h.none_
    clear h h0
    have hq := fun w : World => Lib.run_eql_slice_nil (P := Try.prog) w 27 43 none 0 0 0 0 Try.underlying27
    go_enter Try.func40, Try.ntmps40
    go_wp2
    go_ret
    exact ⟨⟨_, rfl, by simpa using World.ownsRow_nil _ _ _ _⟩, Below.refl _ _⟩
  | some ad =>
    have hnq := fun w : World => Lib.run_eql_slice_nil (P := Try.prog) w 27 43 (some ad) l.length cap 0 0 Try.underlying27
    have hal : Below w.heap.size w (w.alloc (.cells #[] 43)) := (Below.refl _ _).alloc (Nat.le_refl _) _
    have hs := (h.below hal).src encH_len encH_one (by omega)
    have hown : (w.alloc (.cells #[] 43)).ownsRow w.heap.size 43 6 (.slice (some ⟨w.heap.size, 0, none⟩) 0 0) 0 [] := World.ownsRow_made w #[] 0 (Nat.le_refl _) (by decide) rfl
    clear h h0
    go_enter Try.func40, Try.ntmps40
    go_wp2_with (at_builtin; refine wpList_app E27 rfl _ _ rfl hown hs rfl rfl (by omega) (by simp) ?_; intro v' w1 hown1 hgrow _)
    go_ret
    refine ⟨⟨_, rfl, by simpa using hown1⟩, below_app hal (Nat.le_refl _) hown hgrow (by simp)⟩
/-- What Ops hands back. -/
def OpsPost (l : List Ho) (n r s : Int) (w : World) (e : Ending) (w' : World) : Prop :=
  ∃ g v', e = .returned (.func (.func 41) #[] #[.pointer (some ⟨g, 0, none⟩), .pointer (some ⟨w.heap.size + 1, 0, none⟩), .pointer (some ⟨w.heap.size + 2, 0, none⟩), .pointer (some ⟨w.heap.size + 3, 0, none⟩)]) ∧
    Blk w' g 27 #[v'] ∧ Blk w' (w.heap.size + 1) 3 #[.int .i64 n] ∧ Blk w' (w.heap.size + 2) 3 #[.int .i64 r] ∧ Blk w' (w.heap.size + 3) 3 #[.int .i64 s] ∧ w'.ownsRow (w.heap.size + 4) 43 6 v' l.length (l.flatMap encH) ∧ Below w.heap.size w w' ∧ w.heap.size + 4 ≤ g
set_option maxRecDepth 100000 in
set_option maxHeartbeats 1600000 in
theorem ops_any (x : Sc) (n r s : Int) (w : World) (h : GoodSc w x) (hl : x.ops.length ≤ 300) : Calls Try.prog 16 #[.agg (encSc x).toArray, .int .i64 n, .int .i64 r, .int .i64 s] w (OpsPost x.ops n r s w) := by
  have hc := fun W (hW : Below w.heap.size w W) => hclone_any x.ops (.slice x.oa x.ops.length x.oc) W (h.ops.below hW) hl
  have HJ : Hid (Bx w ((((w.alloc (.cells (encSc x).toArray 30)).alloc (.cells #[.int .i64 n] 3)).alloc (.cells #[.int .i64 r] 3)).alloc (.cells #[.int .i64 s] 3)) [(w.heap.size, 30, (encSc x).toArray), (w.heap.size + 1, 3, #[.int .i64 n]), (w.heap.size + 2, 3, #[.int .i64 r]), (w.heap.size + 3, 3, #[.int .i64 s])]) :=
    ((((Bx.nil w).new (b := w.heap.size) (encSc x).toArray 30 (by simp)).new (b := w.heap.size + 1) #[.int .i64 n] 3 (by simp)).new (b := w.heap.size + 2) #[.int .i64 r] 3 (by simp)).new (b := w.heap.size + 3) #[.int .i64 s] 3 (by simp)
  generalize hpo : OpsPost x.ops n r s w = POST at *
  have HR := Lib.hid hpo
  clear hpo
  have c6 : ((((w.alloc (.cells (encSc x).toArray 30)).alloc (.cells #[.int .i64 n] 3)).alloc (.cells #[.int .i64 r] 3)).alloc (.cells #[.int .i64 s] 3)).cell? ⟨w.heap.size, 6, none⟩ = some (.slice x.oa x.ops.length x.oc) := (HJ.out.get 0 rfl).list0 rfl
  clear h hl
  go_enter Try.func16, Try.ntmps16
  go_upto_region 1 with fail
  change Code.wp _ _ _ _ ((((w.alloc (.cells (encSc x).toArray 30)).alloc (.cells #[.int .i64 n] 3)).alloc (.cells #[.int .i64 r] 3)).alloc (.cells #[.int .i64 s] 3))
  generalize ((((w.alloc (.cells (encSc x).toArray 30)).alloc (.cells #[.int .i64 n] 3)).alloc (.cells #[.int .i64 r] 3)).alloc (.cells #[.int .i64 s] 3)) = W0 at *
  go_wp2_with fail
  refine (hc _ HJ.out.2).mono ?_
  rintro e w1 ⟨⟨v', rfl, ho⟩, hb⟩
  have hbase := HJ.out.lt 3 rfl
  replace HJ := Lib.hid (HJ.out.keep hb)
  obtain ⟨a', c', rfl, _⟩ := owns_shape ho
  have HO := Lib.hid (ow_mono ho (show w.heap.size + 4 ≤ W0.heap.size from hbase))
  have hz : w.heap.size + 4 ≤ w1.heap.size := HJ.out.lt 3 rfl
  have HZ := Lib.hid hz
  clear ho hb hc c6 hbase hz
  go_wp2
  rw [← HR.out]
  have hal := below1 w1 (.cells #[.slice a' x.ops.length c'] 27)
  have HJ2 := HJ.out.keep hal
  exact ⟨_, _, rfl, Blk.new' rfl, HJ2.get 1 rfl, HJ2.get 2 rfl, HJ2.get 3 rfl, ow_below HO.out hal, HJ2.2, HZ.out⟩
end Go.Proofs.Ytkinhhkodaacjaa
namespace Go.Proofs.Ytkinhhkodaacjaa
open Go.RowKit Go.Shelf
open Md

def hit (n r s : Int) (x : Ho) : Bool := decide (x.n = n ∧ x.r = r ∧ x.s = s)
def ofH (l : List Ho) (n r s : Int) (k : Nat) : List Ho := (l.take k).filter (hit n r s)
theorem ofH_succ (l : List Ho) (n r s : Int) (k : Nat) (x : Ho) (hx : l[k]? = some x) : ofH l n r s (k + 1) = if hit n r s x = true then ofH l n r s k ++ [x] else ofH l n r s k := filter_snoc (hit n r s) hx
theorem ofH_len (l : List Ho) (n r s : Int) (k : Nat) : (ofH l n r s k).length ≤ l.length := by
  have h1 := List.length_filter_le (hit n r s) (l.take k)
  have h2 := List.length_take_le' k l
  unfold ofH
  omega
theorem ho_at {w : World} {b off k : Nat} {l : List Ho} {x : Ho} (h : CellsAt encH 6 w b off l) (hk : l[k]? = some x) : ∀ j u, (encH x)[j]? = some u → w.cell? ⟨b, off + k * 6 + j, none⟩ = some u := h k x hk
set_option maxRecDepth 100000 in
set_option maxHeartbeats 1600000 in
theorem rops_any (y : Sc) (n r s : Int) (w : World) (h : GoodSc w y) (hl : y.ops.length ≤ 300) :
    Calls Try.prog 14 #[.agg (encSc y).toArray, .int .i64 n, .int .i64 r, .int .i64 s] w fun e w' => (∃ v', e = .returned v' ∧ w'.ownsRow w.heap.size 43 6 v' (ofH y.ops n r s y.ops.length).length ((ofH y.ops n r s y.ops.length).flatMap encH)) ∧ Below w.heap.size w w' := by
  obtain ⟨l, hly⟩ : ∃ l, l = y.ops := ⟨_, rfl⟩
  rw [← hly] at hl ⊢
  have HS := Lib.hid h.ops
  rw [← hly] at HS
  have HB0 : Hid (ofH l n r s 0 = []) := rfl
  have HB1 := Lib.hid (fun k x => ofH_succ l n r s k x)
  have HBL := Lib.hid (fun k => ofH_len l n r s k)
  have HX : Hid (Blk (w.alloc (.cells (encSc y).toArray 30)) w.heap.size 30 (encSc y).toArray) := Blk.new' rfl
  have HW0 := Lib.hid (below1 w (.cells (encSc y).toArray 30))
  have HC6 : Hid ((encSc y)[6]? = some (.slice y.oa l.length y.oc)) := by rw [hly]; rfl
  clear h hly
  generalize hbt : ofH l n r s = bt' at *
  clear hbt
  generalize hn : l.length = m at *
  have HN := Lib.hid hn
  clear hn
  go_enter Try.func14, Try.ntmps14
  go_upto_region 1 with fail
  change Code.wp _ _ _ _ (w.alloc (.cells (encSc y).toArray 30))
  generalize w.alloc (.cells (encSc y).toArray 30) = W0 at *
  go_wp2_with fail
  go_loopw [9, 10] (fun u i wr => ∃ k : Nat, k ≤ m ∧ i = .int .i64 k ∧ Hid (wr.ownsRow w.heap.size 43 6 u (bt' k).length ((bt' k).flatMap encH)) ∧ Hid (Below w.heap.size w wr) ∧ Hid (Blk wr w.heap.size 30 (encSc y).toArray)) (fun _ i _ => m - (intOf i).toNat)
  case atStart => exact ⟨0, Nat.zero_le _, rfl, by rw [HB0.out]; exact World.ownsRow_nil _ _ _ _, HW0.out, HX.out⟩
  case round =>
    obtain ⟨k, hk, rfl, HO, HW, HXR⟩ := hrel
    clear HX HW0
    have c6 : wr.cell? ⟨w.heap.size, 6, none⟩ = some (.slice y.oa m y.oc) := HXR.out.list0 HC6.out
    by_cases hlt : k < m
    · obtain ⟨x, hs⟩ : ∃ x, l[k]? = some x := ⟨_, List.getElem?_eq_getElem (by rw [HN.out]; exact hlt)⟩
      have HQ := Lib.hid (HB1.out k x hs)
      have hSg := HS.out.below HW.out
      have hlen := HBL.out k
      have hsz := HW.out.size
      obtain ⟨b, off, hba, hbl, hc⟩ := hSg.row (by rintro rfl; simp at hs)
      rw [hba] at c6
      have c0 : wr.cell? ⟨b, off + k * 6, none⟩ = some (.int .i64 x.n) := ho_at hc hs 0 _ rfl
      have c1 : wr.cell? ⟨b, off + k * 6 + 1, none⟩ = some (.int .i64 x.r) := ho_at hc hs 1 _ rfl
      have c2 : wr.cell? ⟨b, off + k * 6 + 2, none⟩ = some (.int .i64 x.s) := ho_at hc hs 2 _ rfl
      have HC := Lib.hid (ho_at hc hs)
      clear hSg hc hs hba
      by_cases hp : x.n = n
      · have hp1 : (x.n == n) = true := by simpa using hp
        by_cases hq : x.r = r
        · have hq1 : (x.r == r) = true := by simpa using hq
          by_cases ht : x.s = s
          · have ht1 : (x.s == s) = true := by simpa using ht
            have HQ2 : Hid (bt' (k + 1) = bt' k ++ [x]) := by show _ = _; rw [HQ.out, if_pos (by simp only [hit, decide_eq_true_eq]; exact ⟨hp, hq, ht⟩)]
            clear HQ hp hq ht
            go_wp2_with (first | ((with_reducible show wpList _ _ _ (Oper.mk (some 51) _ _ _ _ _ :: _) _ _); refine wpList_loadW W43 rfl rfl rfl (encH x) rfl HC.out ?_) | ((with_reducible show wpList _ _ _ (Oper.mk (some 52) _ _ _ _ _ :: _) _ _); refine wpList_sliceW E27 (by decide) rfl rfl (encH x) rfl rfl ?_) | (at_builtin; refine wpList_app1 E27 rfl _ _ rfl HO.out (encH x) rfl (encH_one x) rfl rfl (by omega) hsz ?_; intro v' w3 ho hg; have HBX := Lib.hid (HXR.out.kept hg (fun e => own_blk_ne HO.out HXR.out (by decide) e.symm))))
            go_roundw
            case rel => exact ⟨k + 1, by omega, by go_num, by rw [HQ2.out]; show World.ownsRow _ _ _ _ _ _ _; simpa using ho, below_app HW.out (Nat.le_refl _) HO.out hg hsz, HBX⟩
            case measure => simp [intOf]; omega
          · have ht1 : (x.s == s) = false := by simpa using ht
            have HQ2 : Hid (bt' (k + 1) = bt' k) := by show _ = _; rw [HQ.out, if_neg (by simp only [hit, decide_eq_true_eq]; rintro ⟨q1, q2, q3⟩; contradiction)]
            clear ht hq hp
            clear HQ
            go_wp2
            go_roundw
            case rel => exact ⟨k + 1, by omega, by go_num, by rw [HQ2.out]; exact HO.out, HW, HXR⟩
            case measure => simp [intOf]; omega
        · have hq1 : (x.r == r) = false := by simpa using hq
          have HQ2 : Hid (bt' (k + 1) = bt' k) := by show _ = _; rw [HQ.out, if_neg (by simp only [hit, decide_eq_true_eq]; rintro ⟨q1, q2, q3⟩; contradiction)]
          clear hq hp
          clear HQ
          go_wp2
          go_roundw
          case rel => exact ⟨k + 1, by omega, by go_num, by rw [HQ2.out]; exact HO.out, HW, HXR⟩
          case measure => simp [intOf]; omega
      · have hp1 : (x.n == n) = false := by simpa using hp
        have HQ2 : Hid (bt' (k + 1) = bt' k) := by show _ = _; rw [HQ.out, if_neg (by simp only [hit, decide_eq_true_eq]; rintro ⟨q1, q2, q3⟩; contradiction)]
        clear hp
        clear HQ
        go_wp2
        go_roundw
        case rel => exact ⟨k + 1, by omega, by go_num, by rw [HQ2.out]; exact HO.out, HW, HXR⟩
        case measure => simp [intOf]; omega
    · obtain rfl : m = k := by omega
      obtain ⟨ao, co, rfl, -⟩ := owns_shape HO.out
      go_wp2
      go_ret
      exact ⟨⟨_, rfl, HO.out⟩, HW.out⟩
end Go.Proofs.Ytkinhhkodaacjaa
