/- Scripts and the host's operations as they lie; Clone; Ops. The document's Ops. Ops: its iterator. told: the first ones that an iterator tells. few; told of Ops. -/
import Derived.Test.YtkinhhkodaacjaaGreatDoorSc0
import Derived.Test.YtkinhhkodaacjaaGreatDoorG1
import Derived.Test.YtkinhhkodaacjaaGreatDoorLA
import Derived.OwnWalkIn
import Derived.Deep.DeepMust
namespace Go.Proofs.YtkinhhkodaacjaaGreatDoor
open Go.RowKit Go.Shelf
open Md

end Go.Proofs.YtkinhhkodaacjaaGreatDoor
namespace Go.Proofs.YtkinhhkodaacjaaGreatDoor
open Go.RowKit Go.Shelf
open Md

def hit (n r s : Int) (x : Ho) : Bool := decide (x.n = n ∧ x.r = r ∧ x.s = s)
def ofH (l : List Ho) (n r s : Int) (k : Nat) : List Ho := (l.take k).filter (hit n r s)
theorem ofH_succ (l : List Ho) (n r s : Int) (k : Nat) (x : Ho) (hx : l[k]? = some x) : ofH l n r s (k + 1) = if hit n r s x = true then ofH l n r s k ++ [x] else ofH l n r s k := filter_snoc (hit n r s) hx
theorem ofH_len (l : List Ho) (n r s : Int) (k : Nat) : (ofH l n r s k).length ≤ l.length := by
  have h1 := List.length_filter_le (hit n r s) (l.take k)
  have h2 := List.length_take_le' k l
  unfold ofH
  omega
theorem ho_at {w : World} {b off k : Nat} {l : List Ho} {x : Ho} (h : CellsAt encH 6 w b off l) (hk : l[k]? = some x) : ∀ j u, (encH x)[j]? = some u → w.cell? ⟨b, off + k * 6 + j, none⟩ = some u := h k x hk
end Go.Proofs.YtkinhhkodaacjaaGreatDoor
namespace Go.Proofs.YtkinhhkodaacjaaGreatDoor
open Go.RowKit Go.Shelf
open Md
attribute [local go_sem] Oper.semAt_some

def encQ (x : Ho) : Array Value := #[.agg (encH x).toArray]
end Go.Proofs.YtkinhhkodaacjaaGreatDoor
namespace Go.Proofs.YtkinhhkodaacjaaGreatDoor
open Go.RowKit Go.Shelf
attribute [local go_sem] Oper.semAt_some

/-- Between two rounds: how many are wanted, what came so far. -/
def ToldI (most : Int) (w : World) (pre : List Ho) (W : World) : Prop :=
  Blk W w.heap.size 3 #[.int .i64 most] ∧ Below w.heap.size w W ∧ pre.length ≤ most.toNat ∧
  ∃ v, Blk W (w.heap.size + 1) 24 #[v] ∧ W.ownsRow (w.heap.size + 2) 46 6 v pre.length (pre.flatMap encH)
def ToldX (most : Int) (w : World) (c : Code) (pre : List Ho) (W : World) : Prop :=
  c = .exit 0 ∧ pre.dropLast.length = most.toNat ∧ ToldI most w pre.dropLast W
theorem ToldI.own (most : Int) (w : World) (B : Nat) (hB : w.heap.size ≤ B) : OwnFrom B (ToldI most w) := fun s A A' row hs hg hr => by
  obtain ⟨h1, h2, h3, v, h4, h5⟩ := hs
  have hne : ∀ b t cs, Blk A b t cs → some b ≠ row := fun b t cs hb e => by
    obtain ⟨_, o, ho, hc⟩ := hr b e.symm
    rw [show A.heap[b]? = _ from hb] at ho; cases ho; cases hc
  refine ⟨h1.kept hg (hne _ _ _ h1), h2.grown hg h2.size (fun k e => Nat.le_trans hB (hr k e).1), h3, v, h4.kept hg (hne _ _ _ h4), h5.kept hg ?_⟩
  rcases h5.2 with ⟨rfl, _⟩ | ⟨g, cap, cur, rfl, _, hgb, _⟩
  · exact .inl rfl
  · refine .inr fun e' => ?_
    obtain ⟨_, o, ho, hw⟩ := hr g (by simpa [Value.ownBlock] using e'.symm)
    rw [hgb] at ho; cases ho; cases hw
theorem ToldX.own (most : Int) (w : World) (B : Nat) (hB : w.heap.size ≤ B) (c : Code) : OwnFrom B (ToldX most w c) := fun _ A A' row hs hg hr =>
  ⟨hs.1, hs.2.1, ToldI.own most w B hB _ A A' row hs.2.2 hg hr⟩
def ToldPost (X : List Ho) (most : Int) (w : World) (e : Ending) (w' : World) : Prop :=
  (∃ v, e = .returned v ∧ w'.ownsRow w.heap.size 46 6 v (X.take most.toNat).length ((X.take most.toNat).flatMap encH)) ∧ Below w.heap.size w w'
theorem own_set {w : World} {base e size n : Nat} {v : Value} {xs : List Value} (h : w.ownsRow base e size v n xs) {p : Addr} (hp : p.block < base) (u : Value) : (w.setCell p u).ownsRow base e size v n xs := by
  refine h.kept (grownBy_setCell w p u) ?_
  rcases h.2 with ⟨rfl, _⟩ | ⟨g, cap, cur, rfl, hg, _, _⟩
  · exact .inl rfl
  · refine .inr fun e' => ?_
    have : g = p.block := by simpa [Value.ownBlock] using e'
    omega

end Go.Proofs.YtkinhhkodaacjaaGreatDoor
namespace Go.Proofs.YtkinhhkodaacjaaGreatDoor
open Go.RowKit Go.Shelf
open Md

structure Small (x : Sc) : Prop where
  l1 : x.ups.l.length ≤ 99
  l2 : x.offs.l.length ≤ 99
  l3 : x.gates.l.length ≤ 99
  l4 : x.guards.l.length ≤ 99
  l5 : x.drifts.l.length ≤ 1100
  l6 : x.ops.length ≤ 300
  l7 : x.faults.length ≤ 300
  l8 : ∀ o ∈ x.ops, o.d.length ≤ 9000
def FewPost (x : Sc) (w : World) (e : Ending) (w' : World) : Prop := (∃ b, e = .returned (.bool b) ∧ (b = true → Small x)) ∧ Below w.heap.size w w'
set_option maxRecDepth 100000 in
set_option maxHeartbeats 1600000 in
theorem few_any (x : Sc) (w : World) (h : GoodSc w x) : Calls Tryz.prog 6 #[.agg (encSc x).toArray] w (FewPost x w) := by
  have HPF : Hid (∀ w', Below w.heap.size w w' → FewPost x w (.returned (.bool false)) w') := fun w' hb => ⟨⟨_, rfl, fun h => by cases h⟩, hb⟩
  have HPT : Hid (Small x → ∀ w' b, Below w.heap.size w w' → FewPost x w (.returned (.bool b)) w') := fun hs w' b hb => ⟨⟨_, rfl, fun _ => hs⟩, hb⟩
  generalize FewPost x w = POST at *
  have HS := Lib.hid h.ops
  have HD : Hid (∀ z ∈ x.ops, z.d.length ≤ 140737488351232) := fun z hz => (h.opg z hz).d.1.len
  have HX : Hid (Blk (w.alloc (.cells (encSc x).toArray 27)) w.heap.size 27 (encSc x).toArray) := Blk.new' rfl
  have HW0 := Lib.hid (below1 w (.cells (encSc x).toArray 27))
  obtain ⟨h7, h9, h10⟩ : x.ops.length ≤ x.oc ∧ x.oc ≤ 9223372036854775807 ∧ x.ops.length ≤ 140737488351232 := by
    obtain ⟨a, c, e, q1, q2, q3⟩ := h.ops.shape
    simp only [Value.slice.injEq] at e
    exact ⟨by rw [e.2.2]; exact q1, by rw [e.2.2]; exact q2, q3⟩
  clear h
  go_enter Tryz.func6, Tryz.ntmps6
  go_upto_region 1 with fail
  change Code.wp _ _ _ _ (w.alloc (.cells (encSc x).toArray 27))
  generalize w.alloc (.cells (encSc x).toArray 27) = W0 at *
  have HLS : Hid (∀ z, x.ops.length = z → (x.ups.l.length ≤ 99 ∧ x.offs.l.length ≤ 99 ∧ x.gates.l.length ≤ 99 ∧ x.guards.l.length ≤ 99 ∧ x.drifts.l.length ≤ 1100 ∧ z ≤ 300 ∧ x.faults.length ≤ 300) → (∀ o ∈ x.ops, o.d.length ≤ 9000) → Small x) := fun z e ⟨a, b, c, d, e', f, g⟩ h => by subst e; exact ⟨a, b, c, d, e', f, g, h⟩
  have c6 : W0.cell? ⟨w.heap.size, 6, none⟩ = some (.slice x.oa x.ops.length x.oc) := HX.out.list0 rfl
  obtain ⟨L, hL⟩ : ∃ L, x.ops.length = L := ⟨_, rfl⟩
  have HSM := Lib.hid (HLS.out L hL)
  have HLN := Lib.hid hL
  rw [hL] at c6 h7 h10 HS
  clear HLS hL
  have him := imin_le (L : Int) 999
  generalize hm : imin (L : Int) 999 = M0 at *
  have hm' := hm
  clear hm
  obtain ⟨M, rfl⟩ : ∃ M : Nat, M0 = M := ⟨M0.toNat, by omega⟩
  have HMM := Lib.hid hm'
  clear hm'
  go_wp2_with (refine wpList_min rfl rfl rfl rfl ?_; rw [HMM.out])
  clear c6
  go_loopw [3, 14] (fun nv i wr => ∃ (k : Nat) (n : Int), k ≤ M ∧ i = .int .i64 k ∧ nv = .int .i64 n ∧ 0 ≤ n ∧ n ≤ 1048576 ∧ Hid (∀ u ∈ x.ops.take k, (u.d.length : Int) ≤ n ∨ n = 1048576) ∧ Hid (Below w.heap.size w wr) ∧ Hid (Blk wr w.heap.size 27 (encSc x).toArray)) (fun _ i _ => M - (intOf i).toNat)
  case atStart => exact ⟨0, 0, Nat.zero_le _, rfl, rfl, by omega, by omega, Lib.hid (by simp), HW0, HX⟩
  case round =>
    rename World => wo
    clear HX HW0
    obtain ⟨k, n, hk, rfl, rfl, hn1, hn2, HI, HW, HX⟩ := hrel
    by_cases hlt : k < M
    · obtain ⟨z, hs⟩ : ∃ z, x.ops[k]? = some z := ⟨_, List.getElem?_eq_getElem (by rw [HLN.out]; omega)⟩
      obtain ⟨b, off, hoa, hbl, hc⟩ := (HS.out.below HW.out).row (by rintro e; rw [e] at hs; simp at hs)
      have HC := Lib.hid (ho_at hc hs)
      have hdl := HD.out z (List.mem_of_getElem? hs)
      rw [hoa]
      have hw1 : IntKind.i64.wrap (n + (z.d.length : Int)) = n + (z.d.length : Int) := IntWalk.i64_in _ (by omega)
      have hq := imin_le (n + (z.d.length : Int)) 1048576
      have HZ5 : Hid ((encH z)[5]? = some (.slice z.a z.d.length z.c)) := rfl
      have HIN : Hid (∀ n1 : Int, n ≤ n1 → ((z.d.length : Int) ≤ n1 ∨ n1 = 1048576) → (n = 1048576 → n1 = 1048576) → ∀ u ∈ x.ops.take (k + 1), (u.d.length : Int) ≤ n1 ∨ n1 = 1048576) := fun n1 h1 h2 h3 u hu => by
        rw [take_snoc hs] at hu
        rcases List.mem_append.1 hu with hu | hu
        · rcases HI.out u hu with h | h
          · exact .inl (by omega)
          · exact .inr (h3 h)
        · rw [List.mem_singleton.1 hu]; exact h2
      clear hc hs hoa hbl
      generalize z.d.length = dl at *
      obtain ⟨n1, hn⟩ : ∃ n1, imin (n + (dl : Int)) 1048576 = n1 := ⟨_, rfl⟩
      rw [hn] at hq
      have HN1 := Lib.hid hn
      clear hn
      go_wp2_with (first
        | (refine wpList_loadW W43 rfl rfl rfl (encH z) rfl HC.out ?_)
        | (refine wpList_boxW W43 rfl rfl rfl (encH z) rfl rfl (encH_one z) rfl ?_; go_must (intro W1 HZ hal hz1; have k0 : W1.cell? ⟨wo.heap.size, 5, none⟩ = some (.slice z.a dl z.c) := HZ.list0 HZ5.out; have zz : wo.heap.size < W1.heap.size := (by omega); have HB1 := Lib.hid hal; clear HZ hal))
        | (refine wpList_min rfl rfl rfl rfl ?_; go_must (rw [HN1.out])))
      go_roundw
      case rel => exact ⟨k + 1, n1, by omega, by go_num, rfl, by omega, by omega, Lib.hid (HIN.out n1 (by omega) (by omega) (by omega)), HW.out.trans (HB1.out.mono HW.out.size), HX.out.keep HB1.out⟩
      case measure => simp [intOf]; omega
    · obtain rfl : M = k := by omega
      have c1 : wo.cell? ⟨w.heap.size, 1, none⟩ = some (.slice x.ups.a x.ups.l.length x.ups.c) := HX.out.list0 rfl
      have c2 : wo.cell? ⟨w.heap.size, 2, none⟩ = some (.slice x.offs.a x.offs.l.length x.offs.c) := HX.out.list0 rfl
      have c3 : wo.cell? ⟨w.heap.size, 3, none⟩ = some (.slice x.gates.a x.gates.l.length x.gates.c) := HX.out.list0 rfl
      have c4 : wo.cell? ⟨w.heap.size, 4, none⟩ = some (.slice x.guards.a x.guards.l.length x.guards.c) := HX.out.list0 rfl
      have c5 : wo.cell? ⟨w.heap.size, 5, none⟩ = some (.slice x.drifts.a x.drifts.l.length x.drifts.c) := HX.out.list0 rfl
      have c6 : wo.cell? ⟨w.heap.size, 6, none⟩ = some (.slice x.oa L x.oc) := HX.out.list0 (by rw [← HLN.out]; rfl)
      have c7 : wo.cell? ⟨w.heap.size, 7, none⟩ = some (.slice x.fa x.faults.length x.fc) := HX.out.list0 rfl
      generalize x.ups.l.length = L1 at *
      generalize x.offs.l.length = L2 at *
      generalize x.gates.l.length = L3 at *
      generalize x.guards.l.length = L4 at *
      generalize x.drifts.l.length = L5 at *
      generalize x.faults.length = L7 at *
      have HLN2 := HLN
      clear HX HLN HS HD hlt
      by_cases qL1 : (L1 : Int) ≤ 99
      rotate_left
      · have dL1 : decide ((L1 : Int) ≤ 99) = false := by simpa using qL1
        go_wp2
        exact HPF.out _ HW.out
      by_cases qL2 : (L2 : Int) ≤ 99
      rotate_left
      · have dL2 : decide ((L2 : Int) ≤ 99) = false := by simpa using qL2
        go_wp2
        exact HPF.out _ HW.out
      by_cases qL3 : (L3 : Int) ≤ 99
      rotate_left
      · have dL3 : decide ((L3 : Int) ≤ 99) = false := by simpa using qL3
        go_wp2
        exact HPF.out _ HW.out
      by_cases qL4 : (L4 : Int) ≤ 99
      rotate_left
      · have dL4 : decide ((L4 : Int) ≤ 99) = false := by simpa using qL4
        go_wp2
        exact HPF.out _ HW.out
      by_cases qL5 : (L5 : Int) ≤ 1100
      rotate_left
      · have dL5 : decide ((L5 : Int) ≤ 1100) = false := by simpa using qL5
        go_wp2
        exact HPF.out _ HW.out
      by_cases qL : (L : Int) ≤ 300
      rotate_left
      · have dL : decide ((L : Int) ≤ 300) = false := by simpa using qL
        go_wp2
        exact HPF.out _ HW.out
      by_cases qL7 : (L7 : Int) ≤ 300
      rotate_left
      · have dL7 : decide ((L7 : Int) ≤ 300) = false := by simpa using qL7
        go_wp2
        exact HPF.out _ HW.out
      by_cases qn : n ≤ 9000
      · have HSM2 : Hid (Small x) := HSM.out (by omega) (fun o ho => by
          have h1 := HI.out o (by rw [List.take_of_length_le (by rw [HLN2.out]; omega)]; exact ho)
          omega)
        go_wp2
        exact HPT.out HSM2.out _ _ HW.out
      · have dn : decide (n ≤ 9000) = false := by simpa using qn
        go_wp2
        exact HPF.out _ HW.out
end Go.Proofs.YtkinhhkodaacjaaGreatDoor
