/- Scripts as they lie, and what they say. -/
import Derived.Test.YtkinhhkodaacjaaGreatDoorQ1
import Derived.Test.YtkinhhkodaacjaaGreatDoorPs
import Derived.Test.YtkinhhkodaacjaaGreatDoorR6
import Derived.Test.YtkinhhkodaacjaaGreatDoorF2
namespace Go.Proofs.YtkinhhkodaacjaaGreatDoor
open Go.RowKit Go.Shelf
open Md

structure Ho where
  (n r s k v : Int)
  a : Option Addr
  c : Nat
  d : List Int
def encH (x : Ho) : List Value := [.int .i64 x.n, .int .i64 x.r, .int .i64 x.s, .int .i64 x.k, .int .i64 x.v, .slice x.a x.d.length x.c]
theorem encH_len (x : Ho) : (encH x).length = 6 := rfl
theorem encH_one (x : Ho) : ∀ u ∈ encH x, u.oneCell' = true := by
  intro v hv
  simp [encH] at hv
  rcases hv with rfl | rfl | rfl | rfl | rfl | rfl <;> rfl
structure GoodH (w : World) (x : Ho) : Prop where
  d : Byts w (.slice x.a x.d.length x.c) x.d
  n : I64 x.n
  r : I64 x.r
  s : I64 x.s
  k : I64 x.k
  v : I64 x.v
theorem GoodH.below {w w' : World} {x : Ho} (h : GoodH w x) (hb : Below w.heap.size w w') : GoodH w' x := ⟨h.d.below hb, h.n, h.r, h.s, h.k, h.v⟩
noncomputable def zH : Value := ((Tryz.prog.info? 46).bind (fun i => i.zero)).getD (.bool false)
theorem E27 : Elem Tryz.prog 24 46 zH 6 64 := ⟨Tryz.underlying24, by kernel_rfl, by kernel_rfl, by decide, by decide⟩
abbrev Hos (w : World) (v : Value) (l : List Ho) : Prop := Rd encH 6 w v l
/-- A script. -/
structure Sc where
  rounds : Int
  ups : Bl
  (offs gates guards drifts : Il)
  oa : Option Addr
  oc : Nat
  ops : List Ho
  fa : Option Addr
  fc : Nat
  faults : List Fa
def encSc (x : Sc) : List Value := [.int .i64 x.rounds, .slice x.ups.a x.ups.l.length x.ups.c, .slice x.offs.a x.offs.l.length x.offs.c, .slice x.gates.a x.gates.l.length x.gates.c, .slice x.guards.a x.guards.l.length x.guards.c, .slice x.drifts.a x.drifts.l.length x.drifts.c, .slice x.oa x.ops.length x.oc, .slice x.fa x.faults.length x.fc]
theorem encSc_len (x : Sc) : (encSc x).length = 8 := rfl
theorem encSc_one (x : Sc) : ∀ u ∈ encSc x, u.oneCell' = true := by
  intro v hv
  simp [encSc] at hv
  rcases hv with rfl | rfl | rfl | rfl | rfl | rfl | rfl | rfl <;> rfl
structure GoodSc (w : World) (x : Sc) : Prop where
  rounds : I64 x.rounds
  ups : Bls w x.ups
  offs : Ils w x.offs
  gates : Ils w x.gates
  guards : Ils w x.guards
  drifts : Ils w x.drifts
  ops : Hos w (.slice x.oa x.ops.length x.oc) x.ops
  opg : ∀ y ∈ x.ops, GoodH w y
  faults : Rd encF 7 w (.slice x.fa x.faults.length x.fc) x.faults
theorem GoodSc.below {w w' : World} {x : Sc} (h : GoodSc w x) (hb : Below w.heap.size w w') : GoodSc w' x :=
  ⟨h.rounds, h.ups.below hb, ⟨h.offs.1.below hb, h.offs.2⟩, ⟨h.gates.1.below hb, h.gates.2⟩, ⟨h.guards.1.below hb, h.guards.2⟩, ⟨h.drifts.1.below hb, h.drifts.2⟩, h.ops.below hb, fun y hy => (h.opg y hy).below hb, h.faults.below hb⟩
theorem W27 : Wide Tryz.prog 27 8 := ⟨⟨_, Tryz.underlying27, rfl⟩, by kernel_rfl⟩
def bytesOf (l : List Int) : List UInt8 := l.map fun n => UInt8.ofNat n.toNat
theorem bys_of {W : World} {v : Value} {l : List Int} (h : Byts W v l) : Bys W v (bytesOf l) := by
  obtain ⟨⟨a, cap, rfl, h1, h2, h3, h5, h4⟩, hb⟩ := h
  refine ⟨a, cap, by simp [bytesOf], by simpa [bytesOf] using h1, h2, by simpa [bytesOf] using h3, h5, ?_⟩
  rcases h4 with rfl | ⟨b, off, rfl, hlt, hc⟩
  · exact .inl rfl
  · refine .inr ⟨b, off, rfl, hlt, fun j x hj i u hu => ?_⟩
    unfold bytesOf at hj
    rw [List.getElem?_map] at hj
    obtain ⟨n, hn, rfl⟩ := Option.map_eq_some_iff.1 hj
    refine hc j n hn i u ?_
    have := hb n (List.mem_of_getElem? hn)
    have e : ((UInt8.ofNat n.toNat).toNat : Int) = n := by rw [UInt8.toNat_ofNat']; omega
    unfold encU u8c at hu
    rw [e] at hu
    exact hu
theorem bytesOf_len (l : List Int) : (bytesOf l).length = l.length := by simp [bytesOf]
/-- What an op, a fault, a script says. -/
def Ho.ok (x : Ho) : Ok := ⟨x.n, x.r, x.s, x.k, x.v, bytesOf x.d⟩
def Fa.fk (x : Fa) : Fk := ⟨x.k, x.n, x.c, x.r, x.s, x.a, x.b⟩
def Sc.k (x : Sc) : Scr := ⟨x.rounds, x.ups.l, x.offs.l, x.gates.l, x.guards.l, x.drifts.l, x.ops.map Ho.ok, x.faults.map Fa.fk⟩
theorem join_nums : ∀ (w : List UInt8) (l : List Int), joinB 32 (w :: l.map decZ) = lineT w l
  | w, [] => by simp [joinB, lineT, numT]
  | w, n :: l => by
    rw [List.map_cons, joinB_cons 32 w (List.cons_ne_nil _ _), join_nums (decZ n) l]
    simp [lineT, numT]
theorem lineT_eq (w : List UInt8) (l : List Int) : lineT w l ++ [10] = lineW (w :: l.map decZ) := by
  unfold lineW
  rw [join_nums]
theorem b2i_bit : b2i = bitZ := rfl
theorem opT_eq (o : Ok) : opT o = (lineT wOp o.ints ++ [32, 120]) ++ hexL o.d ++ [10] := by
  unfold opT lineW
  have h : wOp :: (o.ints.map decZ ++ [hexW o.d]) = wOp :: ((o.ints.map decZ) ++ [hexW o.d]) := rfl
  rw [h, joinB_snoc, join_nums]
  simp [hexW]
theorem ftT_eq (f : Fk) : ftT f = lineT wFault f.ints ++ [10] := (lineT_eq wFault f.ints).symm
theorem heads_rows (x : Scr) : rowsT headsL [[x.rounds], x.ups.map b2i, x.offs, x.gates, x.guards, x.drifts] = preT x 6 := by
  simp only [rowsT, headsL, List.zip_cons_cons, List.zip_nil_right, List.flatMap_cons, List.flatMap_nil, List.append_nil, lineT_eq, b2i_bit, preT, headT, headN, hdW]
  simp
end Go.Proofs.YtkinhhkodaacjaaGreatDoor
