/- What an argument of a law of chapter 25 reads as. -/
import Derived.Test.YtjaaldeaknmmbaaDoorOpen
import Derived.Test.YtjaaldeaknmmbaaDoorS7
import Derived.Test.YtjaaldeaknmmbaaDoorFrame
namespace Go.Proofs.YtjaaldeaknmmbaaDoor
open Go.ChangeShapes Go.WideShapes Go.ChangeAt Go.RowKit

theorem own : ownKnob Tryd.prog.godebug = none := by kernel_rfl
theorem laidOut : laidOutB Tryd.prog = true := by kernel_rfl

/-- A row as it lies. -/
structure Bv (α : Type) where
  a : Option Addr
  c : Nat
  l : List α
def Bv.v {α : Type} (b : Bv α) : Value := .slice b.a b.l.length b.c
abbrev Byt (W : World) (v : Value) (l : List Int) : Prop := Rd (encI .u8) 1 W v l ∧ ∀ x ∈ l, 0 ≤ x ∧ x ≤ 255
theorem reads_by : Reads Tryd.prog 36 (fun b : Bv Int => [b.v]) (fun W b => Byt W b.v b.l) :=
  Reads.map (reads_slice (size := 1) Tryd.underlying36 (by kernel_rfl) (by decide) (by rw [show Tryd.prog.bytesOf 5 = 1 by kernel_rfl]; decide) (reads_int Tryd.underlying5)) fun W x hx => by
    obtain ⟨h1, h2, h3⟩ := hx
    obtain ⟨v, l⟩ := x
    simp only at h1 h2 h3
    obtain ⟨a, cap, rfl, h⟩ := h1.shape
    exact ⟨⟨a, cap, l⟩, rfl, h1, fun x hx => u8_bd (h2 x hx)⟩
structure Mx where
  d : Bv Int
  age : Int
def Mx.ms (m : Mx) : Ms := ⟨m.d.a, m.d.l.length, m.d.c, m.age⟩
def encMx (m : Mx) : List Value := encM m.ms
def GoodMx (W : World) (m : Mx) : Prop := Byt W m.d.v m.d.l ∧ I64 m.age
theorem reads_mx : Reads Tryd.prog 49 encMx GoodMx :=
  Reads.map (reads_struct Tryd.underlying49 (by kernel_rfl) (readsFs_cons (c := 1) (enc := fun b : Bv Int => [b.v]) rfl (by kernel_rfl) reads_by (readsFs_cons (c := 1) (enc := encI .i64) rfl (by kernel_rfl) (reads_int Tryd.underlying3) readsFs_nil))) fun W x hx =>
    ⟨⟨x.1, x.2.1⟩, rfl, hx.1, i64_bd hx.2.1⟩
theorem reads_in : Reads Tryd.prog 37 (fun b : Bv Mx => [b.v]) (fun W b => Rd encMx 2 W b.v b.l ∧ ∀ m ∈ b.l, GoodMx W m) :=
  Reads.map (reads_slice (size := 2) Tryd.underlying37 (by kernel_rfl) (by decide) (by rw [show Tryd.prog.bytesOf 49 = 32 by kernel_rfl]; decide) reads_mx) fun W x hx => by
    obtain ⟨h1, h2, h3⟩ := hx
    obtain ⟨v, l⟩ := x
    simp only at h1 h2 h3
    obtain ⟨a, cap, rfl, h⟩ := h1.shape
    exact ⟨⟨a, cap, l⟩, rfl, h1, h2⟩
theorem reads_c : Reads Tryd.prog 33 (fun x : Int × Int × Int × Int × Int => [.int .i64 x.1, .int .i64 x.2.1, .int .i64 x.2.2.1, .int .i64 x.2.2.2.1, .int .i64 x.2.2.2.2]) (fun _ x => I64 x.1 ∧ I64 x.2.1 ∧ I64 x.2.2.1 ∧ I64 x.2.2.2.1 ∧ I64 x.2.2.2.2) :=
  Reads.map (reads_struct Tryd.underlying33 (by kernel_rfl) (readsFs_cons (c := 1) (enc := encI .i64) rfl (by kernel_rfl) (reads_int Tryd.underlying3) (readsFs_cons (c := 1) (enc := encI .i64) rfl (by kernel_rfl) (reads_int Tryd.underlying3) (readsFs_cons (c := 1) (enc := encI .i64) rfl (by kernel_rfl) (reads_int Tryd.underlying3)
    (readsFs_cons (c := 1) (enc := encI .i64) rfl (by kernel_rfl) (reads_int Tryd.underlying3) (readsFs_cons (c := 1) (enc := encI .i64) rfl (by kernel_rfl) (reads_int Tryd.underlying3) readsFs_nil)))))) fun W x hx =>
    ⟨(x.1, x.2.1, x.2.2.1, x.2.2.2.1, x.2.2.2.2.1), rfl, i64_bd hx.1, i64_bd hx.2.1, i64_bd hx.2.2.1, i64_bd hx.2.2.2.1, i64_bd hx.2.2.2.2.1⟩
theorem reads_v : Reads Tryd.prog 35 (fun x : Int × Int × Int × Int × Int × Int × Int => [.int .i64 x.1, .int .i64 x.2.1, .int .i64 x.2.2.1, .int .i64 x.2.2.2.1, .int .i64 x.2.2.2.2.1, .int .i64 x.2.2.2.2.2.1, .int .i64 x.2.2.2.2.2.2])
    (fun _ x => I64 x.1 ∧ I64 x.2.1 ∧ I64 x.2.2.1 ∧ I64 x.2.2.2.1 ∧ I64 x.2.2.2.2.1 ∧ I64 x.2.2.2.2.2.1 ∧ I64 x.2.2.2.2.2.2) :=
  Reads.map (reads_struct Tryd.underlying35 (by kernel_rfl) (readsFs_cons (c := 1) (enc := encI .i64) rfl (by kernel_rfl) (reads_int Tryd.underlying3) (readsFs_cons (c := 1) (enc := encI .i64) rfl (by kernel_rfl) (reads_int Tryd.underlying3) (readsFs_cons (c := 1) (enc := encI .i64) rfl (by kernel_rfl) (reads_int Tryd.underlying3)
    (readsFs_cons (c := 1) (enc := encI .i64) rfl (by kernel_rfl) (reads_int Tryd.underlying3) (readsFs_cons (c := 1) (enc := encI .i64) rfl (by kernel_rfl) (reads_int Tryd.underlying3) (readsFs_cons (c := 1) (enc := encI .i64) rfl (by kernel_rfl) (reads_int Tryd.underlying3) (readsFs_cons (c := 1) (enc := encI .i64) rfl (by kernel_rfl) (reads_int Tryd.underlying3) readsFs_nil)))))))) fun W x hx =>
    ⟨(x.1, x.2.1, x.2.2.1, x.2.2.2.1, x.2.2.2.2.1, x.2.2.2.2.2.1, x.2.2.2.2.2.2.1), rfl, i64_bd hx.1, i64_bd hx.2.1, i64_bd hx.2.2.1, i64_bd hx.2.2.2.1, i64_bd hx.2.2.2.2.1, i64_bd hx.2.2.2.2.2.1, i64_bd hx.2.2.2.2.2.2.1⟩
/-- A host's interface: Id, Out, In, Life, Want. -/
theorem reads_h : Reads Tryd.prog 39 (fun x : Int × Bv Int × Bv Mx × Int × Int => [.int .i64 x.1, x.2.1.v, x.2.2.1.v, .int .i64 x.2.2.2.1, .int .i64 x.2.2.2.2])
    (fun W x => I64 x.1 ∧ Byt W x.2.1.v x.2.1.l ∧ (Rd encMx 2 W x.2.2.1.v x.2.2.1.l ∧ ∀ m ∈ x.2.2.1.l, GoodMx W m) ∧ I64 x.2.2.2.1 ∧ I64 x.2.2.2.2) :=
  Reads.map (reads_struct Tryd.underlying39 (by kernel_rfl) (readsFs_cons (c := 1) (enc := encI .i64) rfl (by kernel_rfl) (reads_int Tryd.underlying3) (readsFs_cons (c := 1) (enc := fun b : Bv Int => [b.v]) rfl (by kernel_rfl) reads_by (readsFs_cons (c := 1) (enc := fun b : Bv Mx => [b.v]) rfl (by kernel_rfl) reads_in
    (readsFs_cons (c := 1) (enc := encI .i64) rfl (by kernel_rfl) (reads_int Tryd.underlying3) (readsFs_cons (c := 1) (enc := encI .i64) rfl (by kernel_rfl) (reads_int Tryd.underlying3) readsFs_nil)))))) fun W x hx =>
    ⟨(x.1, x.2.1, x.2.2.1, x.2.2.2.1, x.2.2.2.2.1), rfl, i64_bd hx.1, hx.2.1, hx.2.2.1, i64_bd hx.2.2.2.1, i64_bd hx.2.2.2.2.1⟩
abbrev C5 := Int × Int × Int × Int × Int
abbrev C7 := Int × Int × Int × Int × Int × Int × Int
abbrev H5 := Int × Bv Int × Bv Mx × Int × Int
theorem reads_n : Reads Tryd.prog 41 (fun x : Int × Int × C5 × C7 × Int × Bool × Int × H5 => [.int .i64 x.1, .int .i64 x.2.1] ++ ([.int .i64 x.2.2.1.1, .int .i64 x.2.2.1.2.1, .int .i64 x.2.2.1.2.2.1, .int .i64 x.2.2.1.2.2.2.1, .int .i64 x.2.2.1.2.2.2.2] ++
      ([.int .i64 x.2.2.2.1.1, .int .i64 x.2.2.2.1.2.1, .int .i64 x.2.2.2.1.2.2.1, .int .i64 x.2.2.2.1.2.2.2.1, .int .i64 x.2.2.2.1.2.2.2.2.1, .int .i64 x.2.2.2.1.2.2.2.2.2.1, .int .i64 x.2.2.2.1.2.2.2.2.2.2] ++
      ([.int .i64 x.2.2.2.2.1, .bool x.2.2.2.2.2.1, .int .i64 x.2.2.2.2.2.2.1] ++ [.int .i64 x.2.2.2.2.2.2.2.1, x.2.2.2.2.2.2.2.2.1.v, x.2.2.2.2.2.2.2.2.2.1.v, .int .i64 x.2.2.2.2.2.2.2.2.2.2.1, .int .i64 x.2.2.2.2.2.2.2.2.2.2.2]))))
    (fun W x => (I64 x.1 ∧ I64 x.2.1) ∧ (I64 x.2.2.1.1 ∧ I64 x.2.2.1.2.1 ∧ I64 x.2.2.1.2.2.1 ∧ I64 x.2.2.1.2.2.2.1 ∧ I64 x.2.2.1.2.2.2.2) ∧
      (I64 x.2.2.2.1.1 ∧ I64 x.2.2.2.1.2.1 ∧ I64 x.2.2.2.1.2.2.1 ∧ I64 x.2.2.2.1.2.2.2.1 ∧ I64 x.2.2.2.1.2.2.2.2.1 ∧ I64 x.2.2.2.1.2.2.2.2.2.1 ∧ I64 x.2.2.2.1.2.2.2.2.2.2) ∧ (I64 x.2.2.2.2.1 ∧ I64 x.2.2.2.2.2.2.1) ∧
      I64 x.2.2.2.2.2.2.2.1 ∧ Byt W x.2.2.2.2.2.2.2.2.1.v x.2.2.2.2.2.2.2.2.1.l ∧ (Rd encMx 2 W x.2.2.2.2.2.2.2.2.2.1.v x.2.2.2.2.2.2.2.2.2.1.l ∧ ∀ m ∈ x.2.2.2.2.2.2.2.2.2.1.l, GoodMx W m) ∧ I64 x.2.2.2.2.2.2.2.2.2.2.1 ∧ I64 x.2.2.2.2.2.2.2.2.2.2.2) :=
  Reads.map (reads_struct Tryd.underlying41 (by kernel_rfl) (readsFs_cons (c := 1) (enc := encI .i64) rfl (by kernel_rfl) (reads_int Tryd.underlying3) (readsFs_cons (c := 1) (enc := encI .i64) rfl (by kernel_rfl) (reads_int Tryd.underlying3) (readsFs_cons (c := 5) rfl (by kernel_rfl) reads_c (readsFs_cons (c := 7) rfl (by kernel_rfl) reads_v
    (readsFs_cons (c := 1) (enc := encI .i64) rfl (by kernel_rfl) (reads_int Tryd.underlying3) (readsFs_cons (c := 1) (enc := encB) rfl (by kernel_rfl) (reads_bool Tryd.underlying4) (readsFs_cons (c := 1) (enc := encI .i64) rfl (by kernel_rfl) (reads_int Tryd.underlying3) (readsFs_cons (c := 5) rfl (by kernel_rfl) reads_h readsFs_nil))))))))) fun W x hx =>
    ⟨(x.1, x.2.1, x.2.2.1, x.2.2.2.1, x.2.2.2.2.1, x.2.2.2.2.2.1, x.2.2.2.2.2.2.1, x.2.2.2.2.2.2.2.1), rfl, ⟨i64_bd hx.1, i64_bd hx.2.1⟩, hx.2.2.1, hx.2.2.2.1, ⟨i64_bd hx.2.2.2.2.1, i64_bd hx.2.2.2.2.2.2.1⟩, hx.2.2.2.2.2.2.2.1⟩

/-- A snap with all that may be read of it. -/
structure Sx where
  s : Sn
  out : List Int
  ms : List Mx
def Sn.ints (x : Sn) : List Int := [x.r, x.i, x.s, x.t1, x.t2, x.t3, x.t4, x.t5, x.m1, x.m2, x.m3, x.m4, x.m5, x.m6, x.m7, x.tm, x.su, x.hi, x.lf, x.wt]
structure GoodX (W : World) (x : Sx) : Prop where
  ints : ∀ v ∈ x.s.ints, I64 v
  out : Byt W (.slice x.s.oa x.s.on x.s.oc) x.out
  inn : Rd encMx 2 W (.slice x.s.ia x.s.nn x.s.ic) x.ms
  each : ∀ m ∈ x.ms, GoodMx W m
theorem reads_sx : Reads Tryd.prog 43 (fun x : Sx => encS x.s) GoodX :=
  Reads.map (reads_struct Tryd.underlying43 (by kernel_rfl) (readsFs_cons (c := 1) (enc := encI .i64) rfl (by kernel_rfl) (reads_int Tryd.underlying3) (readsFs_cons (c := 22) rfl (by kernel_rfl) reads_n readsFs_nil))) fun W x hx => by
    obtain ⟨r, ⟨i, s, ⟨t1, t2, t3, t4, t5⟩, ⟨m1, m2, m3, m4, m5, m6, m7⟩, tm, bg, su, hi, o, n, lf, wt⟩, u⟩ := x
    obtain ⟨h1, ⟨⟨h2, h3⟩, ⟨h4, h5, h6, h7, h8⟩, ⟨h9, h10, h11, h12, h13, h14, h15⟩, ⟨h16, h17⟩, h18, h19, h20, h21, h22⟩, -⟩ := hx
    refine ⟨⟨⟨r, i, s, t1, t2, t3, t4, t5, m1, m2, m3, m4, m5, m6, m7, tm, bg, su, hi, o.a, o.l.length, o.c, n.a, n.l.length, n.c, lf, wt⟩, o.l, n.l⟩, rfl, ?_, h19, h20.1, h20.2⟩
    intro v hv
    have h1' := i64_bd h1
    simp only [Sn.ints, List.mem_cons, List.not_mem_nil, or_false] at hv
    rcases hv with rfl | rfl | rfl | rfl | rfl | rfl | rfl | rfl | rfl | rfl | rfl | rfl | rfl | rfl | rfl | rfl | rfl | rfl | rfl | rfl <;> assumption
theorem reads_snaps : Reads Tryd.prog 22 (fun x : Value × List Sx => [x.1]) (fun W x => Rd (fun y : Sx => encS y.s) 23 W x.1 x.2 ∧ ∀ y ∈ x.2, GoodX W y) :=
  Reads.map (reads_slice (size := 23) Tryd.underlying22 (by kernel_rfl) (by decide) (by rw [show Tryd.prog.bytesOf 43 = 216 by kernel_rfl]; decide) reads_sx) fun W x hx => ⟨x, rfl, hx.1, hx.2.1⟩
theorem reads_ints : Reads Tryd.prog 67 (fun x : Value × List Int => [x.1]) (fun W x => Ns W x.1 x.2 ∧ ∀ y ∈ x.2, I64 y) :=
  Reads.map (reads_slice (size := 1) Tryd.underlying67 (by kernel_rfl) (by decide) (by rw [show Tryd.prog.bytesOf 3 = 8 by kernel_rfl]; decide) (reads_int Tryd.underlying3)) fun W x hx => ⟨x, rfl, hx.1, fun y hy => i64_bd (hx.2.1 y hy)⟩
theorem Rd.mapped {α β : Type} {enc : β → List Value} {f : α → β} {size : Nat} {W : World} {v : Value} {l : List α} (h : Rd (fun x => enc (f x)) size W v l) : Rd enc size W v (l.map f) := by
  obtain ⟨a, cap, rfl, h1, h2, h3, h5, h4⟩ := h
  refine ⟨a, cap, by rw [List.length_map], by simpa using h1, h2, by simpa using h3, h5, ?_⟩
  rcases h4 with rfl | ⟨b, off, rfl, hlt, hc⟩
  · exact .inl rfl
  · refine .inr ⟨b, off, rfl, hlt, fun j x hj i u hu => ?_⟩
    rw [List.getElem?_map] at hj
    cases hq : l[j]? with
    | none => rw [hq] at hj; simp at hj
    | some y =>
      rw [hq] at hj
      simp at hj
      subst hj
      exact hc j y hq i u hu
set_option maxRecDepth 100000 in
theorem snaps_of_trod {H : Type} {enc : TypeId × Value → H} {W : World} {base : Nat} {v : Value} {d : DataW H} {p : List MemPlace} {ts : List TypeId} {ds : List (DataW H)} {j : Nat}
    (hok : Value.okWide Tryd.prog W .any base 22 v) (h : DataW.Trod enc Tryd.prog W 0 (fun _ => true) true 22 v d p) (hlt : ∀ x ∈ p, x.block < W.heap.size)
    (hsz : (DataW.weightsEach Tryd.prog ts ds).all (· ≤ reachBytes) = true) (ht : ts[j]? = some 22) (hd : ds[j]? = some d) : ∃ l : List Sx, Rd (fun y : Sx => encS y.s) 23 W v l ∧ ∀ y ∈ l, GoodX W y := by
  obtain ⟨⟨v', l⟩, rfl, hg⟩ := arg_one (f := fun x : Value × List Sx => x.1) reads_snaps (cells_slice Tryd.underlying22 hok) h hlt hsz ht hd
  exact ⟨l, hg⟩
set_option maxRecDepth 100000 in
theorem ints_of_trod {H : Type} {enc : TypeId × Value → H} {W : World} {base : Nat} {v : Value} {d : DataW H} {p : List MemPlace} {ts : List TypeId} {ds : List (DataW H)} {j : Nat}
    (hok : Value.okWide Tryd.prog W .any base 67 v) (h : DataW.Trod enc Tryd.prog W 0 (fun _ => true) true 67 v d p) (hlt : ∀ x ∈ p, x.block < W.heap.size)
    (hsz : (DataW.weightsEach Tryd.prog ts ds).all (· ≤ reachBytes) = true) (ht : ts[j]? = some 67) (hd : ds[j]? = some d) : ∃ l : List Int, Ns W v l ∧ ∀ y ∈ l, I64 y := by
  obtain ⟨⟨v', l⟩, rfl, hg⟩ := arg_one (f := fun x : Value × List Int => x.1) reads_ints (cells_slice Tryd.underlying67 hok) h hlt hsz ht hd
  exact ⟨l, hg⟩
/-- .. as few is told of them. -/
def Sx.few (x : Sx) : Sn × List Ms := (x.s, x.ms.map Mx.ms)
theorem GoodX.few {W : World} {x : Sx} (h : GoodX W x) : GoodS W x.few.1 x.few.2 := by
  have h1 := h.out.1.len
  obtain ⟨a, c, e, _⟩ := h.out.1.shape
  simp only [Value.slice.injEq] at e
  refine ⟨by show x.s.on ≤ _; omega, Rd.mapped (enc := encM) (f := Mx.ms) h.inn, fun m hm => ?_⟩
  obtain ⟨y, hy, rfl⟩ := List.mem_map.1 hm
  have h2 := (h.each y hy).1.1.len
  exact h2
end Go.Proofs.YtjaaldeaknmmbaaDoor
