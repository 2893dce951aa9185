/- What the arguments of the laws of chapter 16 read as. -/
import Derived.Test.YtkinhhkodaacjaaT10
import Derived.Test.YtkinhhkodaacjaaOpen
import Derived.Test.YtkinhhkodaacjaaFrame
import Derived.Test.YtkinhhkodaacjaaRows
namespace Go.Proofs.Ytkinhhkodaacjaa
open Go.ChangeShapes Go.WideShapes Go.ChangeAt Go.RowKit Go.Shelf
open Md

theorem own : ownKnob Try.prog.godebug = none := by kernel_rfl
theorem laidOut : laidOutB Try.prog = true := by kernel_rfl
theorem reads_bl : Reads Try.prog 22 (fun b : Bl => [.slice b.a b.l.length b.c]) (fun W b => Bls W b) :=
  Reads.map (reads_slice (size := 1) Try.underlying22 (by kernel_rfl) (by decide) (by rw [show Try.prog.bytesOf 4 = 1 by kernel_rfl]; decide) (reads_bool Try.underlying4)) fun W x hx => by
    obtain ⟨h1, h2, h3⟩ := hx
    obtain ⟨v, l⟩ := x
    simp only at h1 h2 h3
    obtain ⟨a, cap, rfl, h⟩ := h1.shape
    exact ⟨⟨a, cap, l⟩, rfl, h1⟩
theorem reads_il : Reads Try.prog 26 (fun b : Il => [.slice b.a b.l.length b.c]) (fun W b => Ils W b) :=
  Reads.map (reads_slice (size := 1) Try.underlying26 (by kernel_rfl) (by decide) (by rw [show Try.prog.bytesOf 3 = 8 by kernel_rfl]; decide) (reads_int Try.underlying3)) fun W x hx => by
    obtain ⟨h1, h2, h3⟩ := hx
    obtain ⟨v, l⟩ := x
    simp only at h1 h2 h3
    obtain ⟨a, cap, rfl, h⟩ := h1.shape
    exact ⟨⟨a, cap, l⟩, rfl, h1, fun x hx => i64_bd (h2 x hx)⟩
theorem reads_by : Reads Try.prog 41 (fun b : Il => [.slice b.a b.l.length b.c]) (fun W b => Byts W (.slice b.a b.l.length b.c) b.l) :=
  Reads.map (reads_slice (size := 1) Try.underlying41 (by kernel_rfl) (by decide) (by rw [show Try.prog.bytesOf 5 = 1 by kernel_rfl]; decide) (reads_int Try.underlying5)) fun W x hx => by
    obtain ⟨h1, h2, h3⟩ := hx
    obtain ⟨v, l⟩ := x
    simp only at h1 h2 h3
    obtain ⟨a, cap, rfl, h⟩ := h1.shape
    exact ⟨⟨a, cap, l⟩, rfl, h1, fun x hx => u8_bd (h2 x hx)⟩
theorem reads_ho : Reads Try.prog 43 encH GoodH :=
  Reads.map (reads_struct Try.underlying43 (by kernel_rfl) (readsFs_cons (c := 1) (enc := encI .i64) rfl (by kernel_rfl) (reads_int Try.underlying3) (readsFs_cons (c := 1) (enc := encI .i64) rfl (by kernel_rfl) (reads_int Try.underlying3) (readsFs_cons (c := 1) (enc := encI .i64) rfl (by kernel_rfl) (reads_int Try.underlying3)
    (readsFs_cons (c := 1) (enc := encI .i64) rfl (by kernel_rfl) (reads_int Try.underlying3) (readsFs_cons (c := 1) (enc := encI .i64) rfl (by kernel_rfl) (reads_int Try.underlying3) (readsFs_cons (c := 1) rfl (by kernel_rfl) reads_by readsFs_nil))))))) fun W x hx =>
    ⟨⟨x.1, x.2.1, x.2.2.1, x.2.2.2.1, x.2.2.2.2.1, x.2.2.2.2.2.1.a, x.2.2.2.2.2.1.c, x.2.2.2.2.2.1.l⟩, rfl, ⟨hx.2.2.2.2.2.1, i64_bd hx.1, i64_bd hx.2.1, i64_bd hx.2.2.1, i64_bd hx.2.2.2.1, i64_bd hx.2.2.2.2.1⟩⟩
/-- Rows as they lie. -/
structure Hl where
  a : Option Addr
  c : Nat
  l : List Ho
structure Fl where
  a : Option Addr
  c : Nat
  l : List Fa
theorem reads_hl : Reads Try.prog 27 (fun b : Hl => [.slice b.a b.l.length b.c]) (fun W b => Hos W (.slice b.a b.l.length b.c) b.l ∧ ∀ y ∈ b.l, GoodH W y) :=
  Reads.map (reads_slice (size := 6) Try.underlying27 (by kernel_rfl) (by decide) (by rw [show Try.prog.bytesOf 43 = 64 by kernel_rfl]; decide) reads_ho) fun W x hx => by
    obtain ⟨h1, h2, h3⟩ := hx
    obtain ⟨v, l⟩ := x
    simp only at h1 h2 h3
    obtain ⟨a, cap, rfl, h⟩ := h1.shape
    exact ⟨⟨a, cap, l⟩, rfl, h1, h2⟩
theorem reads_fa : Reads Try.prog 39 encF (fun _ _ => True) :=
  Reads.map (reads_struct Try.underlying39 (by kernel_rfl) (readsFs_cons (c := 1) (enc := encI .i64) rfl (by kernel_rfl) (reads_int Try.underlying3) (readsFs_cons (c := 1) (enc := encI .i64) rfl (by kernel_rfl) (reads_int Try.underlying3) (readsFs_cons (c := 1) (enc := encI .i64) rfl (by kernel_rfl) (reads_int Try.underlying3) (readsFs_cons (c := 1) (enc := encI .i64) rfl (by kernel_rfl) (reads_int Try.underlying3)
    (readsFs_cons (c := 1) (enc := encI .i64) rfl (by kernel_rfl) (reads_int Try.underlying3) (readsFs_cons (c := 1) (enc := encI .i64) rfl (by kernel_rfl) (reads_int Try.underlying3) (readsFs_cons (c := 1) (enc := encI .i64) rfl (by kernel_rfl) (reads_int Try.underlying3) readsFs_nil)))))))) fun W x hx =>
    ⟨⟨x.1, x.2.1, x.2.2.1, x.2.2.2.1, x.2.2.2.2.1, x.2.2.2.2.2.1, x.2.2.2.2.2.2.1⟩, rfl, trivial⟩
theorem reads_fl : Reads Try.prog 28 (fun b : Fl => [.slice b.a b.l.length b.c]) (fun W b => Rd encF 7 W (.slice b.a b.l.length b.c) b.l) :=
  Reads.map (reads_slice (size := 7) Try.underlying28 (by kernel_rfl) (by decide) (by rw [show Try.prog.bytesOf 39 = 56 by kernel_rfl]; decide) reads_fa) fun W x hx => by
    obtain ⟨h1, h2, h3⟩ := hx
    obtain ⟨v, l⟩ := x
    simp only at h1 h2 h3
    obtain ⟨a, cap, rfl, h⟩ := h1.shape
    exact ⟨⟨a, cap, l⟩, rfl, h1⟩
theorem reads_sc : Reads Try.prog 30 encSc GoodSc :=
  Reads.map (reads_struct Try.underlying30 (by kernel_rfl) (readsFs_cons (c := 1) (enc := encI .i64) rfl (by kernel_rfl) (reads_int Try.underlying3) (readsFs_cons (c := 1) rfl (by kernel_rfl) reads_bl (readsFs_cons (c := 1) rfl (by kernel_rfl) reads_il (readsFs_cons (c := 1) rfl (by kernel_rfl) reads_il (readsFs_cons (c := 1) rfl (by kernel_rfl) reads_il
    (readsFs_cons (c := 1) rfl (by kernel_rfl) reads_il (readsFs_cons (c := 1) rfl (by kernel_rfl) reads_hl (readsFs_cons (c := 1) rfl (by kernel_rfl) reads_fl readsFs_nil))))))))) fun W x hx =>
    ⟨⟨x.1, x.2.1, x.2.2.1, x.2.2.2.1, x.2.2.2.2.1, x.2.2.2.2.2.1, x.2.2.2.2.2.2.1.a, x.2.2.2.2.2.2.1.c, x.2.2.2.2.2.2.1.l, x.2.2.2.2.2.2.2.1.a, x.2.2.2.2.2.2.2.1.c, x.2.2.2.2.2.2.2.1.l⟩, rfl,
      ⟨i64_bd hx.1, hx.2.1, hx.2.2.1, hx.2.2.2.1, hx.2.2.2.2.1, hx.2.2.2.2.2.1, hx.2.2.2.2.2.2.1.1, hx.2.2.2.2.2.2.1.2, hx.2.2.2.2.2.2.2.1⟩⟩
set_option maxRecDepth 100000 in
theorem sc_of_trod {H : Type} {enc : TypeId × Value → H} {W : World} {base : Nat} {v : Value} {d : DataW H} {p : List MemPlace} {ts : List TypeId} {ds : List (DataW H)} {j : Nat}
    (hok : Value.okWide Try.prog W .any base 30 v) (h : DataW.Trod enc Try.prog W 0 (fun _ => true) true 30 v d p) (hlt : ∀ x ∈ p, x.block < W.heap.size)
    (hsz : (DataW.weightsEach Try.prog ts ds).all (· ≤ reachBytes) = true) (ht : ts[j]? = some 30) (hd : ds[j]? = some d) : ∃ x, v = .agg (encSc x).toArray ∧ GoodSc W x :=
  arg_struct Try.underlying30 reads_sc hok h hlt hsz ht hd
end Go.Proofs.Ytkinhhkodaacjaa
