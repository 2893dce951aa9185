/- What a list that is handed in reads as. -/
import Derived.Test.YtkinhhkodaacjaaAr
namespace Go.Proofs.Ytkinhhkodaacjaa
open Go.ChangeShapes Go.WideShapes Go.ChangeAt Go.RowKit Go.Shelf
open Md

theorem reads_mo : Reads Try.prog 73 encMo (fun W x => GoodMo W x) :=
  Reads.map (reads_struct Try.underlying73 (by kernel_rfl) (readsFs_cons (c := 1) rfl (by kernel_rfl) reads_il (readsFs_cons (c := 1) rfl (by kernel_rfl) reads_bl (readsFs_cons (c := 1) rfl (by kernel_rfl) reads_bl readsFs_nil)))) fun W x hx =>
    ⟨⟨x.1, x.2.1, x.2.2.1⟩, rfl, hx.1, hx.2.1, hx.2.2.1⟩
/-- Modes as they lie. -/
structure Ml where
  a : Option Addr
  c : Nat
  l : List Mo
theorem reads_ml : Reads Try.prog 23 (fun b : Ml => [.slice b.a b.l.length b.c]) (fun W b => Rd encMo 3 W (.slice b.a b.l.length b.c) b.l ∧ ∀ x ∈ b.l, GoodMo W x) :=
  Reads.map (reads_slice (size := 3) Try.underlying23 (by kernel_rfl) (by decide) (by rw [show Try.prog.bytesOf 73 = 72 by kernel_rfl]; decide) reads_mo) fun W x hx => by
    obtain ⟨h1, h2, h3⟩ := hx
    obtain ⟨v, l⟩ := x
    simp only at h1 h2 h3
    obtain ⟨a, cap, rfl, h⟩ := h1.shape
    exact ⟨⟨a, cap, l⟩, rfl, h1, h2⟩
theorem reads_me : Reads Try.prog 25 encMe (fun W x => GoodMe W x) :=
  Reads.map (reads_struct Try.underlying25 (by kernel_rfl) (readsFs_cons (c := 1) rfl (by kernel_rfl) (reads_int Try.underlying3) (readsFs_cons (c := 1) rfl (by kernel_rfl) (reads_int Try.underlying3) (readsFs_cons (c := 1) rfl (by kernel_rfl) (reads_int Try.underlying3) (readsFs_cons (c := 1) rfl (by kernel_rfl) (reads_int Try.underlying3)
    (readsFs_cons (c := 1) rfl (by kernel_rfl) (reads_int Try.underlying3) (readsFs_cons (c := 1) rfl (by kernel_rfl) (reads_int Try.underlying3) (readsFs_cons (c := 1) rfl (by kernel_rfl) reads_bl (readsFs_cons (c := 1) rfl (by kernel_rfl) reads_ml readsFs_nil))))))))) fun W x hx =>
    ⟨⟨x.1, x.2.1, x.2.2.1, x.2.2.2.1, x.2.2.2.2.1, x.2.2.2.2.2.1, x.2.2.2.2.2.2.1, x.2.2.2.2.2.2.2.1.a, x.2.2.2.2.2.2.2.1.c, x.2.2.2.2.2.2.2.1.l⟩, rfl,
      ⟨hx.2.2.2.2.2.2.1, hx.2.2.2.2.2.2.2.1.1, hx.2.2.2.2.2.2.2.1.2⟩, i64_bd hx.1, i64_bd hx.2.1, i64_bd hx.2.2.1, i64_bd hx.2.2.2.1, i64_bd hx.2.2.2.2.1, i64_bd hx.2.2.2.2.2.1⟩
set_option maxRecDepth 100000 in
theorem medl_of_trod {H : Type} {enc : TypeId × Value → H} {W : World} {base : Nat} {v : Value} {d : DataW H} {p : List MemPlace} {ts : List TypeId} {ds : List (DataW H)} {j : Nat}
    (hok : Value.okWide Try.prog W .any base 25 v) (h : DataW.Trod enc Try.prog W 0 (fun _ => true) true 25 v d p) (hlt : ∀ x ∈ p, x.block < W.heap.size)
    (hsz : (DataW.weightsEach Try.prog ts ds).all (· ≤ reachBytes) = true) (ht : ts[j]? = some 25) (hd : ds[j]? = some d) : ∃ m, v = mev m ∧ GoodMe W m :=
  arg_struct Try.underlying25 reads_me hok h hlt hsz ht hd
end Go.Proofs.Ytkinhhkodaacjaa
