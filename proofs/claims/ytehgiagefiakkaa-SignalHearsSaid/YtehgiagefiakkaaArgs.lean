/- What an argument of a law of chapter 11 reads as. -/
import Derived.Test.YtehgiagefiakkaaOpen
import Derived.Test.YtehgiagefiakkaaB3
import Derived.Test.YtehgiagefiakkaaRows
import Derived.Test.YtehgiagefiakkaaFrame
namespace Go.Proofs.Ytehgiagefiakkaa
open Go.ChangeShapes Go.WideShapes Go.ChangeAt Go.RowKit
open Sched (Sp bad)
open Sig

theorem own : ownKnob Try.prog.godebug = none := by kernel_rfl
theorem laidOut : laidOutB Try.prog = true := by kernel_rfl

/-- Bytes as they lie. -/
structure Bv where
  a : Option Addr
  c : Nat
  l : List Int
theorem reads_bv : Reads Try.prog 24 (fun b : Bv => [.slice b.a b.l.length b.c]) (fun W b => Byts W (.slice b.a b.l.length b.c) b.l) :=
  Reads.map (reads_slice (size := 1) Try.underlying24 (by kernel_rfl) (by decide) (by rw [show Try.prog.bytesOf 5 = 1 by kernel_rfl]; decide) (reads_int Try.underlying5)) fun W x hx => by
    obtain ⟨h1, h2, h3⟩ := hx
    obtain ⟨v, l⟩ := x
    simp only at h1 h2 h3
    obtain ⟨a, cap, rfl, h⟩ := h1.shape
    exact ⟨⟨a, cap, l⟩, rfl, h1, fun x hx => u8_bd (h2 x hx)⟩
theorem reads_sp : Reads Try.prog 23 (fun s : Sp => [.int .i64 s.1, .int .i64 s.2]) (fun _ s => I64 s.1 ∧ I64 s.2) :=
  Reads.map (reads_struct Try.underlying23 (by kernel_rfl) (readsFs_cons (c := 1) rfl (by kernel_rfl) (reads_int Try.underlying2) (readsFs_cons (c := 1) rfl (by kernel_rfl) (reads_int Try.underlying2) readsFs_nil))) fun W x hx =>
    ⟨(x.1, x.2.1), rfl, i64_bd hx.1, i64_bd hx.2.1⟩
/-- Bits: how many, which bytes. -/
theorem reads_bits : Reads Try.prog 26 (fun x : Int × Bv => [.int .i64 x.1, .slice x.2.a x.2.l.length x.2.c]) (fun W x => I64 x.1 ∧ Byts W (.slice x.2.a x.2.l.length x.2.c) x.2.l) :=
  Reads.map (reads_struct Try.underlying26 (by kernel_rfl) (readsFs_cons (c := 1) rfl (by kernel_rfl) (reads_int Try.underlying3) (readsFs_cons (c := 1) rfl (by kernel_rfl) reads_bv readsFs_nil))) fun W x hx =>
    ⟨(x.1, x.2.1), rfl, i64_bd hx.1, hx.2.1⟩
theorem reads_sg : Reads Try.prog 28 encSg (fun W s => GoodSg W s) :=
  Reads.map (reads_struct Try.underlying28 (by kernel_rfl) (readsFs_cons (c := 1) rfl (by kernel_rfl) (reads_int Try.underlying3) (readsFs_cons (c := 2) rfl (by kernel_rfl) reads_sp (readsFs_cons (c := 1) rfl (by kernel_rfl) (reads_int Try.underlying3) (readsFs_cons (c := 2) rfl (by kernel_rfl) reads_bits readsFs_nil))))) fun W x hx =>
    ⟨⟨x.1, x.2.1, x.2.2.1, x.2.2.2.1.1, x.2.2.2.1.2.a, x.2.2.2.1.2.c, x.2.2.2.1.2.l⟩, rfl, hx.2.2.2.1.2, i64_bd hx.1, hx.2.1.1, hx.2.1.2, i64_bd hx.2.2.1, hx.2.2.2.1.1⟩

theorem sig_of_trod {H : Type} {enc : TypeId × Value → H} {W : World} {base : Nat} {v : Value} {d : DataW H} {p : List MemPlace} {ts : List TypeId} {ds : List (DataW H)} {j : Nat}
    (hok : Value.okWide Try.prog W .any base 28 v) (h : DataW.Trod enc Try.prog W 0 (fun _ => true) true 28 v d p) (hlt : ∀ x ∈ p, x.block < W.heap.size)
    (hsz : (DataW.weightsEach Try.prog ts ds).all (· ≤ reachBytes) = true) (ht : ts[j]? = some 28) (hd : ds[j]? = some d) : ∃ s, v = sgv s ∧ GoodSg W s :=
  arg_struct Try.underlying28 reads_sg hok h hlt hsz ht hd
theorem bits_of_trod {H : Type} {enc : TypeId × Value → H} {W : World} {base : Nat} {v : Value} {d : DataW H} {p : List MemPlace} {ts : List TypeId} {ds : List (DataW H)} {j : Nat}
    (hok : Value.okWide Try.prog W .any base 26 v) (h : DataW.Trod enc Try.prog W 0 (fun _ => true) true 26 v d p) (hlt : ∀ x ∈ p, x.block < W.heap.size)
    (hsz : (DataW.weightsEach Try.prog ts ds).all (· ≤ reachBytes) = true) (ht : ts[j]? = some 26) (hd : ds[j]? = some d) : ∃ x : Int × Bv, v = .agg #[.int .i64 x.1, .slice x.2.a x.2.l.length x.2.c] ∧ I64 x.1 ∧ Byts W (.slice x.2.a x.2.l.length x.2.c) x.2.l :=
  arg_struct Try.underlying26 reads_bits hok h hlt hsz ht hd
theorem sp_of_trod {H : Type} {enc : TypeId × Value → H} {W : World} {base : Nat} {v : Value} {d : DataW H} {p : List MemPlace} {ts : List TypeId} {ds : List (DataW H)} {j : Nat}
    (hok : Value.okWide Try.prog W .any base 23 v) (h : DataW.Trod enc Try.prog W 0 (fun _ => true) true 23 v d p) (hlt : ∀ x ∈ p, x.block < W.heap.size)
    (hsz : (DataW.weightsEach Try.prog ts ds).all (· ≤ reachBytes) = true) (ht : ts[j]? = some 23) (hd : ds[j]? = some d) : ∃ s : Sp, v = .agg #[.int .i64 s.1, .int .i64 s.2] ∧ I64 s.1 ∧ I64 s.2 :=
  arg_struct Try.underlying23 reads_sp hok h hlt hsz ht hd
end Go.Proofs.Ytehgiagefiakkaa
