/- What an argument of a law of chapter 14 reads as. -/
import Derived.Test.YtbmnecdkjkffdaaOpen
import Derived.Test.YtbmnecdkjkffdaaE13
import Derived.Test.YtbmnecdkjkffdaaFrame
import Derived.Test.YtbmnecdkjkffdaaRows
namespace Go.Proofs.Ytbmnecdkjkffdaa
open Go.ChangeShapes Go.WideShapes Go.ChangeAt Go.RowKit

theorem own : ownKnob Try.prog.godebug = none := by kernel_rfl
theorem laidOut : laidOutB Try.prog = true := by kernel_rfl
structure GoodE (x : Ev) : Prop where
  a : I64 x.a
  k : I64 x.k
  n : I64 x.n
  m : I64 x.m
theorem reads_ev : Reads Try.prog 31 encE (fun _ x => GoodE x) :=
  Reads.map (reads_struct Try.underlying31 (by kernel_rfl) (readsFs_cons (c := 1) (enc := encI .i64) rfl (by kernel_rfl) (reads_int Try.underlying2) (readsFs_cons (c := 1) (enc := encI .i64) rfl (by kernel_rfl) (reads_int Try.underlying3)
    (readsFs_cons (c := 1) (enc := encI .i64) rfl (by kernel_rfl) (reads_int Try.underlying3) (readsFs_cons (c := 1) (enc := encI .i64) rfl (by kernel_rfl) (reads_int Try.underlying2) readsFs_nil))))) fun W x hx =>
    ⟨⟨x.1, x.2.1, x.2.2.1, x.2.2.2.1⟩, rfl, ⟨i64_bd hx.1, i64_bd hx.2.1, i64_bd hx.2.2.1, i64_bd hx.2.2.2.1⟩⟩
def GoodD (d : DoV) : Prop := I64 d.k ∧ GoodE d.e
theorem reads_do : Reads Try.prog 33 encD (fun _ x => GoodD x) :=
  Reads.map (reads_struct Try.underlying33 (by kernel_rfl) (readsFs_cons (c := 1) (enc := encI .i64) rfl (by kernel_rfl) (reads_int Try.underlying3) (readsFs_cons (c := 4) (enc := encE) rfl (by kernel_rfl) reads_ev readsFs_nil))) fun W x hx =>
    ⟨⟨x.1, x.2.1⟩, rfl, i64_bd hx.1, hx.2.1⟩
theorem reads_evs : Reads Try.prog 22 (fun x : Value × List Ev => [x.1]) (fun W x => Rd encE 4 W x.1 x.2 ∧ ∀ y ∈ x.2, GoodE y) :=
  Reads.map (reads_slice (size := 4) Try.underlying22 (by kernel_rfl) (by decide) (by rw [show Try.prog.bytesOf 31 = 32 by kernel_rfl]; decide) reads_ev) fun W x hx => ⟨x, rfl, hx.1, hx.2.1⟩
theorem reads_dos : Reads Try.prog 23 (fun x : Value × List DoV => [x.1]) (fun W x => Rd encD 5 W x.1 x.2 ∧ ∀ y ∈ x.2, GoodD y) :=
  Reads.map (reads_slice (size := 5) Try.underlying23 (by kernel_rfl) (by decide) (by rw [show Try.prog.bytesOf 33 = 40 by kernel_rfl]; decide) reads_do) fun W x hx => ⟨x, rfl, hx.1, hx.2.1⟩
set_option maxRecDepth 100000 in
theorem evs_of_trod {H : Type} {enc : TypeId × Value → H} {W : World} {base : Nat} {v : Value} {d : DataW H} {p : List MemPlace} {ts : List TypeId} {ds : List (DataW H)} {j : Nat}
    (hok : Value.okWide Try.prog W .any base 22 v) (h : DataW.Trod enc Try.prog W 0 (fun _ => true) true 22 v d p) (hlt : ∀ x ∈ p, x.block < W.heap.size)
    (hsz : (DataW.weightsEach Try.prog ts ds).all (· ≤ reachBytes) = true) (ht : ts[j]? = some 22) (hd : ds[j]? = some d) : ∃ l : List Ev, Rd encE 4 W v l ∧ ∀ y ∈ l, GoodE y := by
  obtain ⟨⟨v', l⟩, rfl, hg⟩ := arg_one (f := fun x : Value × List Ev => x.1) reads_evs (cells_slice Try.underlying22 hok) h hlt hsz ht hd
  exact ⟨l, hg⟩
set_option maxRecDepth 100000 in
theorem dos_of_trod {H : Type} {enc : TypeId × Value → H} {W : World} {base : Nat} {v : Value} {d : DataW H} {p : List MemPlace} {ts : List TypeId} {ds : List (DataW H)} {j : Nat}
    (hok : Value.okWide Try.prog W .any base 23 v) (h : DataW.Trod enc Try.prog W 0 (fun _ => true) true 23 v d p) (hlt : ∀ x ∈ p, x.block < W.heap.size)
    (hsz : (DataW.weightsEach Try.prog ts ds).all (· ≤ reachBytes) = true) (ht : ts[j]? = some 23) (hd : ds[j]? = some d) : ∃ l : List DoV, Rd encD 5 W v l ∧ ∀ y ∈ l, GoodD y := by
  obtain ⟨⟨v', l⟩, rfl, hg⟩ := arg_one (f := fun x : Value × List DoV => x.1) reads_dos (cells_slice Try.underlying23 hok) h hlt hsz ht hd
  exact ⟨l, hg⟩
end Go.Proofs.Ytbmnecdkjkffdaa
