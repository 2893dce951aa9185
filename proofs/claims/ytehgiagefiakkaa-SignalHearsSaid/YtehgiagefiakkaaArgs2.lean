/- What []Signal and Seen read as. -/
import Derived.Test.YtehgiagefiakkaaArgs
import Derived.Test.YtehgiagefiakkaaB7
namespace Go.Proofs.Ytehgiagefiakkaa
open Go.ChangeShapes Go.WideShapes Go.ChangeAt Go.RowKit
open Sched (Sp bad)
open Sig

theorem reads_sgs : Reads Try.prog 37 (fun x : Value × List Sg => [x.1]) (fun W x => Sgs W x.1 x.2) :=
  Reads.map (reads_slice (size := 6) Try.underlying37 (by kernel_rfl) (by decide) (by rw [show Try.prog.bytesOf 28 = 64 by kernel_rfl]; decide) reads_sg) fun W x hx => ⟨x, rfl, hx.1, hx.2.1⟩
theorem reads_sn : Reads Try.prog 39 (fun x : Sn × Option Addr × Nat => [.int .i64 x.1.kind, .int .i64 x.1.at_, .int .i64 x.1.n, .slice x.2.1 x.1.b.length x.2.2]) (fun W x => Byts W (.slice x.2.1 x.1.b.length x.2.2) x.1.b) :=
  Reads.map (reads_struct Try.underlying39 (by kernel_rfl) (readsFs_cons (c := 1) rfl (by kernel_rfl) (reads_int Try.underlying3) (readsFs_cons (c := 1) rfl (by kernel_rfl) (reads_int Try.underlying2) (readsFs_cons (c := 2) rfl (by kernel_rfl) reads_bits readsFs_nil)))) fun W x hx =>
    ⟨(⟨x.1, x.2.1, x.2.2.1.1, x.2.2.1.2.l⟩, x.2.2.1.2.a, x.2.2.1.2.c), rfl, hx.2.2.1.2⟩
set_option maxRecDepth 100000 in
theorem sigs_of_trod {H : Type} {enc : TypeId × Value → H} {W : World} {base : Nat} {v : Value} {d : DataW H} {p : List MemPlace} {ts : List TypeId} {ds : List (DataW H)} {j : Nat}
    (hok : Value.okWide Try.prog W .any base 37 v) (h : DataW.Trod enc Try.prog W 0 (fun _ => true) true 37 v d p) (hlt : ∀ x ∈ p, x.block < W.heap.size)
    (hsz : (DataW.weightsEach Try.prog ts ds).all (· ≤ reachBytes) = true) (ht : ts[j]? = some 37) (hd : ds[j]? = some d) : ∃ l, Sgs W v l := by
  obtain ⟨x, hx, hg⟩ := arg_one (f := fun x : Value × List Sg => x.1) (Good := fun W (x : Value × List Sg) => Sgs W x.1 x.2) reads_sgs (cells_slice Try.underlying37 hok) h hlt hsz ht hd
  subst hx
  exact ⟨_, hg⟩
set_option maxRecDepth 100000 in
theorem sn_of_trod {H : Type} {enc : TypeId × Value → H} {W : World} {base : Nat} {v : Value} {d : DataW H} {p : List MemPlace} {ts : List TypeId} {ds : List (DataW H)} {j : Nat}
    (hok : Value.okWide Try.prog W .any base 39 v) (h : DataW.Trod enc Try.prog W 0 (fun _ => true) true 39 v d p) (hlt : ∀ x ∈ p, x.block < W.heap.size)
    (hsz : (DataW.weightsEach Try.prog ts ds).all (· ≤ reachBytes) = true) (ht : ts[j]? = some 39) (hd : ds[j]? = some d) : ∃ x : Sn × Option Addr × Nat, v = snv x.1 x.2.1 x.2.2 ∧ Byts W (.slice x.2.1 x.1.b.length x.2.2) x.1.b :=
  arg_struct Try.underlying39 reads_sn hok h hlt hsz ht hd
end Go.Proofs.Ytehgiagefiakkaa
