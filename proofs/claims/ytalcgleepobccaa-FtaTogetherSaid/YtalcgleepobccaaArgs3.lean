/- What a slice of slices of integers reads as. -/
import Derived.Test.YtalcgleepobccaaOpen
import Derived.Test.YtalcgleepobccaaArgs
import Derived.Test.YtalcgleepobccaaF1
namespace Go.Proofs.Ytalcgleepobccaa
open Go.ChangeShapes Go.WideShapes Go.ChangeAt Go.RowKit

theorem ints_of_rd {w : World} {v : Value} {l : List Int} (h : Rd (encI .i64) 1 w v l) (hb : ∀ x ∈ l, IntOf .i64 x) (hl : l.length ≤ 17592186044416) : Ints w v l := by
  obtain ⟨a, cap, rfl, h1, h2, h3, h5, h4⟩ := h
  refine ⟨a, cap, rfl, h1, h2, hl, fun x hx => i64_bd (hb x hx), h5, ?_⟩
  rcases h4 with h4 | ⟨b, off, rfl, hlt, hc⟩
  · exact .inl h4
  · exact .inr ⟨b, off, rfl, hlt, fun j hj => hc.int hj⟩
theorem reads_row : Reads Try.prog 22 encRw (fun W r => Ints W (rwv r) r.l) :=
  Reads.map (reads_slice (size := 1) Try.underlying22 (by kernel_rfl) (by decide) (by rw [show Try.prog.bytesOf 2 = 8 by kernel_rfl]; decide) (reads_int Try.underlying2)) fun W x hx => by
    obtain ⟨h1, h2, h3⟩ := hx
    rw [show Try.prog.bytesOf 2 = 8 by kernel_rfl] at h3
    obtain ⟨v, l⟩ := x
    simp only at h1 h2 h3
    obtain ⟨a, cap, rfl, _⟩ := h1.shape
    exact ⟨⟨a, cap, l⟩, rfl, ints_of_rd h1 h2 (by show l.length ≤ _; omega)⟩
theorem reads_mat : Reads Try.prog 42 encL (fun W (x : Value × List Rw) => Mat W x.1 x.2) :=
  Reads.map (reads_slice (size := 1) Try.underlying42 (by kernel_rfl) (by decide) (by rw [show Try.prog.bytesOf 22 = 24 by kernel_rfl]; decide) reads_row) fun W x hx => ⟨x, rfl, hx.1, hx.2.1⟩

theorem mat_of_trod {H : Type} {enc : TypeId × Value → H} {W : World} {base : Nat} {v : Value} {d : DataW H} {p : List MemPlace} {ts : List TypeId} {ds : List (DataW H)} {j : Nat}
    (hok : Value.okWide Try.prog W .any base 42 v) (h : DataW.Trod enc Try.prog W 0 (fun _ => true) true 42 v d p) (hlt : ∀ x ∈ p, x.block < W.heap.size)
    (hsz : (DataW.weightsEach Try.prog ts ds).all (· ≤ reachBytes) = true) (ht : ts[j]? = some 42) (hd : ds[j]? = some d) : ∃ M, Mat W v M := by
  obtain ⟨x, hx, hg⟩ := arg_one (f := fun x : Value × List Rw => x.1) (Good := fun W (x : Value × List Rw) => Mat W x.1 x.2) reads_mat (cells_slice Try.underlying42 hok) h hlt hsz ht hd
  subst hx
  exact ⟨_, hg⟩
end Go.Proofs.Ytalcgleepobccaa
