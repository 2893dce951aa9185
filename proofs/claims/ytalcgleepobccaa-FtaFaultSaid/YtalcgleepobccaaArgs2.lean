/- What a slice of 16-bit integers that comes in reads as. -/
import Derived.Test.YtalcgleepobccaaW9
import Derived.Test.YtalcgleepobccaaArgs
namespace Go.Proofs.Ytalcgleepobccaa
open Go.ChangeShapes Go.WideShapes Go.ChangeAt Go.RowKit

theorem shorts_of_trod {H : Type} {enc : TypeId × Value → H} {W : World} {base : Nat} {v : Value} {d : DataW H} {p : List MemPlace} {ts : List TypeId} {ds : List (DataW H)} {j : Nat}
    (hok : Value.okWide Try.prog W .any base 33 v) (h : DataW.Trod enc Try.prog W 0 (fun _ => true) true 33 v d p) (hlt : ∀ x ∈ p, x.block < W.heap.size)
    (hsz : (DataW.weightsEach Try.prog ts ds).all (· ≤ reachBytes) = true) (ht : ts[j]? = some 33) (hd : ds[j]? = some d) : ∃ l, Shorts W v l := by
  obtain ⟨a, n, cap, rfl⟩ := okWide_slice Try.underlying33 hok
  obtain ⟨fuel, hf⟩ := h
  rcases open_ints Try.underlying33 Try.underlying34 (by kernel_rfl) hf with ⟨hcs, hx⟩ | ⟨ad, n', cap', zs, hcs, _, hl, hm, hz, hx, hcell, hwz⟩
  · simp [Value.cells] at hcs
    obtain ⟨rfl, rfl, rfl⟩ := hcs
    exact ⟨[], none, 0, rfl, by simp, by simp, .inl rfl⟩
  · simp [Value.cells] at hcs
    obtain ⟨rfl, rfl, rfl⟩ := hcs
    simp only [Prod.mk.injEq] at hx
    obtain ⟨rfl, rfl⟩ := hx
    simp only [if_true] at hz
    have hreach : cap * 2 ≤ 140737488351232 := by
      have := sized_slice hsz ht hd Try.underlying33 (e := 34)
      rw [show Try.prog.bytesOf 34 = 2 by kernel_rfl] at this
      simp only [lits, List.length_map, List.length_take, List.length_drop, reachBytes] at this
      omega
    have hlen : (zs.take n).length = n := by simp; omega
    refine ⟨zs.take n, some ad, cap, by rw [hlen], by omega, fun x hx => ?_, ?_⟩
    · have := hwz x (List.mem_of_mem_take hx)
      simp [Lit.wf, IntKind.min, IntKind.max, IntKind.bits, IntKind.signed] at this
      omega
    · by_cases h0 : n = 0
      · left; subst h0; simp
      · right
        obtain ⟨b, off, spot⟩ := ad
        have hspot : spot = none := by simpa [Addr.add] using World.cell?_spot (hcell 0 (by omega))
        subst hspot
        have hbW : b < W.heap.size := hlt (.cell b off) (MemPlace.mem_row.2 ⟨0, by omega, by simp⟩)
        refine ⟨b, off, rfl, hbW, fun j hj => ?_⟩
        have := hcell j (by omega)
        rw [Addr.add_lit] at this
        rw [this]
        simp [List.getD_eq_getElem?_getD, show j < n by omega]

end Go.Proofs.Ytalcgleepobccaa
