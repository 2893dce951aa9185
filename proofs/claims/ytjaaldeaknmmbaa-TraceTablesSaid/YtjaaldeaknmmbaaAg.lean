/- Arguments of chapter 25 as the walks take them. -/
import Derived.Test.YtjaaldeaknmmbaaAr
import Derived.Test.YtjaaldeaknmmbaaS13
namespace Go.Proofs.Ytjaaldeaknmmbaa
open Go.RowKit Go.Shelf

theorem goodL_of {W : World} {v : Value} {l : List Sx} (h : Rd (fun y : Sx => encS y.s) 23 W v l) (hg : ∀ y ∈ l, GoodX W y) : GoodL W v (l.map Sx.few) := by
  refine ⟨?_, fun x hx => ?_, fun x hx => ?_⟩
  · have := Rd.mapped (enc := encS) (f := Sx.s) h
    rw [List.map_map]
    exact this
  · obtain ⟨y, hy, rfl⟩ := List.mem_map.1 hx
    exact (hg y hy).few
  · obtain ⟨y, hy, rfl⟩ := List.mem_map.1 hx
    exact (hg y hy).ints _ (by simp [Sn.ints, Sx.few])
end Go.Proofs.Ytjaaldeaknmmbaa
