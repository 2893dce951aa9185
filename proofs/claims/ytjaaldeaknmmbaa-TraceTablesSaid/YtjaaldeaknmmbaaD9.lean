/- TraceTables: the walk. -/
import Derived.Test.YtjaaldeaknmmbaaD8
import Derived.Test.YtjaaldeaknmmbaaAg
namespace Go.Proofs.Ytjaaldeaknmmbaa
open Go.RowKit Go.Shelf

set_option maxRecDepth 100000 in
set_option maxHeartbeats 1600000 in
theorem tables_walk (l : List Sx) (lv : Value) (w : World) (h : Rd (fun y : Sx => encS y.s) 23 w lv l) (hg : ∀ y ∈ l, GoodX w y) : Calls Try.prog 7 #[lv] w (LessPost w) := by
  have HPO : Hid (∀ w', Below w.heap.size w w' → LessPost w (.returned (.bool true)) w') := fun _ h => ⟨rfl, h⟩
  have hgl := goodL_of h hg
  have hgt : ∀ x ∈ (l.map Sx.few).map (·.1), GoodT x := fun x hx => by
    rw [List.map_map] at hx
    obtain ⟨y, hy, rfl⟩ := List.mem_map.1 hx
    have := (hg y hy).ints
    exact ⟨this _ (by simp [Sn.ints, Sx.few]), this _ (by simp [Sn.ints, Sx.few]), this _ (by simp [Sn.ints, Sx.few]), this _ (by simp [Sn.ints, Sx.few])⟩
  have HBG : Hid (∀ W, Below w.heap.size w W → Calls Try.prog 8 #[] W fun e w' => e = .returned (.bool true) ∧ Below W.heap.size W w') := fun W _ => begun_any W
  have HFL : Hid (∀ W, Below w.heap.size w W → Calls Try.prog 9 #[lv] W fun e w' => (∃ b, e = .returned (.bool b) ∧ (b = true → ((l.map Sx.few).map (·.1)).length ≤ 300)) ∧ Below W.heap.size W w') := fun W hW =>
    (few_any _ lv W (hgl.1.below hW) (fun x hx => (hgl.2.1 x hx).below hW)).mono fun e w' ⟨⟨b, he, hh⟩, hb⟩ => ⟨⟨b, he, fun e => by rw [List.length_map]; have := (hh e).1; omega⟩, hb⟩
  have HT : Hid (((l.map Sx.few).map (·.1)).length ≤ 300 → ∀ W, Below w.heap.size w W → Calls Try.prog 27 #[lv] W (TablePost ((l.map Sx.few).map (·.1)) W)) := fun hl W hW => table_any _ lv W (hgl.1.below hW) hl hgt
  have HR : Hid (((l.map Sx.few).map (·.1)).length ≤ 300 → ∀ W, Below w.heap.size w W → Calls Try.prog 28 #[lv] W (TablePost ((l.map Sx.few).map (·.1)) W)) := fun hl W hW => rtable_any _ lv W (hgl.1.below hW) hl hgt
  have HB0 : Hid (Below w.heap.size w w) := Below.refl _ _
  clear h hg hgl hgt
  generalize (l.map Sx.few).map (·.1) = ls at *
  clear l
  generalize LessPost w = POST at *
  go_enter Try.func7, Try.ntmps7
  go_wp2_with fail
  refine (HBG.out _ HB0.out).mono ?_
  rintro e w1 ⟨rfl, hb⟩
  have HB1 := Lib.hid (HB0.out.trans (hb.mono HB0.out.size))
  clear hb
  go_wp2_with fail
  refine (HFL.out _ HB1.out).mono ?_
  rintro e w2 ⟨⟨b, rfl, hbl⟩, hb⟩
  have HB2 := Lib.hid (HB1.out.trans (hb.mono HB1.out.size))
  have HBL := Lib.hid hbl
  clear hb hbl
  cases b with
  | false =>
    go_wp2
    exact HPO.out _ HB2.out
  | true =>
    have HN := Lib.hid (HBL.out (by first | rfl | trivial))
    have HT2 := Lib.hid (HT.out HN.out _ HB2.out)
    go_wp2_with fail
    refine HT2.out.mono ?_
    rintro e w3 ⟨⟨R, hR, rfl⟩, hb⟩
    have HB3 := Lib.hid (HB2.out.trans (hb.mono HB2.out.size))
    have HR1 := Lib.hid hR
    have HR2 := Lib.hid (HR.out HN.out _ HB3.out)
    clear hb hR HT2
    go_wp2_with fail
    refine HR2.out.mono ?_
    rintro e w4 ⟨⟨S, hS, rfl⟩, hb⟩
    have HB4 := Lib.hid (HB3.out.trans (hb.mono HB3.out.size))
    obtain rfl : R = S := HR1.out.same hS
    clear hb hS HR2 HR1
    generalize (⟨(tblL ls R).toArray⟩ : ByteArray) = sv at *
    go_wp2
    exact HPO.out _ HB4.out
end Go.Proofs.Ytjaaldeaknmmbaa
