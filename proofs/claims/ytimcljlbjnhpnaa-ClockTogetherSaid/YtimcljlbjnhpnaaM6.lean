/- Contract: Check of lists, of the program. -/
import Derived.Test.YtimcljlbjnhpnaaM5
namespace Go.Proofs.Ytimcljlbjnhpnaa
open Go.RowKit Go.Shelf
open Md

/-- The cells of a list. -/
abbrev mec (m : Me) : Array Value := #[.int .i64 m.nodes, .int .i64 m.slot, .int .i64 m.gap, .int .i64 m.win, .int .i64 m.drift, .int .i64 m.delay, .slice m.cold.a m.cold.l.length m.cold.c, .slice m.ma m.ml.length m.mc]

theorem check1_any (m : Me) (x : Mo) (g : Nat) (hcl : (m.cold.l.length : Int) = m.nodes) (w : World) (h : GoodMe w m) (hx : GoodMo w x) (hB : Blk w g 25 (mec m)) :
    Calls Try.prog 50 #[mov x, .pointer (some ⟨g, 0, none⟩)] w fun e w' => e = .returned (.bool (!okMode m x)) ∧ Below w.heap.size w w' := by
  have hm := fun W (hW : Below w.heap.size w W) => isMode_any m x hcl W (h.below hW) (hx.below hW)
  have hg := hB.lt
  obtain ⟨nodes, slot, gap, win, drift, delay, ⟨ca, cc, cl⟩, ma, mc, ml⟩ := m
  obtain ⟨⟨da, dc, dl⟩, ⟨ea, ec, el⟩, ⟨na, nc, nl⟩⟩ := x
  unfold mev mov mec at *
  simp only at hm hB ⊢
  obtain ⟨m0, m1, m2, m3, m4, m5, m6, m7⟩ := hB.eight
  clear h hx hcl hB
  generalize okMode _ _ = z at *
  go_enter Try.func50, Try.ntmps50
  go_wp2_with fail
  refine (hm _ (below1 _ _)).mono ?_
  rintro e w1 ⟨rfl, hb⟩
  go_wp2
  go_ret
  exact ⟨rfl, bt (below1 _ _) hb⟩

set_option maxRecDepth 100000 in
set_option maxHeartbeats 1600000 in
theorem indexMo_any (m : Me) (g : Nat) (hcl : (m.cold.l.length : Int) = m.nodes) (w : World) (h : GoodMe w m) (hB : Blk w g 25 (mec m)) :
    Calls Try.prog 58 #[.slice m.ma m.ml.length m.mc, .func (.func 50) #[] #[.pointer (some ⟨g, 0, none⟩)]] w fun e w' => (∃ r : Int, e = .returned (.int .i64 r) ∧ decide (0 ≤ r) = !(m.ml.all (okMode m))) ∧ Below w.heap.size w w' := by
  have hlen := h.1.2.1.len
  have HM := Lib.hid h
  have HB := Lib.hid hB
  have hc1 : ∀ x W, Below w.heap.size w W → GoodMo W x → _ := fun x W hW hx => check1_any m x g hcl W (h.below hW) hx (hB.keep hW)
  have HC1 := Lib.hid hc1
  have HS : Hid (∀ k x, m.ml[k]? = some x → (m.ml.take (k + 1)).all (okMode m) = ((m.ml.take k).all (okMode m) && okMode m x)) := fun k x hx => all_snoc _ hx
  have HF : Hid (∀ k x, m.ml[k]? = some x → okMode m x = false → m.ml.all (okMode m) = false) := fun k x hx h0 => by
    rw [Bool.eq_false_iff]
    intro h1
    have := List.all_eq_true.1 h1 x (List.mem_of_getElem? hx)
    rw [h0] at this
    cases this
  clear h hB hc1 hcl
  generalize hml : m.ml = ml at *
  have HML := Lib.hid hml
  clear hml
  generalize hok : okMode m = ok at *
  clear hok
  go_enter Try.func58, Try.ntmps58
  go_wp2
  go_loopw [8] (fun i wr => ∃ k : Nat, k ≤ ml.length ∧ i = .int .i64 k ∧ Hid ((ml.take k).all ok = true) ∧ Hid (Below w.heap.size w wr)) (fun i _ => ml.length - (intOf i).toNat)
  case atStart => exact ⟨0, Nat.zero_le _, rfl, rfl, Below.refl _ _⟩
  case round =>
    obtain ⟨k, hk, rfl, HR, HBl⟩ := hrel
    by_cases hlt : k < ml.length
    · obtain ⟨x, hx⟩ : ∃ x, ml[k]? = some x := ⟨_, List.getElem?_eq_getElem hlt⟩
      have hG := HM.out.below HBl.out
      have hrd := hG.1.2.1
      rw [HML.out] at hrd
      obtain ⟨b, off, hma, hbl, hcc⟩ := hrd.row (by intro h0; rw [h0] at hx; simp at hx)
      have e0 : wr.cell? ⟨b, off + k * 3, none⟩ = some (.slice x.d.a x.d.l.length x.d.c) := hcc k x hx 0 _ rfl
      have e1 : wr.cell? ⟨b, off + k * 3 + 1, none⟩ = some (.slice x.e.a x.e.l.length x.e.c) := hcc k x hx 1 _ rfl
      have e2 : wr.cell? ⟨b, off + k * 3 + 2, none⟩ = some (.slice x.n.a x.n.l.length x.n.c) := hcc k x hx 2 _ rfl
      have hck := HC1.out x wr HBl.out (hG.1.2.2 x (by rw [HML.out]; exact List.mem_of_getElem? hx))
      have HSx := Lib.hid (HS.out k x hx)
      have HFx := Lib.hid (HF.out k x hx)
      clear hG hrd hcc hx hbl
      generalize ok x = z at *
      obtain ⟨⟨da, dc, dl⟩, ⟨ea, ec, el⟩, ⟨na, nc, nl⟩⟩ := x
      unfold mov at hck
      simp only at e0 e1 e2 hck
      rw [hma]
      clear hma
      cases z
      · go_wp2_with fail
        refine hck.mono ?_
        rintro e w1 ⟨rfl, hb⟩
        go_wp2
        go_ret
        exact ⟨⟨_, rfl, by rw [HFx.out (by first | rfl | trivial)]; simp⟩, HBl.out.trans (hb.mono HBl.out.size)⟩
      · go_wp2_with fail
        refine hck.mono ?_
        rintro e w1 ⟨rfl, hb⟩
        go_wp2
        go_roundw
        case rel => exact ⟨k + 1, by omega, by go_num, by show _ = _; rw [HSx.out, HR.out]; rfl, HBl.out.trans (hb.mono HBl.out.size)⟩
        case measure => simp [intOf]; omega
    · obtain rfl : k = ml.length := by omega
      go_wp2
      go_ret
      exact ⟨⟨_, rfl, by have := HR.out; rw [List.take_length] at this; rw [this]; rfl⟩, HBl.out⟩

theorem containsMo_any (m : Me) (g : Nat) (hcl : (m.cold.l.length : Int) = m.nodes) (w : World) (h : GoodMe w m) (hB : Blk w g 25 (mec m)) :
    Calls Try.prog 49 #[.slice m.ma m.ml.length m.mc, .func (.func 50) #[] #[.pointer (some ⟨g, 0, none⟩)]] w fun e w' => e = .returned (.bool (!(m.ml.all (okMode m)))) ∧ Below w.heap.size w w' := by
  have hi := indexMo_any m g hcl w h hB
  clear h hB hcl
  generalize m.ml.all (okMode m) = z at *
  generalize m.ml.length = L at *
  generalize m.ma = a at *
  generalize m.mc = c at *
  go_enter Try.func49, Try.ntmps49
  go_wp2_with fail
  refine hi.mono ?_
  rintro e w1 ⟨⟨r, rfl, hr⟩, hb⟩
  have HR := Lib.hid hr
  clear hr
  go_wp2
  go_ret
  exact ⟨ret_bool HR.out, hb⟩
end Go.Proofs.Ytimcljlbjnhpnaa
