/- TraceLess: the plain law, the walk. -/
import Derived.Test.YtjaaldeaknmmbaaS12
import Derived.Deep.DeepCutAuto
namespace Go.Proofs.Ytjaaldeaknmmbaa
open Go.RowKit Go.Shelf

theorem addG_mem (c : Cs) (i : Int) : ∀ gs : List PG, (∃ g ∈ addG gs c i, g.1 = c) ∧ ∀ d, (∃ g ∈ gs, g.1 = d) → ∃ g ∈ addG gs c i, g.1 = d
  | [] => ⟨⟨_, List.mem_singleton.2 rfl, rfl⟩, fun d ⟨g, hg, _⟩ => by simp at hg⟩
  | (e, l) :: gs => by
    unfold addG
    obtain ⟨h1, h2⟩ := addG_mem c i gs
    by_cases h : e = c
    · rw [if_pos h]
      refine ⟨⟨_, List.mem_cons_self, h⟩, fun d ⟨g, hg, hd⟩ => ?_⟩
      rcases List.mem_cons.1 hg with rfl | hg
      · exact ⟨_, List.mem_cons_self, hd⟩
      · exact ⟨g, List.mem_cons_of_mem _ hg, hd⟩
    · rw [if_neg h]
      obtain ⟨g, hg, hc⟩ := h1
      refine ⟨⟨g, List.mem_cons_of_mem _ hg, hc⟩, fun d ⟨g, hg, hd⟩ => ?_⟩
      rcases List.mem_cons.1 hg with rfl | hg
      · exact ⟨_, List.mem_cons_self, hd⟩
      · obtain ⟨g', hg', hd'⟩ := h2 d ⟨g, hg, hd⟩
        exact ⟨g', List.mem_cons_of_mem _ hg', hd'⟩
theorem clq_mem (but : List Int) (l : List Sn) : ∀ x ∈ l, takes but x = true → ∃ g ∈ clq but l, g.1 = x.c := by
  have : ∀ (l : List Sn) (gs : List PG), (∀ x ∈ l, takes but x = true → ∃ g ∈ l.foldl (fun gs x => if takes but x then addG gs x.c x.i else gs) gs, g.1 = x.c) ∧
      ∀ d, (∃ g ∈ gs, g.1 = d) → ∃ g ∈ l.foldl (fun gs x => if takes but x then addG gs x.c x.i else gs) gs, g.1 = d := by
    intro l
    induction l with
    | nil => exact fun gs => ⟨by simp, fun d h => h⟩
    | cons y l ih =>
      intro gs
      rw [List.foldl_cons]
      obtain ⟨h1, h2⟩ := ih (if takes but y then addG gs y.c y.i else gs)
      refine ⟨fun x hx ht => ?_, fun d hd => h2 d ?_⟩
      · rcases List.mem_cons.1 hx with rfl | hx
        · exact h2 _ (by rw [if_pos ht]; exact (addG_mem _ _ _).1)
        · exact h1 x hx ht
      · split
        · exact (addG_mem _ _ _).2 d hd
        · exact hd
  exact (this l []).1
theorem clq_one {but : List Int} {l : List Sn} {c : Cs} (h : ∀ x ∈ l, takes but x = true → x.c = c) : (clq but l).length ≤ 1 := by
  have : ∀ (l : List Sn) (gs : List PG), (∀ x ∈ l, takes but x = true → x.c = c) → (gs = [] ∨ ∃ ids, gs = [(c, ids)]) → (l.foldl (fun gs x => if takes but x then addG gs x.c x.i else gs) gs).length ≤ 1 := by
    intro l
    induction l with
    | nil => rintro gs _ (rfl | ⟨ids, rfl⟩) <;> simp
    | cons y l ih =>
      intro gs hx hg
      rw [List.foldl_cons]
      refine ih _ (fun x h => hx x (List.mem_cons_of_mem _ h)) ?_
      by_cases ht : takes but y = true
      · rw [if_pos ht, hx y List.mem_cons_self ht]
        rcases hg with rfl | ⟨ids, rfl⟩
        · exact .inr ⟨_, rfl⟩
        · exact .inr ⟨ids ++ [y.i], by simp [addG]⟩
      · rw [if_neg ht]; exact hg
  exact this l [] h (.inl rfl)
theorem okR_more {l : List Sn} {but : List Int} {r : Int} (more : Int) (h : okR l but r = true) : okR l (but ++ [more]) r = true := by
  unfold okR at *
  rw [decide_eq_true_iff] at *
  have hsub : ∀ x, takes (but ++ [more]) x = true → takes but x = true := fun x hx => by
    unfold takes at *
    simp at hx ⊢
    exact ⟨hx.1, fun h => hx.2.1 h⟩
  by_cases he : ∃ x ∈ ofR l r l.length, takes (but ++ [more]) x = true
  · obtain ⟨x0, h0, ht0⟩ := he
    refine clq_one (c := x0.c) fun x hx ht => ?_
    obtain ⟨g, hg, hgc⟩ := clq_mem but _ x hx (hsub x ht)
    obtain ⟨g0, hg0, hgc0⟩ := clq_mem but _ x0 h0 (hsub x0 ht0)
    match hq : clq but (ofR l r l.length), hg, hg0, h with
    | [], hg, _, _ => simp at hg
    | [a], hg, hg0, _ =>
      rw [List.mem_singleton] at hg hg0
      rw [← hgc, ← hgc0, hg, hg0]
    | a :: b :: t, _, _, h => simp at h
  · exact clq_one (c := ⟨0, 0, 0, 0, 0⟩) fun x hx ht => absurd ⟨x, hx, ht⟩ he
theorem agree_more {l : List Sn} {but : List Int} (more : Int) (h : agreeS l but = true) : agreeS l (but ++ [more]) = true :=
  List.all_eq_true.2 fun x hx => okR_more more (List.all_eq_true.1 h x hx)
theorem addG_ne (c : Cs) (i : Int) : ∀ gs : List PG, (∀ g ∈ gs, g.2 ≠ []) → ∀ g ∈ addG gs c i, g.2 ≠ []
  | [], _, g, hg => by
    obtain rfl := List.mem_singleton.1 hg
    simp
  | (e, l) :: gs, h, g, hg => by
    unfold addG at hg
    by_cases he : e = c
    · rw [if_pos he] at hg
      rcases List.mem_cons.1 hg with rfl | hg
      · simp
      · exact h g (List.mem_cons_of_mem _ hg)
    · rw [if_neg he] at hg
      rcases List.mem_cons.1 hg with rfl | hg
      · exact h _ List.mem_cons_self
      · exact addG_ne c i gs (fun y hy => h y (List.mem_cons_of_mem _ hy)) g hg
theorem clq_ne (but : List Int) (l : List Sn) : ∀ g ∈ clq but l, g.2 ≠ [] := by
  have : ∀ (l : List Sn) (gs : List PG), (∀ g ∈ gs, g.2 ≠ []) → ∀ g ∈ l.foldl (fun gs x => if takes but x then addG gs x.c x.i else gs) gs, g.2 ≠ [] := by
    intro l
    induction l with
    | nil => exact fun gs h => h
    | cons y l ih =>
      intro gs h
      rw [List.foldl_cons]
      refine ih _ ?_
      split
      · exact addG_ne _ _ _ h
      · exact h
  exact this l [] (by simp)
/-- Does a snap stand in a round's cliques? -/
def actv (r : Int) (x : Sn) : Bool := x.r == r && x.s == 4
theorem actv_count (l : List Sn) (r : Int) : (ofR l r l.length).countP (takes []) = l.countP (actv r) := by
  unfold ofR
  rw [List.take_length, List.countP_filter]
  congr 1
  funext x
  simp [takes, actv, Bool.and_comm]
def lenG (gs : List Gr) (k : Nat) : Nat := ((gs.take k).map (fun g => g.ids.length)).sum
theorem lenG_succ {gs : List Gr} {k : Nat} {g : Gr} (h : gs[k]? = some g) : lenG gs (k + 1) = lenG gs k + g.ids.length := by
  unfold lenG; rw [map_snoc (fun g : Gr => g.ids.length) h]; simp
theorem lenG_le (gs : List Gr) (k : Nat) : lenG gs k ≤ lenG gs gs.length := by
  unfold lenG
  rw [List.take_length]
  conv => rhs; rw [← List.take_append_drop k gs, List.map_append, List.sum_append]
  omega
theorem lenG_all (gs : List Gr) : lenG gs gs.length = sumG (gs.map pg) := by
  unfold lenG sumG
  rw [List.take_length, List.map_map]
  rfl

/-- What comes in: snaps that may be read. -/
abbrev SnM := Sn × List Ms
def GoodL (w : World) (v : Value) (l : List SnM) : Prop := Snaps w v (l.map (·.1)) ∧ (∀ x ∈ l, GoodS w x.1 x.2) ∧ ∀ x ∈ l, I64 x.1.r
def LessPost (w : World) (e : Ending) (w' : World) : Prop := e = .returned (.bool true) ∧ Below w.heap.size w w'
set_option maxRecDepth 100000 in
set_option maxHeartbeats 3200000 in
theorem less_walk (l : List SnM) (lv : Value) (but : List Int) (bv : Value) (more round : Int) (w : World) (h : GoodL w lv l) (hbt : Ns w bv but) :
    Calls Try.prog 3 #[lv, bv, .int .i64 more, .int .i64 round] w (LessPost w) := by
  have HPO : Hid (∀ e w', e = .returned (.bool true) ∧ Below w.heap.size w w' → LessPost w e w') := fun _ _ h => h
  have HBG : Hid (∀ W, Calls Try.prog 8 #[] W fun e w' => e = .returned (.bool true) ∧ Below W.heap.size W w') := fun W => begun_any W
  have HFW : Hid (∀ W, Below w.heap.size w W → Calls Try.prog 9 #[lv] W (FewPost l W)) := fun W hW => few_any l lv W (h.1.below hW) (fun x hx => (h.2.1 x hx).below hW)
  have HS := Lib.hid h.1
  have HI := Lib.hid h.2.2
  have HNS := Lib.hid hbt
  have hLL : (l.map (·.1)).length = l.length := by simp
  obtain ⟨a, c, rfl, q1, q2, q3⟩ := h.1.shape
  obtain ⟨ba, bc, rfl, bq1, bq2, bq3⟩ := hbt.shape
  clear h hbt
  rw [hLL] at *
  clear hLL
  have HLL : Hid ((l.map (·.1)).length = l.length) := by show _ = _; simp
  generalize hbl : but.length = bl at *
  have HBL := Lib.hid hbl
  clear hbl
  generalize hnn : l.length = n at *
  have HN := Lib.hid hnn
  clear hnn
  go_enter Try.func3, Try.ntmps3
  go_wp2_with fail
  refine (HBG.out _).mono ?_
  rintro e w1 ⟨rfl, hb⟩
  have HB1 := Lib.hid hb
  clear hb
  go_wp2_with fail
  refine (HFW.out _ HB1.out).mono ?_
  rintro e w2 ⟨⟨b, rfl, hbs⟩, hb⟩
  have HB2 : Hid (Below w.heap.size w w2) := HB1.out.trans (hb.mono HB1.out.size)
  have HBS := Lib.hid hbs
  clear hb hbs
  cases b with
  | false =>
    go_wp2_with (go_at_call 8; refine (HBG.out _).mono ?_; rintro e w3 ⟨rfl, hb⟩; have HB3 : Hid (Below w.heap.size w w3) := HB2.out.trans (hb.mono HB2.out.size); clear hb)
    go_ret
    exact HPO.out _ _ ⟨rfl, HB3.out⟩
  | true =>
    have hn260 : n ≤ 260 := by have := (HBS.out rfl).1; rw [HN.out] at this; exact this
    clear HBS
    by_cases h60 : bl ≤ 60
    · have hd : decide (60 < (bl : Int)) = false := decide_eq_false (by omega)
      have hd2 : decide (60 < bl) = false := decide_eq_false (by omega)
      have HAG : Hid (∀ (bs : List Int) bsv W, Below w.heap.size w W → Ns W bsv bs → Calls Try.prog 10 #[.slice a n c, bsv] W (AgreePost (agreeS (l.map (·.1)) bs) W)) := fun bs bsv W hW hN =>
        agree_any _ _ bs bsv W (HS.out.below hW) (by rw [HLL.out]; omega) (fun x hx => by obtain ⟨y, hy, rfl⟩ := List.mem_map.1 hx; exact HI.out y hy) hN
      have HCQ : Hid (∀ W, Below w.heap.size w W → Calls Try.prog 12 #[.slice a n c, .int .i64 round] W (CliquesPost (ofR (l.map (·.1)) round (l.map (·.1)).length) W)) := fun W hW =>
        cliques2_any _ _ round W (HS.out.below hW) (by rw [HLL.out]; omega)
      have HLAW := Lib.hid (fun (h : agreeS (l.map (·.1)) but = true) => agree_more more h)
      have h1 := HAG.out but _ w2 HB2.out (HNS.out.below HB2.out)
      go_upto_region 3 with fail
      go_cut [39] from 27 to 39 (fun t wx => t = .bool false ∧ Hid (Below w.heap.size w wx))
      case first =>
        go_wp2_with fail
        refine h1.mono ?_
        rintro e w3 ⟨rfl, hb⟩
        have HB3 : Hid (Below w.heap.size w w3) := HB2.out.trans (hb.mono HB2.out.size)
        clear h1 hb
        cases hag : agreeS (l.map (·.1)) but with
        | false =>
          clear hag HLAW
          go_wp2_with fail
          go_meet
          exact ⟨rfl, HB3⟩
        | true =>
          have HG2 := Lib.hid (HLAW.out hag)
          clear hag HLAW
          have hcl := nclone_any but _ w3 (HNS.out.below HB3.out) (by rw [HBL.out]; omega)
          go_wp2_with fail
          refine hcl.mono ?_
          rintro e w4 ⟨⟨v4, rfl, ho⟩, hb⟩
          rw [HBL.out] at ho
          obtain ⟨va, vc, rfl, -⟩ := owns_shape ho
          have HO := Lib.hid ho
          have HB4 : Hid (Below w.heap.size w w4) := HB3.out.trans (hb.mono HB3.out.size)
          have HZ3 := Lib.hid HB3.out.size
          have HZ4 := Lib.hid hb.size
          clear hcl ho hb
          go_wp2_with (at_builtin; refine wpList_app_at (m := 1) E23 rfl rfl (HO.out.alloc _) (news := [.int .i64 more]) rfl (cells_new _ _ _) (by simp [Value.oneCell']) rfl rfl (by omega) (by have := HZ4.out; simp; omega) ?_; go_must (intro v5 w5 ho5 hg5 _; obtain ⟨xa, xc, rfl, -⟩ := owns_shape ho5; have HO5 := Lib.hid ho5; have HB5 : Hid (Below w.heap.size w w5) := (HB4.out.trans ((below1 w4 _).mono HB4.out.size)).grown hg5 (by have := HB4.out.size; simp; omega) (fun k e => Nat.le_trans HZ3.out ((HO.out.alloc (.cells #[.int .i64 more] 3)).lt k e).1); clear ho5 hg5))
          have hr5 : Ns w5 (.slice xa (bl + 1) xc) (but ++ [more]) := by
            have h5 := HO5.out
            have e1 : but.map (Value.int .i64) ++ [Value.int .i64 more] = (but ++ [more]).flatMap (encI .i64) := by rw [encI_flat]; simp
            rw [e1, show bl + 1 = (but ++ [more]).length by simp [HBL.out]] at h5
            have h6 := Rd.of_owns (encI_len _) h5 (by simp [HBL.out]; omega)
            rwa [show (but ++ [more]).length = bl + 1 by simp [HBL.out]] at h6
          have h2 := HAG.out (but ++ [more]) _ w5 HB5.out hr5
          rw [HG2.out] at h2
          clear hr5 HO5 HG2
          go_wp2_with fail
          refine h2.mono ?_
          rintro e w6 ⟨rfl, hb⟩
          have HB6 : Hid (Below w.heap.size w w6) := HB5.out.trans (hb.mono HB5.out.size)
          clear h2 hb
          go_wp2_with fail
          go_meet
          exact ⟨rfl, HB6⟩
      case rest =>
        clear h1 HB2 HB1 HAG HLAW HNS
        obtain ⟨rfl, HB3⟩ := hcut
        rename World => w3
        have h3 := HCQ.out w3 HB3.out
        go_wp2_with fail
        refine h3.mono ?_
        rintro e w4 ⟨⟨v, gs, rfl, ho, he, hpg⟩, hb⟩
        have HB4 : Hid (Below w.heap.size w w4) := HB3.out.trans (hb.mono HB3.out.size)
        have hsum : lenG gs gs.length = l.countP (fun x => actv round x.1) := by
          rw [lenG_all, hpg, clq_sum, actv_count, List.countP_map]
          rfl
        have HNE : Hid (∀ (k : Nat) g, gs[k]? = some g → 1 ≤ g.ids.length) := fun k g hk => by
          have := clq_ne [] (ofR (l.map (·.1)) round (l.map (·.1)).length) (pg g) (by rw [← hpg]; exact List.mem_map.2 ⟨g, List.mem_of_getElem? hk, rfl⟩)
          exact List.length_pos_iff.2 this
        have HSH : Hid (∀ (k : Nat) g, gs[k]? = some g → ∃ a c, g.v = .slice a g.ids.length c) := fun k g hk => by
          obtain ⟨a, c, e, _⟩ := owns_shape (he g (List.mem_of_getElem? hk))
          exact ⟨a, c, e⟩
        have hcp : l.countP (fun x => actv round x.1) ≤ n := by rw [← HN.out]; exact List.countP_le_length
        have hgl : gs.length ≤ 300 := by
          have h1 := clq_len [] (ofR (l.map (·.1)) round (l.map (·.1)).length)
          have h2 := ofR_len (l.map (·.1)) round (l.map (·.1)).length
          rw [← hpg] at h1
          rw [HLL.out] at h1 h2
          simp at h1
          omega
        have HLE : Hid (∀ k, lenG gs k ≤ 260) := fun k => by have := lenG_le gs k; omega
        have HSUM := Lib.hid hsum
        have HO := Lib.hid ho
        obtain ⟨ga, gc, rfl, gq1, gq2, gq3⟩ := owns_shape ho
        have HQ := Lib.hid gq3
        have HG0 : Hid (lenG gs 0 = 0) := rfl
        have HG1 := Lib.hid (fun (k : Nat) g (hk : gs[k]? = some g) => lenG_succ hk)
        have HGI : Hid (∀ k, k < gs.length → ∃ g, gs[k]? = some g) := fun k hk => ⟨_, List.getElem?_eq_getElem hk⟩
        have HMP : Hid (∀ (k : Nat) g, gs[k]? = some g → (gs.map (·.v))[k]? = some g.v) := fun k g hk => by rw [List.getElem?_map, hk]; rfl
        clear h3 ho he hpg hb gq3 hsum HB3
        generalize hlg : lenG gs = lg at *
        clear hlg
        go_wp2
        go_loop [9, 44] (fun nv i => ∃ k : Nat, k ≤ gs.length ∧ i = .int .i64 k ∧ nv = .int .i64 (lg k)) (fun _ i => gs.length - (intOf i).toNat)
        case atStart => exact ⟨0, Nat.zero_le _, rfl, by rw [HG0.out]; rfl⟩
        case round =>
          obtain ⟨k, hk, rfl, rfl⟩ := hrel
          have hle := HLE.out k
          by_cases hlt : k < gs.length
          · obtain ⟨g, hg⟩ := HGI.out k hlt
            obtain ⟨gb, rfl, -⟩ := HQ.out (by omega)
            obtain ⟨va, vc, hv⟩ := HSH.out k g hg
            have c0 : w4.cell? ⟨gb, k, none⟩ = some (.slice va g.ids.length vc) := by rw [← hv]; exact own_cell HO.out (HMP.out k g hg)
            have hne := HNE.out k g hg
            have HS := Lib.hid (HG1.out k g hg)
            have hil : g.ids.length ≤ 260 := by have h1 := HG1.out k g hg; have h2 := HLE.out (k + 1); omega
            have hz : ((g.ids.length : Int) == 0) = false := beq_eq_false_iff_ne.2 (by omega)
            have hz2 : decide ((g.ids.length : Int) = 0) = false := decide_eq_false (by omega)
            have hz3 : (g.ids.length == 0) = false := beq_eq_false_iff_ne.2 (by omega)
            clear hg hv
            generalize g.ids.length = il at *
            go_wp2
            go_round
            case rel => exact ⟨k + 1, by omega, by go_num, by rw [HS.out]; go_num⟩
            case measure => simp [intOf]; omega
          · obtain rfl : k = gs.length := by omega
            rw [HSUM.out]
            go_wp2
            have hcz : l.countP (fun x => actv round x.1) = (l.drop 0).countP (fun x => actv round x.1) := by simp
            have HI0 := Lib.hid hcz
            clear hcz
            generalize hcc : l.countP (fun x => actv round x.1) = C at *
            clear hcc
            go_loopw [9, 58] (fun nv i wr => ∃ (k : Nat) (m : Nat), k ≤ n ∧ i = .int .i64 k ∧ nv = .int .i64 m ∧ m ≤ C ∧ Hid (m = (l.drop k).countP (fun x => actv round x.1)) ∧ Hid (Below w.heap.size w wr)) (fun _ i _ => n - (intOf i).toNat)
            case atStart => exact ⟨0, C, Nat.zero_le _, rfl, rfl, Nat.le_refl _, HI0.out, HB4⟩
            case round =>
              obtain ⟨k, m, hk, rfl, rfl, hmC, HM, HW⟩ := hrel
              by_cases hlt : k < n
              · obtain ⟨x, hx⟩ : ∃ x, l[k]? = some x := ⟨_, List.getElem?_eq_getElem (by rw [HN.out]; exact hlt)⟩
                have hmx : (l.map (·.1))[k]? = some x.1 := by rw [List.getElem?_map, hx]; rfl
                obtain ⟨b, off, rfl, hbl, hc⟩ := (HS.out.below HW.out).row (by intro e; rw [e] at hmx; simp at hmx)
                have HC := Lib.hid (sn_at hc hmx)
                have HD : Hid ((l.drop k).countP (fun x => actv round x.1) = (l.drop (k + 1)).countP (fun x => actv round x.1) + if actv round x.1 then 1 else 0) := by
                  show _ = _
                  have : l.drop k = x :: l.drop (k + 1) := by
                    have h1 := List.drop_eq_getElem_cons (l := l) (i := k) (by rw [HN.out]; exact hlt)
                    rw [List.getElem?_eq_getElem (by rw [HN.out]; exact hlt)] at hx
                    cases hx
                    exact h1
                  rw [this, List.countP_cons]
                have hbs := HW.out.size
                have HAV : Hid (actv round x.1 = (x.1.r == round && x.1.s == 4)) := rfl
                obtain ⟨x, ms⟩ := x
                simp only at HC HD HAV
                clear hx hmx hc
                by_cases h5 : x.r = round
                · have hr1 : (x.r == round) = true := by simpa using h5
                  by_cases h6 : x.s = 4
                  · have hr2 : (x.s == 4) = true := by simpa using h6
                    have HA : Hid (m = (l.drop (k + 1)).countP (fun x => actv round x.1) + 1) := by
                      show _ = _
                      rw [HM.out, HD.out, HAV.out, hr1, hr2]; rfl
                    have hm1 : 1 ≤ m := by have := HA.out; omega
                    clear h5 h6
                    go_wp2_with (first
                      | (refine wpList_loadW W41 rfl rfl rfl (encS x) rfl HC.out ?_)
                      | (refine wpList_boxW W41 rfl rfl rfl (encS x) rfl rfl (encS_one x) rfl ?_; go_must (intro W1 HX hal hz1; have k0 : W1.cell? ⟨wr.heap.size, 0, none⟩ = some (.int .i64 x.r) := HX.list0 rfl; have k2 : W1.cell? ⟨wr.heap.size, 2, none⟩ = some (.int .i64 x.s) := HX.list0 rfl; have zz : wr.heap.size < W1.heap.size := (by omega); have HB1 := Lib.hid hal; clear HX hal hz1)))
                    go_roundw
                    case rel => exact ⟨k + 1, m - 1, by omega, by go_num, by simp; omega, by omega, by have := HA.out; show _ = _; omega, HW.out.trans (HB1.out.mono hbs)⟩
                    case measure => simp [intOf]; omega
                  · have hr2 : (x.s == 4) = false := by simpa using h6
                    have HA : Hid (m = (l.drop (k + 1)).countP (fun x => actv round x.1)) := by
                      show _ = _
                      rw [HM.out, HD.out, HAV.out, hr1, hr2]; rfl
                    clear h5 h6
                    go_wp2_with (first
                      | (refine wpList_loadW W41 rfl rfl rfl (encS x) rfl HC.out ?_)
                      | (refine wpList_boxW W41 rfl rfl rfl (encS x) rfl rfl (encS_one x) rfl ?_; go_must (intro W1 HX hal hz1; have k0 : W1.cell? ⟨wr.heap.size, 0, none⟩ = some (.int .i64 x.r) := HX.list0 rfl; have k2 : W1.cell? ⟨wr.heap.size, 2, none⟩ = some (.int .i64 x.s) := HX.list0 rfl; have zz : wr.heap.size < W1.heap.size := (by omega); have HB1 := Lib.hid hal; clear HX hal hz1)))
                    go_roundw
                    case rel => exact ⟨k + 1, m, by omega, by go_num, rfl, by omega, HA.out, HW.out.trans (HB1.out.mono hbs)⟩
                    case measure => simp [intOf]; omega
                · have hr1 : (x.r == round) = false := by simpa using h5
                  have HA : Hid (m = (l.drop (k + 1)).countP (fun x => actv round x.1)) := by
                    show _ = _
                    rw [HM.out, HD.out, HAV.out, hr1]; rfl
                  clear h5
                  go_wp2_with (first
                    | (refine wpList_loadW W41 rfl rfl rfl (encS x) rfl HC.out ?_)
                    | (refine wpList_boxW W41 rfl rfl rfl (encS x) rfl rfl (encS_one x) rfl ?_; go_must (intro W1 HX hal hz1; have k0 : W1.cell? ⟨wr.heap.size, 0, none⟩ = some (.int .i64 x.r) := HX.list0 rfl; have zz : wr.heap.size < W1.heap.size := (by omega); have HB1 := Lib.hid hal; clear HX hal hz1)))
                  go_roundw
                  case rel => exact ⟨k + 1, m, by omega, by go_num, rfl, by omega, HA.out, HW.out.trans (HB1.out.mono hbs)⟩
                  case measure => simp [intOf]; omega
              · obtain rfl : n = k := by omega
                have HM0 : Hid (m = 0) := by
                  show _ = _
                  rw [HM.out, List.drop_of_length_le (by rw [HN.out]; exact Nat.le_refl _)]; rfl
                obtain rfl := HM0.out
                go_wp2
                go_ret
                exact HPO.out _ _ ⟨rfl, HW.out⟩
    · have hd : decide (60 < (bl : Int)) = true := decide_eq_true (by omega)
      have hd2 : decide (60 < bl) = true := decide_eq_true (by omega)
      go_wp2_with (go_at_call 8; refine (HBG.out _).mono ?_; rintro e w3 ⟨rfl, hb⟩; have HB3 : Hid (Below w.heap.size w w3) := HB2.out.trans (hb.mono HB2.out.size); clear hb)
      go_ret
      exact HPO.out _ _ ⟨rfl, HB3.out⟩
end Go.Proofs.Ytjaaldeaknmmbaa
