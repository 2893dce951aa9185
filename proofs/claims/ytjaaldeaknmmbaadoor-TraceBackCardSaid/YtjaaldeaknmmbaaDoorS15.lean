/- The document's SameSnap: hosts' interfaces, nodes, snaps. -/
import Derived.Test.YtjaaldeaknmmbaaDoorAr
import Derived.Test.YtjaaldeaknmmbaaDoorS9
import Derived.Deep.DeepCutAuto
namespace Go.Proofs.YtjaaldeaknmmbaaDoor
open Go.RowKit Go.Shelf

theorem toList_inj {a b : ByteArray} (h : a.toList = b.toList) : a = b := by
  rw [ByteArray.toList_eq, ByteArray.toList_eq] at h
  obtain ⟨⟨a⟩⟩ := a
  obtain ⟨⟨b⟩⟩ := b
  simp only at h
  rw [h]
/-- Whether two rows of bytes are the same, by their strings. -/
theorem str_eq {B C : List Int} (hB : ∀ x ∈ B, 0 ≤ x ∧ x ≤ 255) (hC : ∀ x ∈ C, 0 ≤ x ∧ x ≤ 255) : ((strOfNums B).toList == (strOfNums C).toList) = decide (B = C) := by
  rw [Bool.eq_iff_iff, beq_iff_eq, decide_eq_true_iff]
  exact ⟨fun h => strOfNums_inj hB hC (toList_inj h), fun h => by rw [h]⟩
structure Vs where
  (a b c d e f g : Int)
deriving DecidableEq
def encV (x : Vs) : List Value := [.int .i64 x.a, .int .i64 x.b, .int .i64 x.c, .int .i64 x.d, .int .i64 x.e, .int .i64 x.f, .int .i64 x.g]
def Sn.vs (x : Sn) : Vs := ⟨x.m1, x.m2, x.m3, x.m4, x.m5, x.m6, x.m7⟩
theorem W33 : Wide Tryd.prog 35 7 := ⟨⟨_, Tryd.underlying35, rfl⟩, by kernel_rfl⟩
theorem W37 : Wide Tryd.prog 39 5 := ⟨⟨_, Tryd.underlying39, rfl⟩, by kernel_rfl⟩
theorem exec_eqlV {w : World} {o : Oper} {a : Act} {x y : Operand} {tt : TypeId} (ho : o.op = .binOp .eql 35 x y tt) {c d : Vs} (hx : a.eval x = .agg (encV c).toArray) (hy : a.eval y = .agg (encV d).toArray) :
    (execOp a.eval o).run Tryd.prog w = .ok (.value (.bool (decide (c = d)))) w := by
  have e : decide (c = d) = (c.a == d.a && (c.b == d.b && (c.c == d.c && (c.d == d.d && (c.e == d.e && (c.f == d.f && c.g == d.g)))))) := by
    obtain ⟨c1, c2, c3, c4, c5, c6, c7⟩ := c
    obtain ⟨d1, d2, d3, d4, d5, d6, d7⟩ := d
    simp only [Vs.mk.injEq]
    rw [Bool.eq_iff_iff]
    simp
  rw [e]
  unfold execOp
  simp only [ho, hx, hy]
  unfold encV
  go_simp
  by_cases h1 : c.a = d.a <;> by_cases h2 : c.b = d.b <;> by_cases h3 : c.c = d.c <;> by_cases h4 : c.d = d.d <;> by_cases h5 : c.e = d.e <;> by_cases h6 : c.f = d.f <;> by_cases h7 : c.g = d.g <;> simp [h1, h2, h3, h4, h5, h6, h7]
def encN (x : Sn) : List Value := (encS x).drop 1
def encH (x : Sn) : List Value := (encS x).drop 18
theorem encN_len (x : Sn) : (encN x).length = 22 := rfl
theorem encH_len (x : Sn) : (encH x).length = 5 := rfl
theorem drop_at {α : Type} {l : List α} {k j : Nat} {u : α} (h : (l.drop k)[j]? = some u) : l[k + j]? = some u := by rwa [List.getElem?_drop] at h
theorem Blk.sub {W : World} {b k : Nat} {t : TypeId} {cs ds : List Value} (h : Blk W b t cs.toArray) (hd : ∀ j u, ds[j]? = some u → cs[k + j]? = some u) : ∀ j u, ds[j]? = some u → W.cell? ⟨b, k + j, none⟩ = some u := fun _ _ hj => h.list0 (hd _ _ hj)
theorem n_c (x : Sn) : ∀ j u, (encC x.c)[j]? = some u → (encN x)[2 + j]? = some u := fun j u h => by
  have := sn_c x j u h
  unfold encN
  rw [List.getElem?_drop, show 1 + (2 + j) = 3 + j by omega]
  exact this
theorem n_v (x : Sn) : ∀ j u, (encV x.vs)[j]? = some u → (encN x)[7 + j]? = some u := fun j u h => by
  match j with
  | 0 => exact h
  | 1 => exact h
  | 2 => exact h
  | 3 => exact h
  | 4 => exact h
  | 5 => exact h
  | 6 => exact h
  | n + 7 => simp [encV] at h
theorem n_h (x : Sn) : ∀ j u, (encH x)[j]? = some u → (encN x)[17 + j]? = some u := fun j _ h => by
  unfold encN
  rw [List.getElem?_drop, show 1 + (17 + j) = 18 + j by omega]
  exact drop_at h
theorem s_n (x : Sn) : ∀ j u, (encN x)[j]? = some u → (encS x)[1 + j]? = some u := fun _ _ h => drop_at h

def mxk (m : Mx) : Int × List Int := (m.age, m.d.l)
def SameH (x y : Sx) : Prop := x.s.hi = y.s.hi ∧ x.out = y.out ∧ x.s.lf = y.s.lf ∧ x.s.wt = y.s.wt ∧ x.ms.map mxk = y.ms.map mxk
instance (x y : Sx) : Decidable (SameH x y) := by unfold SameH; infer_instance
def SameN (x y : Sx) : Prop := x.s.i = y.s.i ∧ x.s.s = y.s.s ∧ x.s.c = y.s.c ∧ x.s.vs = y.s.vs ∧ x.s.tm = y.s.tm ∧ x.s.bg = y.s.bg ∧ x.s.su = y.s.su ∧ SameH x y
instance (x y : Sx) : Decidable (SameN x y) := by unfold SameN; infer_instance
def SameS (x y : Sx) : Prop := x.s.r = y.s.r ∧ SameN x y
instance (x y : Sx) : Decidable (SameS x y) := by unfold SameS; infer_instance
theorem GoodX.below {w w' : World} {x : Sx} (h : GoodX w x) (hb : Below w.heap.size w w') : GoodX w' x :=
  ⟨h.ints, ⟨h.out.1.below hb, h.out.2⟩, h.inn.below hb, fun m hm => ⟨⟨(h.each m hm).1.1.below hb, (h.each m hm).1.2⟩, (h.each m hm).2⟩⟩
def SamePost (b : Bool) (w : World) (e : Ending) (w' : World) : Prop := e = .returned (.bool b) ∧ Below w.heap.size w w'
theorem Below.two {w : World} (o o' : Obj) : Below w.heap.size w ((w.alloc o).alloc o') := below2 w o o'
theorem same_take {x y : Sx} {k : Nat} {a b : Mx} (h : (x.ms.take k).map mxk = (y.ms.take k).map mxk) (ha : x.ms[k]? = some a) (hb : y.ms[k]? = some b) : (x.ms.take (k + 1)).map mxk = (y.ms.take (k + 1)).map mxk ↔ (a.age = b.age ∧ a.d.l = b.d.l) := by
  rw [map_snoc mxk ha, map_snoc mxk hb, h]
  simp [mxk]
theorem same_not {x y : Sx} {k : Nat} (h : (x.ms.take k).map mxk ≠ (y.ms.take k).map mxk) : x.ms.map mxk ≠ y.ms.map mxk := fun e => h (by rw [List.map_take, List.map_take, e])

set_option maxRecDepth 100000 in
set_option maxHeartbeats 1600000 in
theorem rsameH_any (x y : Sx) (w : World) (hx : GoodX w x) (hy : GoodX w y) :
    Calls Tryd.prog 50 #[.agg (encH x.s).toArray, .agg (encH y.s).toArray] w (SamePost (decide (SameH x y)) w) := by
  have HP : Hid (∀ b e w', b = decide (SameH x y) → e = .returned (.bool b) ∧ Below w.heap.size w w' → SamePost (decide (SameH x y)) w e w') := fun b e w' hb h => by rw [← hb]; exact h
  have HSH : Hid (SameH x y = (x.s.hi = y.s.hi ∧ x.out = y.out ∧ x.s.lf = y.s.lf ∧ x.s.wt = y.s.wt ∧ x.ms.map mxk = y.ms.map mxk)) := rfl
  have hb2 : Below w.heap.size w ((w.alloc (.cells (encH x.s).toArray 39)).alloc (.cells (encH y.s).toArray 39)) := below2 w _ _
  have HBX : Hid (Blk ((w.alloc (.cells (encH x.s).toArray 39)).alloc (.cells (encH y.s).toArray 39)) w.heap.size 39 (encH x.s).toArray) := (Blk.new' rfl : Blk _ _ _ _).alloc _
  have HBY : Hid (Blk ((w.alloc (.cells (encH x.s).toArray 39)).alloc (.cells (encH y.s).toArray 39)) (w.heap.size + 1) 39 (encH y.s).toArray) := Blk.new' (by simp)
  have hX := hx.below hb2
  have hY := hy.below hb2
  have HOE := Lib.hid (str_eq hX.out.2 hY.out.2)
  have k1 := run_string_of Tryd.underlying36 Tryd.underlying5 Tryd.underlying9 (⟨hX.out.1, hX.out.2⟩ : Byts _ _ _)
  have k2 := run_string_of Tryd.underlying36 Tryd.underlying5 Tryd.underlying9 (⟨hY.out.1, hY.out.2⟩ : Byts _ _ _)
  have hin := hX.inn.len
  have hjn := hY.inn.len
  obtain ⟨_, _, ein, hq1, hq2, _⟩ := hX.inn.shape
  obtain ⟨_, _, ejn, hq3, hq4, _⟩ := hY.inn.shape
  simp only [Value.slice.injEq] at ein ejn
  have HXN : Hid (x.ms.length = x.s.nn) := ein.2.1.symm
  have HYN : Hid (y.ms.length = y.s.nn) := ejn.2.1.symm
  obtain ⟨-, -, ec1⟩ := ein
  obtain ⟨-, -, ec2⟩ := ejn
  subst ec1 ec2
  have HX := Lib.hid hX
  have HY := Lib.hid hY
  have hnx : x.s.nn ≤ 140737488351232 := by rw [← HXN.out]; exact hin
  have hny : y.s.nn ≤ 140737488351232 := by rw [← HYN.out]; exact hjn
  have hsz : ((w.alloc (.cells (encH x.s).toArray 39)).alloc (.cells (encH y.s).toArray 39)).heap.size = w.heap.size + 2 := by simp
  clear hX hY hx hy hin hjn
  go_enter Tryd.func50, Tryd.ntmps50
  go_upto_region 1 with fail
  generalize ((w.alloc (.cells (encH x.s).toArray 39)).alloc (.cells (encH y.s).toArray 39)) = w2 at *
  have HB2 := Lib.hid hb2
  have a0 : w2.cell? ⟨w.heap.size, 0, none⟩ = some (.int .i64 x.s.hi) := HBX.out.list0 rfl
  have a1 : w2.cell? ⟨w.heap.size, 1, none⟩ = some (.slice x.s.oa x.s.on x.s.oc) := HBX.out.list0 rfl
  have a2 : w2.cell? ⟨w.heap.size, 2, none⟩ = some (.slice x.s.ia x.s.nn x.s.ic) := HBX.out.list0 rfl
  have a3 : w2.cell? ⟨w.heap.size, 3, none⟩ = some (.int .i64 x.s.lf) := HBX.out.list0 rfl
  have a4 : w2.cell? ⟨w.heap.size, 4, none⟩ = some (.int .i64 x.s.wt) := HBX.out.list0 rfl
  have b0 : w2.cell? ⟨w.heap.size + 1, 0, none⟩ = some (.int .i64 y.s.hi) := HBY.out.list0 rfl
  have b1 : w2.cell? ⟨w.heap.size + 1, 1, none⟩ = some (.slice y.s.oa y.s.on y.s.oc) := HBY.out.list0 rfl
  have b2 : w2.cell? ⟨w.heap.size + 1, 2, none⟩ = some (.slice y.s.ia y.s.nn y.s.ic) := HBY.out.list0 rfl
  have b3 : w2.cell? ⟨w.heap.size + 1, 3, none⟩ = some (.int .i64 y.s.lf) := HBY.out.list0 rfl
  have b4 : w2.cell? ⟨w.heap.size + 1, 4, none⟩ = some (.int .i64 y.s.wt) := HBY.out.list0 rfl
  have z1 : w.heap.size < w2.heap.size := by omega
  have z2 : w.heap.size + 1 < w2.heap.size := by omega
  clear hsz hb2
  generalize strOfNums x.out = sx at *
  generalize strOfNums y.out = sy at *
  by_cases h1 : x.s.hi = y.s.hi
  · have Hh1 := Lib.hid h1
    have e1 : (x.s.hi != y.s.hi) = false := by simpa using h1
    clear h1
    by_cases h2 : x.out = y.out
    · have Hh2 := Lib.hid h2
      have e2 : (sx.toList == sy.toList) = true := by rw [HOE.out]; exact decide_eq_true h2
      have e2' : (sx.toList != sy.toList) = false := by rw [bne, e2]; rfl
      clear h2
      by_cases h3 : x.s.lf = y.s.lf
      · have Hh3 := Lib.hid h3
        have e3 : (x.s.lf != y.s.lf) = false := by simpa using h3
        clear h3
        by_cases h4 : x.s.wt = y.s.wt
        · have Hh4 := Lib.hid h4
          have e4 : (x.s.wt != y.s.wt) = false := by simpa using h4
          clear h4
          by_cases h5 : x.s.nn = y.s.nn
          · have Hh5 := Lib.hid h5
            have e5 : ((x.s.nn : Int) != (y.s.nn : Int)) = false := by rw [h5]; simp
            have e5' : (x.s.nn != y.s.nn) = false := by rw [h5]; simp
            clear h5
            have HEQ : Hid (x.s.nn = y.s.nn) := Hh5.out
            go_wp2
            go_loopw [5] (fun i wr => ∃ k : Nat, k ≤ x.s.nn ∧ i = .int .i64 k ∧ Hid ((x.ms.take k).map mxk = (y.ms.take k).map mxk) ∧ Hid (Below w2.heap.size w2 wr)) (fun i _ => x.s.nn - (intOf i).toNat)
            case atStart => exact ⟨0, Nat.zero_le _, rfl, rfl, Below.refl _ _⟩
            case round =>
              obtain ⟨k, hk, rfl, HI, HW⟩ := hrel
              clear k1 k2 a0 a1 a3 a4 b0 b1 b3 b4 e1 e2 e2' e3 e4 e5 e5'
              have c2 := keepCell HW.out a2
              have d2 := keepCell HW.out b2
              have hws := HW.out.size
              have HB3 : Hid (Below w.heap.size w wr) := HB2.out.trans (HW.out.mono (by omega))
              by_cases hlt : k < x.s.nn
              · obtain ⟨m, hm⟩ : ∃ m, x.ms[k]? = some m := ⟨_, List.getElem?_eq_getElem (by rw [HXN.out]; exact hlt)⟩
                obtain ⟨m', hm'⟩ : ∃ m, y.ms[k]? = some m := ⟨_, List.getElem?_eq_getElem (by rw [HYN.out, ← HEQ.out]; exact hlt)⟩
                have hX := HX.out.below HW.out
                have hY := HY.out.below HW.out
                obtain ⟨bm, om, hia, hbm, hcm⟩ := hX.inn.row (by rintro e; rw [e] at hm; simp at hm)
                obtain ⟨bn, on, hja, hbn, hcn⟩ := hY.inn.row (by rintro e; rw [e] at hm'; simp at hm')
                rw [hia] at c2
                rw [hja] at d2
                have p0 : wr.cell? ⟨bm, om + k * 2, none⟩ = some m.d.v := hcm k m hm 0 _ rfl
                have p1 : wr.cell? ⟨bm, om + k * 2 + 1, none⟩ = some (.int .i64 m.age) := hcm k m hm 1 _ rfl
                have q0 : wr.cell? ⟨bn, on + k * 2, none⟩ = some m'.d.v := hcn k m' hm' 0 _ rfl
                have q1 : wr.cell? ⟨bn, on + k * 2 + 1, none⟩ = some (.int .i64 m'.age) := hcn k m' hm' 1 _ rfl
                have gm := (hX.each m (List.mem_of_getElem? hm)).1
                have gn := (hY.each m' (List.mem_of_getElem? hm')).1
                have k1 := fun n => run_string_of (P := Tryd.prog) (w := wr.drewN n) Tryd.underlying36 Tryd.underlying5 Tryd.underlying9 (⟨gm.1.below (below_drewN (Below.refl _ _) n), gm.2⟩ : Byts _ _ _)
                have k2 := fun n => run_string_of (P := Tryd.prog) (w := wr.drewN n) Tryd.underlying36 Tryd.underlying5 Tryd.underlying9 (⟨gn.1.below (below_drewN (Below.refl _ _) n), gn.2⟩ : Byts _ _ _)
                have HSE := Lib.hid (str_eq gm.2 gn.2)
                have HST := Lib.hid (same_take HI.out hm hm')
                have HNT := Lib.hid (fun h => same_not (x := x) (y := y) (k := k + 1) h)
                clear hm hm' hX hY hcm hcn gm gn hia hja
                have hlt2 : k < y.s.nn := by have := HEQ.out; omega
                generalize m.d.v = vm at *
                generalize m'.d.v = vn at *
                generalize strOfNums m.d.l = sm at *
                generalize strOfNums m'.d.l = sn at *
                have HB4 := fun n => HB3.out.trans (below_drewN (Below.refl w.heap.size wr) n)
                have HB5 := fun n => HW.out.trans (below_drewN (Below.refl w2.heap.size wr) n)
                have HB4 := Lib.hid HB4
                have HB5 := Lib.hid HB5
                by_cases r1 : m.d.l = m'.d.l
                · have Hr1 := Lib.hid r1
                  have e6 : (sm.toList == sn.toList) = true := by rw [HSE.out]; exact decide_eq_true r1
                  have e6' : (sm.toList != sn.toList) = false := by rw [bne, e6]; rfl
                  clear r1
                  by_cases r2 : m.age = m'.age
                  · have Hr2 := Lib.hid r2
                    have e7 : (m.age != m'.age) = false := by simpa using r2
                    clear r2
                    have HT := Lib.hid (HST.out.2 ⟨Hr2.out, Hr1.out⟩)
                    go_upto_region 6 with fail
                    go_quiet (fail)
                    go_wp2
                    go_roundw
                    case rel => exact ⟨k + 1, by omega, by go_num, HT, HB5.out _⟩
                    case measure => simp [intOf]; omega
                  · have e7 : (m.age != m'.age) = true := by simpa using r2
                    have HF : Hid (false = decide (SameH x y)) := by show _ = _; rw [eq_comm, decide_eq_false_iff_not, HSH.out]; exact fun h => r2 (HST.out.1 (Classical.byContradiction fun hn => HNT.out hn h.2.2.2.2)).1
                    clear r2
                    go_upto_region 6 with fail
                    go_quiet (fail)
                    go_wp2
                    go_ret
                    exact HP.out false _ _ HF.out ⟨rfl, HB4.out _⟩
                · have e6 : (sm.toList == sn.toList) = false := by rw [HSE.out]; exact decide_eq_false r1
                  have e6' : (sm.toList != sn.toList) = true := by rw [bne, e6]; rfl
                  have HF : Hid (false = decide (SameH x y)) := by show _ = _; rw [eq_comm, decide_eq_false_iff_not, HSH.out]; exact fun h => r1 (HST.out.1 (Classical.byContradiction fun hn => HNT.out hn h.2.2.2.2)).2
                  clear r1
                  go_upto_region 6 with fail
                  go_quiet (fail)
                  go_wp2
                  go_ret
                  exact HP.out false _ _ HF.out ⟨rfl, HB4.out _⟩
              · obtain rfl : k = x.s.nn := by omega
                have HT : Hid (true = decide (SameH x y)) := by
                  show _ = _
                  rw [eq_comm, decide_eq_true_iff, HSH.out]
                  have h5 := HI.out
                  rw [List.take_of_length_le (by rw [HXN.out]; exact Nat.le_refl _), List.take_of_length_le (by rw [HYN.out, ← HEQ.out]; exact Nat.le_refl _)] at h5
                  exact ⟨Hh1.out, Hh2.out, Hh3.out, Hh4.out, h5⟩
                go_wp2
                go_ret
                exact HP.out true _ _ HT.out ⟨rfl, HB3.out⟩
          · have e5 : ((x.s.nn : Int) != (y.s.nn : Int)) = true := by rw [bne_iff_ne]; omega
            have e5' : (x.s.nn != y.s.nn) = true := by rw [bne_iff_ne]; omega
            have HF : Hid (false = decide (SameH x y)) := by show _ = _; rw [eq_comm, decide_eq_false_iff_not, HSH.out]; exact fun h => h5 (by rw [← HXN.out, ← HYN.out]; have := congrArg List.length h.2.2.2.2; simpa using this)
            clear h5
            go_wp2
            go_ret
            exact HP.out false _ _ HF.out ⟨rfl, HB2.out⟩
        · have e4 : (x.s.wt != y.s.wt) = true := by simpa using h4
          have HF : Hid (false = decide (SameH x y)) := by show _ = _; rw [eq_comm, decide_eq_false_iff_not, HSH.out]; exact fun h => h4 h.2.2.2.1
          clear h4
          go_wp2
          go_ret
          exact HP.out false _ _ HF.out ⟨rfl, HB2.out⟩
      · have e3 : (x.s.lf != y.s.lf) = true := by simpa using h3
        have HF : Hid (false = decide (SameH x y)) := by show _ = _; rw [eq_comm, decide_eq_false_iff_not, HSH.out]; exact fun h => h3 h.2.2.1
        clear h3
        go_wp2
        go_ret
        exact HP.out false _ _ HF.out ⟨rfl, HB2.out⟩
    · have e2 : (sx.toList == sy.toList) = false := by rw [HOE.out]; exact decide_eq_false h2
      have e2' : (sx.toList != sy.toList) = true := by rw [bne, e2]; rfl
      have HF : Hid (false = decide (SameH x y)) := by show _ = _; rw [eq_comm, decide_eq_false_iff_not, HSH.out]; exact fun h => h2 h.2.1
      clear h2
      go_wp2
      go_ret
      exact HP.out false _ _ HF.out ⟨rfl, HB2.out⟩
  · have e1 : (x.s.hi != y.s.hi) = true := by simpa using h1
    have HF : Hid (false = decide (SameH x y)) := by show _ = _; rw [eq_comm, decide_eq_false_iff_not, HSH.out]; exact fun h => h1 h.1
    clear h1
    go_wp2
    go_ret
    exact HP.out false _ _ HF.out ⟨rfl, HB2.out⟩

set_option maxRecDepth 100000 in
set_option maxHeartbeats 1600000 in
theorem rsameN_any (x y : Sx) (w : World) (hx : GoodX w x) (hy : GoodX w y) :
    Calls Tryd.prog 37 #[.agg (encN x.s).toArray, .agg (encN y.s).toArray] w (SamePost (decide (SameN x y)) w) := by
  have HP : Hid (∀ b e w', b = decide (SameN x y) → e = .returned (.bool b) ∧ Below w.heap.size w w' → SamePost (decide (SameN x y)) w e w') := fun b e w' hb h => by rw [← hb]; exact h
  have HSH : Hid (SameN x y = (x.s.i = y.s.i ∧ x.s.s = y.s.s ∧ x.s.c = y.s.c ∧ x.s.vs = y.s.vs ∧ x.s.tm = y.s.tm ∧ x.s.bg = y.s.bg ∧ x.s.su = y.s.su ∧ SameH x y)) := rfl
  have hb2 : Below w.heap.size w ((w.alloc (.cells (encN x.s).toArray 41)).alloc (.cells (encN y.s).toArray 41)) := below2 w _ _
  have HBX : Hid (Blk ((w.alloc (.cells (encN x.s).toArray 41)).alloc (.cells (encN y.s).toArray 41)) w.heap.size 41 (encN x.s).toArray) := (Blk.new' rfl : Blk _ _ _ _).alloc _
  have HBY : Hid (Blk ((w.alloc (.cells (encN x.s).toArray 41)).alloc (.cells (encN y.s).toArray 41)) (w.heap.size + 1) 41 (encN y.s).toArray) := Blk.new' (by simp)
  have HX := Lib.hid (hx.below hb2)
  have HY := Lib.hid (hy.below hb2)
  have hsz : ((w.alloc (.cells (encN x.s).toArray 41)).alloc (.cells (encN y.s).toArray 41)).heap.size = w.heap.size + 2 := by simp
  clear hx hy
  go_enter Tryd.func37, Tryd.ntmps37
  go_upto_region 1 with fail
  generalize ((w.alloc (.cells (encN x.s).toArray 41)).alloc (.cells (encN y.s).toArray 41)) = w2 at *
  have HB2 := Lib.hid hb2
  have a0 : w2.cell? ⟨w.heap.size, 0, none⟩ = some (.int .i64 x.s.i) := HBX.out.list0 rfl
  have b0 : w2.cell? ⟨w.heap.size + 1, 0, none⟩ = some (.int .i64 y.s.i) := HBY.out.list0 rfl
  have a1 : w2.cell? ⟨w.heap.size, 1, none⟩ = some (.int .i64 x.s.s) := HBX.out.list0 rfl
  have b1 : w2.cell? ⟨w.heap.size + 1, 1, none⟩ = some (.int .i64 y.s.s) := HBY.out.list0 rfl
  have a2 : w2.cell? ⟨w.heap.size, 14, none⟩ = some (.int .i64 x.s.tm) := HBX.out.list0 rfl
  have b2 : w2.cell? ⟨w.heap.size + 1, 14, none⟩ = some (.int .i64 y.s.tm) := HBY.out.list0 rfl
  have a3 : w2.cell? ⟨w.heap.size, 15, none⟩ = some (.bool x.s.bg) := HBX.out.list0 rfl
  have b3 : w2.cell? ⟨w.heap.size + 1, 15, none⟩ = some (.bool y.s.bg) := HBY.out.list0 rfl
  have a4 : w2.cell? ⟨w.heap.size, 16, none⟩ = some (.int .i64 x.s.su) := HBX.out.list0 rfl
  have b4 : w2.cell? ⟨w.heap.size + 1, 16, none⟩ = some (.int .i64 y.s.su) := HBY.out.list0 rfl
  have z1 : w.heap.size < w2.heap.size := by omega
  have z2 : w.heap.size + 1 < w2.heap.size := by omega
  clear hsz hb2
  by_cases h1 : x.s.i = y.s.i
  · have Hh1 := Lib.hid h1
    have e1 : (x.s.i == y.s.i) = true := by simpa using h1
    clear h1
    by_cases h2 : x.s.s = y.s.s
    · have Hh2 := Lib.hid h2
      have e2 : (x.s.s == y.s.s) = true := by simpa using h2
      clear h2
      by_cases h3 : x.s.c = y.s.c
      · have Hh3 := Lib.hid h3
        have e3 : decide (x.s.c = y.s.c) = true := decide_eq_true h3
        clear h3
        by_cases h4 : x.s.vs = y.s.vs
        · have Hh4 := Lib.hid h4
          have e4 : decide (x.s.vs = y.s.vs) = true := decide_eq_true h4
          clear h4
          by_cases h5 : x.s.tm = y.s.tm
          · have Hh5 := Lib.hid h5
            have e5 : (x.s.tm == y.s.tm) = true := by simpa using h5
            clear h5
            by_cases h6 : x.s.bg = y.s.bg
            · have Hh6 := Lib.hid h6
              have e6 : (x.s.bg == y.s.bg) = true := by simpa using h6
              clear h6
              by_cases h7 : x.s.su = y.s.su
              · have Hh7 := Lib.hid h7
                have e7 : (x.s.su == y.s.su) = true := by simpa using h7
                clear h7
                have hcon := rsameH_any x y w2 HX.out HY.out
                have HD : Hid (decide (SameH x y) = decide (SameN x y)) := by show _ = _; rw [Bool.eq_iff_iff, decide_eq_true_iff, decide_eq_true_iff, HSH.out]; exact ⟨fun h => ⟨Hh1.out, Hh2.out, Hh3.out, Hh4.out, Hh5.out, Hh6.out, Hh7.out, h⟩, fun h => h.2.2.2.2.2.2.2⟩
                rw [HD.out] at hcon
                go_wp2_with (first | (with_reducible show wpList _ _ _ (Oper.mk (some 19) _ _ _ _ _ :: _) _ _; refine wpList_loadW W31 rfl rfl (x := .tmp 18) rfl (encC x.s.c) rfl (HBX.out.sub (n_c _)) ?_) | (with_reducible show wpList _ _ _ (Oper.mk (some 21) _ _ _ _ _ :: _) _ _; refine wpList_loadW W31 rfl rfl (x := .tmp 20) rfl (encC y.s.c) rfl (HBY.out.sub (n_c _)) ?_) | (with_reducible show wpList _ _ _ (Oper.mk (some 26) _ _ _ _ _ :: _) _ _; refine wpList_loadW W33 rfl rfl (x := .tmp 25) rfl (encV x.s.vs) rfl (HBX.out.sub (n_v _)) ?_) | (with_reducible show wpList _ _ _ (Oper.mk (some 28) _ _ _ _ _ :: _) _ _; refine wpList_loadW W33 rfl rfl (x := .tmp 27) rfl (encV y.s.vs) rfl (HBY.out.sub (n_v _)) ?_) | (with_reducible show wpList _ _ _ (Oper.mk (some 54) _ _ _ _ _ :: _) _ _; refine wpList_loadW W37 rfl rfl (x := .tmp 53) rfl (encH x.s) rfl (HBX.out.sub (n_h _)) ?_) | (with_reducible show wpList _ _ _ (Oper.mk (some 56) _ _ _ _ _ :: _) _ _; refine wpList_loadW W37 rfl rfl (x := .tmp 55) rfl (encH y.s) rfl (HBY.out.sub (n_h _)) ?_) | (with_reducible show wpList _ _ _ (Oper.mk (some 22) _ _ _ _ _ :: _) _ _; refine wpList_val rfl (exec_eqlC rfl rfl rfl) ?_; go_must (rw [e3])) | (with_reducible show wpList _ _ _ (Oper.mk (some 29) _ _ _ _ _ :: _) _ _; refine wpList_val rfl (exec_eqlV rfl rfl rfl) ?_; go_must (rw [e4])) | (go_at_call 50; refine hcon.mono ?_; go_must (rintro e w3 ⟨rfl, hb⟩; have HB3 : Hid (Below w.heap.size w w3) := HB2.out.trans (hb.mono (by omega)); clear hb)))
                go_ret
                exact HP.out _ _ _ rfl ⟨rfl, HB3.out⟩
              · have e7 : (x.s.su == y.s.su) = false := by simpa using h7
                have HF : Hid (false = decide (SameN x y)) := by show _ = _; rw [eq_comm, decide_eq_false_iff_not, HSH.out]; exact fun h => h7 h.2.2.2.2.2.2.1
                clear h7
                go_wp2_with (first | (with_reducible show wpList _ _ _ (Oper.mk (some 53) _ _ _ _ _ :: _) _ _; refine (wpList_skipU rfl (wpList_skipU rfl (wpList_skipU rfl (wpList_skipU rfl (wpList_skipU rfl ?_)))))) | (with_reducible show wpList _ _ _ (Oper.mk (some 19) _ _ _ _ _ :: _) _ _; refine wpList_loadW W31 rfl rfl (x := .tmp 18) rfl (encC x.s.c) rfl (HBX.out.sub (n_c _)) ?_) | (with_reducible show wpList _ _ _ (Oper.mk (some 21) _ _ _ _ _ :: _) _ _; refine wpList_loadW W31 rfl rfl (x := .tmp 20) rfl (encC y.s.c) rfl (HBY.out.sub (n_c _)) ?_) | (with_reducible show wpList _ _ _ (Oper.mk (some 26) _ _ _ _ _ :: _) _ _; refine wpList_loadW W33 rfl rfl (x := .tmp 25) rfl (encV x.s.vs) rfl (HBX.out.sub (n_v _)) ?_) | (with_reducible show wpList _ _ _ (Oper.mk (some 28) _ _ _ _ _ :: _) _ _; refine wpList_loadW W33 rfl rfl (x := .tmp 27) rfl (encV y.s.vs) rfl (HBY.out.sub (n_v _)) ?_) | (with_reducible show wpList _ _ _ (Oper.mk (some 22) _ _ _ _ _ :: _) _ _; refine wpList_val rfl (exec_eqlC rfl rfl rfl) ?_; go_must (rw [e3])) | (with_reducible show wpList _ _ _ (Oper.mk (some 29) _ _ _ _ _ :: _) _ _; refine wpList_val rfl (exec_eqlV rfl rfl rfl) ?_; go_must (rw [e4])))
                go_ret
                exact HP.out false _ _ HF.out ⟨rfl, HB2.out⟩
            · have e6 : (x.s.bg == y.s.bg) = false := by simpa using h6
              have HF : Hid (false = decide (SameN x y)) := by show _ = _; rw [eq_comm, decide_eq_false_iff_not, HSH.out]; exact fun h => h6 h.2.2.2.2.2.1
              clear h6
              go_wp2_with (first | (with_reducible show wpList _ _ _ (Oper.mk (some 46) _ _ _ _ _ :: _) _ _; refine (wpList_skipU rfl (wpList_skipU rfl (wpList_skipU rfl (wpList_skipU rfl (wpList_skipU rfl ?_)))))) | (with_reducible show wpList _ _ _ (Oper.mk (some 53) _ _ _ _ _ :: _) _ _; refine (wpList_skipU rfl (wpList_skipU rfl (wpList_skipU rfl (wpList_skipU rfl (wpList_skipU rfl ?_)))))) | (with_reducible show wpList _ _ _ (Oper.mk (some 19) _ _ _ _ _ :: _) _ _; refine wpList_loadW W31 rfl rfl (x := .tmp 18) rfl (encC x.s.c) rfl (HBX.out.sub (n_c _)) ?_) | (with_reducible show wpList _ _ _ (Oper.mk (some 21) _ _ _ _ _ :: _) _ _; refine wpList_loadW W31 rfl rfl (x := .tmp 20) rfl (encC y.s.c) rfl (HBY.out.sub (n_c _)) ?_) | (with_reducible show wpList _ _ _ (Oper.mk (some 26) _ _ _ _ _ :: _) _ _; refine wpList_loadW W33 rfl rfl (x := .tmp 25) rfl (encV x.s.vs) rfl (HBX.out.sub (n_v _)) ?_) | (with_reducible show wpList _ _ _ (Oper.mk (some 28) _ _ _ _ _ :: _) _ _; refine wpList_loadW W33 rfl rfl (x := .tmp 27) rfl (encV y.s.vs) rfl (HBY.out.sub (n_v _)) ?_) | (with_reducible show wpList _ _ _ (Oper.mk (some 22) _ _ _ _ _ :: _) _ _; refine wpList_val rfl (exec_eqlC rfl rfl rfl) ?_; go_must (rw [e3])) | (with_reducible show wpList _ _ _ (Oper.mk (some 29) _ _ _ _ _ :: _) _ _; refine wpList_val rfl (exec_eqlV rfl rfl rfl) ?_; go_must (rw [e4])))
              go_ret
              exact HP.out false _ _ HF.out ⟨rfl, HB2.out⟩
          · have e5 : (x.s.tm == y.s.tm) = false := by simpa using h5
            have HF : Hid (false = decide (SameN x y)) := by show _ = _; rw [eq_comm, decide_eq_false_iff_not, HSH.out]; exact fun h => h5 h.2.2.2.2.1
            clear h5
            go_wp2_with (first | (with_reducible show wpList _ _ _ (Oper.mk (some 39) _ _ _ _ _ :: _) _ _; refine (wpList_skipU rfl (wpList_skipU rfl (wpList_skipU rfl (wpList_skipU rfl (wpList_skipU rfl ?_)))))) | (with_reducible show wpList _ _ _ (Oper.mk (some 46) _ _ _ _ _ :: _) _ _; refine (wpList_skipU rfl (wpList_skipU rfl (wpList_skipU rfl (wpList_skipU rfl (wpList_skipU rfl ?_)))))) | (with_reducible show wpList _ _ _ (Oper.mk (some 53) _ _ _ _ _ :: _) _ _; refine (wpList_skipU rfl (wpList_skipU rfl (wpList_skipU rfl (wpList_skipU rfl (wpList_skipU rfl ?_)))))) | (with_reducible show wpList _ _ _ (Oper.mk (some 19) _ _ _ _ _ :: _) _ _; refine wpList_loadW W31 rfl rfl (x := .tmp 18) rfl (encC x.s.c) rfl (HBX.out.sub (n_c _)) ?_) | (with_reducible show wpList _ _ _ (Oper.mk (some 21) _ _ _ _ _ :: _) _ _; refine wpList_loadW W31 rfl rfl (x := .tmp 20) rfl (encC y.s.c) rfl (HBY.out.sub (n_c _)) ?_) | (with_reducible show wpList _ _ _ (Oper.mk (some 26) _ _ _ _ _ :: _) _ _; refine wpList_loadW W33 rfl rfl (x := .tmp 25) rfl (encV x.s.vs) rfl (HBX.out.sub (n_v _)) ?_) | (with_reducible show wpList _ _ _ (Oper.mk (some 28) _ _ _ _ _ :: _) _ _; refine wpList_loadW W33 rfl rfl (x := .tmp 27) rfl (encV y.s.vs) rfl (HBY.out.sub (n_v _)) ?_) | (with_reducible show wpList _ _ _ (Oper.mk (some 22) _ _ _ _ _ :: _) _ _; refine wpList_val rfl (exec_eqlC rfl rfl rfl) ?_; go_must (rw [e3])) | (with_reducible show wpList _ _ _ (Oper.mk (some 29) _ _ _ _ _ :: _) _ _; refine wpList_val rfl (exec_eqlV rfl rfl rfl) ?_; go_must (rw [e4])))
            go_ret
            exact HP.out false _ _ HF.out ⟨rfl, HB2.out⟩
        · have e4 : decide (x.s.vs = y.s.vs) = false := decide_eq_false h4
          have HF : Hid (false = decide (SameN x y)) := by show _ = _; rw [eq_comm, decide_eq_false_iff_not, HSH.out]; exact fun h => h4 h.2.2.2.1
          clear h4
          go_wp2_with (first | (with_reducible show wpList _ _ _ (Oper.mk (some 32) _ _ _ _ _ :: _) _ _; refine (wpList_skipU rfl (wpList_skipU rfl (wpList_skipU rfl (wpList_skipU rfl (wpList_skipU rfl ?_)))))) | (with_reducible show wpList _ _ _ (Oper.mk (some 39) _ _ _ _ _ :: _) _ _; refine (wpList_skipU rfl (wpList_skipU rfl (wpList_skipU rfl (wpList_skipU rfl (wpList_skipU rfl ?_)))))) | (with_reducible show wpList _ _ _ (Oper.mk (some 46) _ _ _ _ _ :: _) _ _; refine (wpList_skipU rfl (wpList_skipU rfl (wpList_skipU rfl (wpList_skipU rfl (wpList_skipU rfl ?_)))))) | (with_reducible show wpList _ _ _ (Oper.mk (some 53) _ _ _ _ _ :: _) _ _; refine (wpList_skipU rfl (wpList_skipU rfl (wpList_skipU rfl (wpList_skipU rfl (wpList_skipU rfl ?_)))))) | (with_reducible show wpList _ _ _ (Oper.mk (some 19) _ _ _ _ _ :: _) _ _; refine wpList_loadW W31 rfl rfl (x := .tmp 18) rfl (encC x.s.c) rfl (HBX.out.sub (n_c _)) ?_) | (with_reducible show wpList _ _ _ (Oper.mk (some 21) _ _ _ _ _ :: _) _ _; refine wpList_loadW W31 rfl rfl (x := .tmp 20) rfl (encC y.s.c) rfl (HBY.out.sub (n_c _)) ?_) | (with_reducible show wpList _ _ _ (Oper.mk (some 26) _ _ _ _ _ :: _) _ _; refine wpList_loadW W33 rfl rfl (x := .tmp 25) rfl (encV x.s.vs) rfl (HBX.out.sub (n_v _)) ?_) | (with_reducible show wpList _ _ _ (Oper.mk (some 28) _ _ _ _ _ :: _) _ _; refine wpList_loadW W33 rfl rfl (x := .tmp 27) rfl (encV y.s.vs) rfl (HBY.out.sub (n_v _)) ?_) | (with_reducible show wpList _ _ _ (Oper.mk (some 22) _ _ _ _ _ :: _) _ _; refine wpList_val rfl (exec_eqlC rfl rfl rfl) ?_; go_must (rw [e3])) | (with_reducible show wpList _ _ _ (Oper.mk (some 29) _ _ _ _ _ :: _) _ _; refine wpList_val rfl (exec_eqlV rfl rfl rfl) ?_; go_must (rw [e4])))
          go_ret
          exact HP.out false _ _ HF.out ⟨rfl, HB2.out⟩
      · have e3 : decide (x.s.c = y.s.c) = false := decide_eq_false h3
        have HF : Hid (false = decide (SameN x y)) := by show _ = _; rw [eq_comm, decide_eq_false_iff_not, HSH.out]; exact fun h => h3 h.2.2.1
        clear h3
        go_wp2_with (first | (with_reducible show wpList _ _ _ (Oper.mk (some 25) _ _ _ _ _ :: _) _ _; refine (wpList_skipU rfl (wpList_skipU rfl (wpList_skipU rfl (wpList_skipU rfl (wpList_skipU rfl ?_)))))) | (with_reducible show wpList _ _ _ (Oper.mk (some 32) _ _ _ _ _ :: _) _ _; refine (wpList_skipU rfl (wpList_skipU rfl (wpList_skipU rfl (wpList_skipU rfl (wpList_skipU rfl ?_)))))) | (with_reducible show wpList _ _ _ (Oper.mk (some 39) _ _ _ _ _ :: _) _ _; refine (wpList_skipU rfl (wpList_skipU rfl (wpList_skipU rfl (wpList_skipU rfl (wpList_skipU rfl ?_)))))) | (with_reducible show wpList _ _ _ (Oper.mk (some 46) _ _ _ _ _ :: _) _ _; refine (wpList_skipU rfl (wpList_skipU rfl (wpList_skipU rfl (wpList_skipU rfl (wpList_skipU rfl ?_)))))) | (with_reducible show wpList _ _ _ (Oper.mk (some 53) _ _ _ _ _ :: _) _ _; refine (wpList_skipU rfl (wpList_skipU rfl (wpList_skipU rfl (wpList_skipU rfl (wpList_skipU rfl ?_)))))) | (with_reducible show wpList _ _ _ (Oper.mk (some 19) _ _ _ _ _ :: _) _ _; refine wpList_loadW W31 rfl rfl (x := .tmp 18) rfl (encC x.s.c) rfl (HBX.out.sub (n_c _)) ?_) | (with_reducible show wpList _ _ _ (Oper.mk (some 21) _ _ _ _ _ :: _) _ _; refine wpList_loadW W31 rfl rfl (x := .tmp 20) rfl (encC y.s.c) rfl (HBY.out.sub (n_c _)) ?_) | (with_reducible show wpList _ _ _ (Oper.mk (some 22) _ _ _ _ _ :: _) _ _; refine wpList_val rfl (exec_eqlC rfl rfl rfl) ?_; go_must (rw [e3])))
        go_ret
        exact HP.out false _ _ HF.out ⟨rfl, HB2.out⟩
    · have e2 : (x.s.s == y.s.s) = false := by simpa using h2
      have HF : Hid (false = decide (SameN x y)) := by show _ = _; rw [eq_comm, decide_eq_false_iff_not, HSH.out]; exact fun h => h2 h.2.1
      clear h2
      go_wp2_with (first | (with_reducible show wpList _ _ _ (Oper.mk (some 18) _ _ _ _ _ :: _) _ _; refine (wpList_skipU rfl (wpList_skipU rfl (wpList_skipU rfl (wpList_skipU rfl (wpList_skipU rfl ?_)))))) | (with_reducible show wpList _ _ _ (Oper.mk (some 25) _ _ _ _ _ :: _) _ _; refine (wpList_skipU rfl (wpList_skipU rfl (wpList_skipU rfl (wpList_skipU rfl (wpList_skipU rfl ?_)))))) | (with_reducible show wpList _ _ _ (Oper.mk (some 32) _ _ _ _ _ :: _) _ _; refine (wpList_skipU rfl (wpList_skipU rfl (wpList_skipU rfl (wpList_skipU rfl (wpList_skipU rfl ?_)))))) | (with_reducible show wpList _ _ _ (Oper.mk (some 39) _ _ _ _ _ :: _) _ _; refine (wpList_skipU rfl (wpList_skipU rfl (wpList_skipU rfl (wpList_skipU rfl (wpList_skipU rfl ?_)))))) | (with_reducible show wpList _ _ _ (Oper.mk (some 46) _ _ _ _ _ :: _) _ _; refine (wpList_skipU rfl (wpList_skipU rfl (wpList_skipU rfl (wpList_skipU rfl (wpList_skipU rfl ?_)))))) | (with_reducible show wpList _ _ _ (Oper.mk (some 53) _ _ _ _ _ :: _) _ _; refine (wpList_skipU rfl (wpList_skipU rfl (wpList_skipU rfl (wpList_skipU rfl (wpList_skipU rfl ?_)))))))
      go_ret
      exact HP.out false _ _ HF.out ⟨rfl, HB2.out⟩
  · have e1 : (x.s.i == y.s.i) = false := by simpa using h1
    have HF : Hid (false = decide (SameN x y)) := by show _ = _; rw [eq_comm, decide_eq_false_iff_not, HSH.out]; exact fun h => h1 h.1
    clear h1
    go_wp2_with (first | (with_reducible show wpList _ _ _ (Oper.mk (some 11) _ _ _ _ _ :: _) _ _; refine (wpList_skipU rfl (wpList_skipU rfl (wpList_skipU rfl (wpList_skipU rfl (wpList_skipU rfl ?_)))))) | (with_reducible show wpList _ _ _ (Oper.mk (some 18) _ _ _ _ _ :: _) _ _; refine (wpList_skipU rfl (wpList_skipU rfl (wpList_skipU rfl (wpList_skipU rfl (wpList_skipU rfl ?_)))))) | (with_reducible show wpList _ _ _ (Oper.mk (some 25) _ _ _ _ _ :: _) _ _; refine (wpList_skipU rfl (wpList_skipU rfl (wpList_skipU rfl (wpList_skipU rfl (wpList_skipU rfl ?_)))))) | (with_reducible show wpList _ _ _ (Oper.mk (some 32) _ _ _ _ _ :: _) _ _; refine (wpList_skipU rfl (wpList_skipU rfl (wpList_skipU rfl (wpList_skipU rfl (wpList_skipU rfl ?_)))))) | (with_reducible show wpList _ _ _ (Oper.mk (some 39) _ _ _ _ _ :: _) _ _; refine (wpList_skipU rfl (wpList_skipU rfl (wpList_skipU rfl (wpList_skipU rfl (wpList_skipU rfl ?_)))))) | (with_reducible show wpList _ _ _ (Oper.mk (some 46) _ _ _ _ _ :: _) _ _; refine (wpList_skipU rfl (wpList_skipU rfl (wpList_skipU rfl (wpList_skipU rfl (wpList_skipU rfl ?_)))))) | (with_reducible show wpList _ _ _ (Oper.mk (some 53) _ _ _ _ _ :: _) _ _; refine (wpList_skipU rfl (wpList_skipU rfl (wpList_skipU rfl (wpList_skipU rfl (wpList_skipU rfl ?_)))))))
    go_ret
    exact HP.out false _ _ HF.out ⟨rfl, HB2.out⟩

set_option maxRecDepth 100000 in
set_option maxHeartbeats 1600000 in
theorem rsameS_any (x y : Sx) (w : World) (hx : GoodX w x) (hy : GoodX w y) :
    Calls Tryd.prog 23 #[.agg (encS x.s).toArray, .agg (encS y.s).toArray] w (SamePost (decide (SameS x y)) w) := by
  have HP : Hid (∀ b e w', b = decide (SameS x y) → e = .returned (.bool b) ∧ Below w.heap.size w w' → SamePost (decide (SameS x y)) w e w') := fun b e w' hb h => by rw [← hb]; exact h
  have HSH : Hid (SameS x y = (x.s.r = y.s.r ∧ SameN x y)) := rfl
  have hb2 : Below w.heap.size w ((w.alloc (.cells (encS x.s).toArray 43)).alloc (.cells (encS y.s).toArray 43)) := below2 w _ _
  have HBX : Hid (Blk ((w.alloc (.cells (encS x.s).toArray 43)).alloc (.cells (encS y.s).toArray 43)) w.heap.size 43 (encS x.s).toArray) := (Blk.new' rfl : Blk _ _ _ _).alloc _
  have HBY : Hid (Blk ((w.alloc (.cells (encS x.s).toArray 43)).alloc (.cells (encS y.s).toArray 43)) (w.heap.size + 1) 43 (encS y.s).toArray) := Blk.new' (by simp)
  have HX := Lib.hid (hx.below hb2)
  have HY := Lib.hid (hy.below hb2)
  have hsz : ((w.alloc (.cells (encS x.s).toArray 43)).alloc (.cells (encS y.s).toArray 43)).heap.size = w.heap.size + 2 := by simp
  clear hx hy
  go_enter Tryd.func23, Tryd.ntmps23
  go_upto_region 1 with fail
  generalize ((w.alloc (.cells (encS x.s).toArray 43)).alloc (.cells (encS y.s).toArray 43)) = w2 at *
  have HB2 := Lib.hid hb2
  have a0 : w2.cell? ⟨w.heap.size, 0, none⟩ = some (.int .i64 x.s.r) := HBX.out.list0 rfl
  have b0 : w2.cell? ⟨w.heap.size + 1, 0, none⟩ = some (.int .i64 y.s.r) := HBY.out.list0 rfl
  have z1 : w.heap.size < w2.heap.size := by omega
  have z2 : w.heap.size + 1 < w2.heap.size := by omega
  clear hsz hb2
  by_cases h1 : x.s.r = y.s.r
  · have Hh1 := Lib.hid h1
    have e1 : (x.s.r == y.s.r) = true := by simpa using h1
    clear h1
    have hcon := rsameN_any x y w2 HX.out HY.out
    have HD : Hid (decide (SameN x y) = decide (SameS x y)) := by show _ = _; rw [Bool.eq_iff_iff, decide_eq_true_iff, decide_eq_true_iff, HSH.out]; exact ⟨fun h => ⟨Hh1.out, h⟩, fun h => h.2⟩
    rw [HD.out] at hcon
    go_wp2_with (first | (with_reducible show wpList _ _ _ (Oper.mk (some 12) _ _ _ _ _ :: _) _ _; refine wpList_loadW W39 rfl rfl (x := .tmp 11) rfl (encN x.s) rfl (HBX.out.sub (s_n _)) ?_) | (with_reducible show wpList _ _ _ (Oper.mk (some 14) _ _ _ _ _ :: _) _ _; refine wpList_loadW W39 rfl rfl (x := .tmp 13) rfl (encN y.s) rfl (HBY.out.sub (s_n _)) ?_) | (go_at_call 37; refine hcon.mono ?_; go_must (rintro e w3 ⟨rfl, hb⟩; have HB3 : Hid (Below w.heap.size w w3) := HB2.out.trans (hb.mono (by omega)); clear hb)))
    go_ret
    exact HP.out _ _ _ rfl ⟨rfl, HB3.out⟩
  · have e1 : (x.s.r == y.s.r) = false := by simpa using h1
    have HF : Hid (false = decide (SameS x y)) := by show _ = _; rw [eq_comm, decide_eq_false_iff_not, HSH.out]; exact fun h => h1 h.1
    clear h1
    go_wp2_with (first | (with_reducible show wpList _ _ _ (Oper.mk (some 11) _ _ _ _ _ :: _) _ _; refine (wpList_skipU rfl (wpList_skipU rfl (wpList_skipU rfl (wpList_skipU rfl (wpList_skipU rfl ?_)))))))
    go_ret
    exact HP.out false _ _ HF.out ⟨rfl, HB2.out⟩
end Go.Proofs.YtjaaldeaknmmbaaDoor
