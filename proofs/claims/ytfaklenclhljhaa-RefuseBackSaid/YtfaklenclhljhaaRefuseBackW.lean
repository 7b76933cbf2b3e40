/- The walk of the law 'RefuseBack': it returns true. Conditions: the arguments read as a message, an int and a list of bytes. -/
import Derived.Test.YtfaklenclhljhaaMsgA
import Derived.Test.YtfaklenclhljhaaSameB
import Derived.Test.YtfaklenclhljhaaRfE
namespace Go.Proofs.Ytfaklenclhljhaa
open Go.RowKit
set_option maxRecDepth 100000
set_option maxHeartbeats 4000000

/-- The empty lists. -/
abbrev L0 : Lens := ⟨none, 0, 0, none, 0, 0, none, 0, 0, none, 0, 0, none, 0, 0, none, 0, 0, none, 0, 0, none, 0, 0, none, 0, 0, 0, 0⟩
theorem same_msgX (ty xid : Int) (va vb da db : Value) (l ds : List Int) (K : Lens) (w : World) (hK : bareL K = true) (h1 : Ints .u64 w va l) (h2 : Ints .u64 w vb l) (h3 : Ints .u8 w da ds) (h4 : Ints .u8 w db ds) :
    Calls Try.prog 19 #[.agg (msgX ty xid va da), .agg (msgL ty xid vb db K)] w fun e w' => e = .returned (.bool true) ∧ Below w.heap.size w w' :=
  same_msgL ty xid va vb da db l ds L0 K w rfl hK h1 h2 h3 h4
theorem body_nil (ty xid : Int) (v vd : Value) (nums ds : List Int) (w : World) (h : Ints .u64 w v nums) (hd : Ints .u8 w vd ds) (hl : ds.length ≤ 3000) :
    Calls Try.prog 21 #[.agg (msgX ty xid v vd)] w fun e w' => ∃ vb, e = .returned (.tuple #[vb, .int .i64 (bodyR ty nums ds true).2]) ∧ Ints .u8 w' vb (bodyR ty nums ds true).1 ∧ Below w.heap.size w w' :=
  refuse_body ty xid v vd nums ds L0 w h hd hl

theorem pb_few (v : Value) (m : MsgV) (t : Int) (v3 : Value) (bs : List Int) (w : World) (h1 : MsgOk w v m) (_h2 : (Lit.int .i64 t).wf = true) (h3 : Ints .u8 w v3 bs) (g1 : 2500 < bs.length) :
    Calls Try.prog 9 #[v, .int .i64 t, v3] w fun e w' => e = .returned (.bool true) ∧ Below w.heap.size w w' := by
  have HFw := fun (w' : World) (hb : Below w.heap.size w w') => Lib.hid (few_msg (h1.since hb))
  obtain ⟨an, cn, ad, cd, rfl, hn, hd⟩ := h1.cut
  have H2 := Lib.hid h3
  obtain ⟨a2, cap2, b2, off2, rfl, -⟩ := h3.open
  have HN := Lib.hid hn
  have HD := Lib.hid hd
  have HU := Lib.hid hn.u64
  have HF := HFw (w.alloc (.cells (msgL m.ty m.xid (.slice an m.nums.length cn) (.slice ad m.ds.length cd) m.L) 35)) (below_alloc2 _)
  clear hn hd h3
  go_enter Try.func9, Try.ntmps9
  go_wp2_with fail
  (with_reducible refine HF.out.mono ?_)
  rintro e w1 ⟨⟨bf, rfl, hbf⟩, hb⟩
  have HB1 := Lib.hid (below1 hb)
  have HH1 := Lib.hid ((hb.block w.heap.size (by simp)).trans (heap_alloc_new _ _))
  clear hb
  cases bf
  case false =>
    go_wp2_with fail
    (with_reducible refine (sure26 _).mono ?_)
    rintro e w2 ⟨rfl, hb⟩
    have HB2 := Lib.hid (HB1.out.trans (hb.mono HB1.out.size))
    clear hb
    go_wp2_with fail
    go_ret
    exact ⟨rfl, HB2.out⟩
  go_wp2_with fail
  (with_reducible refine (sure26 _).mono ?_)
  rintro e w2 ⟨rfl, hb⟩
  have HB2 := Lib.hid (HB1.out.trans (hb.mono HB1.out.size))
  clear hb
  go_wp2_with fail
  go_ret
  exact ⟨rfl, HB2.out⟩

theorem pb_a (v : Value) (m : MsgV) (t : Int) (v3 : Value) (bs : List Int) (w : World) (h1 : MsgOk w v m) (_h2 : (Lit.int .i64 t).wf = true) (h3 : Ints .u8 w v3 bs) (g1 : ¬ 2500 < bs.length) (hbd : bodyR m.ty m.nums m.ds (bareL m.L) = ([], 10001)) (er : Int) (her : er ≠ 0) (hrd : readR t bs = ((0, [], []), er)) :
    Calls Try.prog 9 #[v, .int .i64 t, v3] w fun e w' => e = .returned (.bool true) ∧ Below w.heap.size w w' := by
  have HFw := fun (w' : World) (hb : Below w.heap.size w w') => Lib.hid (few_msg (h1.since hb))
  obtain ⟨an, cn, ad, cd, rfl, hn, hd⟩ := h1.cut
  have H2 := Lib.hid h3
  obtain ⟨a2, cap2, b2, off2, rfl, -⟩ := h3.open
  have HN := Lib.hid hn
  have HD := Lib.hid hd
  have HU := Lib.hid hn.u64
  have HF := HFw (w.alloc (.cells (msgL m.ty m.xid (.slice an m.nums.length cn) (.slice ad m.ds.length cd) m.L) 35)) (below_alloc2 _)
  clear hn hd h3
  go_enter Try.func9, Try.ntmps9
  go_wp2_with fail
  (with_reducible refine HF.out.mono ?_)
  rintro e w1 ⟨⟨bf, rfl, hbf⟩, hb⟩
  have HB1 := Lib.hid (below1 hb)
  have HH1 := Lib.hid ((hb.block w.heap.size (by simp)).trans (heap_alloc_new _ _))
  clear hb
  cases bf
  case false =>
    go_wp2_with fail
    (with_reducible refine (sure26 _).mono ?_)
    rintro e w2 ⟨rfl, hb⟩
    have HB2 := Lib.hid (HB1.out.trans (hb.mono HB1.out.size))
    clear hb
    go_wp2_with fail
    go_ret
    exact ⟨rfl, HB2.out⟩
  have k0 := cell_heap HH1.out 0
  have k1 := cell_heap HH1.out 1
  have k2 := cell_heap HH1.out 2
  have k3 := cell_heap HH1.out 3
  have k4 := cell_heap HH1.out 4
  have k5 := cell_heap HH1.out 5
  have k6 := cell_heap HH1.out 6
  have k7 := cell_heap HH1.out 7
  have k8 := cell_heap HH1.out 8
  have k9 := cell_heap HH1.out 9
  have k10 := cell_heap HH1.out 10
  have k11 := cell_heap HH1.out 11
  have k12 := cell_heap HH1.out 12
  have k13 := cell_heap HH1.out 13
  have k14 := cell_heap HH1.out 14
  have hle := hbf rfl
  have HP := Lib.hid (refuse_body m.ty m.xid _ _ m.nums m.ds m.L w1 (HN.out.below HB1.out) (HD.out.below HB1.out) hle.2)
  rw [hbd] at HP
  go_wp2_with fail
  (with_reducible refine HP.out.mono ?_)
  rintro e w2 ⟨vb, rfl, hv, hb⟩
  have HV2 := Lib.hid hv
  have HB2 := Lib.hid (HB1.out.trans (hb.mono HB1.out.size))
  have HH2 := Lib.hid ((hb.block w.heap.size (Array.getElem?_eq_some_iff.1 HH1.out).1).trans HH1.out)
  obtain ⟨av, cv, bv, ov, rfl, -⟩ := hv.open
  clear hb hv
  clear k0 k1 k2 k3 k4 k5 k6 k7 k8 k9 k10 k11 k12 k13 k14
  have HQ := Lib.hid (refuse_read t _ bs w2 (H2.out.below HB2.out) (by omega))
  rw [hrd] at HQ
  go_wp2_with fail
  (with_reducible refine HQ.out.mono ?_)
  rintro e wb ⟨vq, vs, rfl, hq, hs, hb⟩
  have HQb := Lib.hid hq
  have HSb := Lib.hid hs
  obtain ⟨aq, cq, bq, oq, rfl, -⟩ := hq.open
  obtain ⟨asl, cs, bss, ofs, rfl, -⟩ := hs.open
  have HBb := Lib.hid (HB2.out.trans (hb.mono HB2.out.size))
  clear hb hq hs
  have hne : (er != 0) = true := (by simp [her])
  have HQb : Hid (Ints .u64 wb (.slice aq 0 cq) []) := HQb.out
  have HSb : Hid (Ints .u8 wb (.slice asl 0 cs) []) := HSb.out
  go_wp2_with fail
  (with_reducible refine (same_msg 0 (.slice aq 0 cq) _ (.slice asl 0 cs) _ [] [] _ (HQb.out.alloc _) (Ints.nil _ _) (HSb.out.alloc _) (Ints.nil _ _)).mono ?_)
  rintro e wc ⟨rfl, hb⟩
  have HBc := Lib.hid (HBb.out.trans ((below1 hb).mono HBb.out.size))
  clear hb
  go_wp2_with fail
  (with_reducible refine (sure26 _).mono ?_)
  rintro e wd ⟨rfl, hb⟩
  have HBd := Lib.hid (HBc.out.trans (hb.mono HBc.out.size))
  clear hb
  go_wp2_with fail
  go_ret
  exact ⟨rfl, HBd.out⟩

theorem pb_b (v : Value) (m : MsgV) (t : Int) (v3 : Value) (bs : List Int) (w : World) (h1 : MsgOk w v m) (_h2 : (Lit.int .i64 t).wf = true) (h3 : Ints .u8 w v3 bs) (g1 : ¬ 2500 < bs.length) (hbd : bodyR m.ty m.nums m.ds (bareL m.L) = ([], 10001)) (l dl : List Int) (hrd : readR t bs = ((t, l, dl), 0)) (hbl : bodyR t l dl true = (bs, 0)) (hdl : dl.length ≤ bs.length) :
    Calls Try.prog 9 #[v, .int .i64 t, v3] w fun e w' => e = .returned (.bool true) ∧ Below w.heap.size w w' := by
  have HFw := fun (w' : World) (hb : Below w.heap.size w w') => Lib.hid (few_msg (h1.since hb))
  obtain ⟨an, cn, ad, cd, rfl, hn, hd⟩ := h1.cut
  have H2 := Lib.hid h3
  obtain ⟨a2, cap2, b2, off2, rfl, -⟩ := h3.open
  have HN := Lib.hid hn
  have HD := Lib.hid hd
  have HU := Lib.hid hn.u64
  have HF := HFw (w.alloc (.cells (msgL m.ty m.xid (.slice an m.nums.length cn) (.slice ad m.ds.length cd) m.L) 35)) (below_alloc2 _)
  clear hn hd h3
  go_enter Try.func9, Try.ntmps9
  go_wp2_with fail
  (with_reducible refine HF.out.mono ?_)
  rintro e w1 ⟨⟨bf, rfl, hbf⟩, hb⟩
  have HB1 := Lib.hid (below1 hb)
  have HH1 := Lib.hid ((hb.block w.heap.size (by simp)).trans (heap_alloc_new _ _))
  clear hb
  cases bf
  case false =>
    go_wp2_with fail
    (with_reducible refine (sure26 _).mono ?_)
    rintro e w2 ⟨rfl, hb⟩
    have HB2 := Lib.hid (HB1.out.trans (hb.mono HB1.out.size))
    clear hb
    go_wp2_with fail
    go_ret
    exact ⟨rfl, HB2.out⟩
  have k0 := cell_heap HH1.out 0
  have k1 := cell_heap HH1.out 1
  have k2 := cell_heap HH1.out 2
  have k3 := cell_heap HH1.out 3
  have k4 := cell_heap HH1.out 4
  have k5 := cell_heap HH1.out 5
  have k6 := cell_heap HH1.out 6
  have k7 := cell_heap HH1.out 7
  have k8 := cell_heap HH1.out 8
  have k9 := cell_heap HH1.out 9
  have k10 := cell_heap HH1.out 10
  have k11 := cell_heap HH1.out 11
  have k12 := cell_heap HH1.out 12
  have k13 := cell_heap HH1.out 13
  have k14 := cell_heap HH1.out 14
  have hle := hbf rfl
  have HP := Lib.hid (refuse_body m.ty m.xid _ _ m.nums m.ds m.L w1 (HN.out.below HB1.out) (HD.out.below HB1.out) hle.2)
  rw [hbd] at HP
  go_wp2_with fail
  (with_reducible refine HP.out.mono ?_)
  rintro e w2 ⟨vb, rfl, hv, hb⟩
  have HV2 := Lib.hid hv
  have HB2 := Lib.hid (HB1.out.trans (hb.mono HB1.out.size))
  have HH2 := Lib.hid ((hb.block w.heap.size (Array.getElem?_eq_some_iff.1 HH1.out).1).trans HH1.out)
  obtain ⟨av, cv, bv, ov, rfl, -⟩ := hv.open
  clear hb hv
  clear k0 k1 k2 k3 k4 k5 k6 k7 k8 k9 k10 k11 k12 k13 k14
  have HQ := Lib.hid (refuse_read t _ bs w2 (H2.out.below HB2.out) (by omega))
  rw [hrd] at HQ
  go_wp2_with fail
  (with_reducible refine HQ.out.mono ?_)
  rintro e wb ⟨vq, vs, rfl, hq, hs, hb⟩
  have HQb := Lib.hid hq
  have HSb := Lib.hid hs
  obtain ⟨aq, cq, bq, oq, rfl, -⟩ := hq.open
  obtain ⟨asl, cs, bss, ofs, rfl, -⟩ := hs.open
  have HBb := Lib.hid (HB2.out.trans (hb.mono HB2.out.size))
  clear hb hq hs
  have HP := Lib.hid (body_nil t 0 (.slice aq l.length cq) (.slice asl dl.length cs) l dl (wb.alloc (.cells (msgA t (.slice aq l.length cq) (.slice asl dl.length cs)) 35)) (HQb.out.alloc _) (HSb.out.alloc _) (by omega))
  rw [hbl] at HP
  have hx : ((0 : Int) == 0) = true := rfl
  have ht : (t == t) = true := (by simp)
  go_wp2_with fail
  (with_reducible refine HP.out.mono ?_)
  rintro e wc ⟨vx, rfl, hv, hb⟩
  have HXc := Lib.hid hv
  have HOc := Lib.hid ((hb.block wb.heap.size (by simp)).trans (heap_alloc_new _ _))
  have j0 := cell_heap HOc.out 0
  have j1 := cell_heap HOc.out 1
  have HBc := Lib.hid (HBb.out.trans ((below1 hb).mono HBb.out.size))
  obtain ⟨ax, cx, bx, ox, rfl, -⟩ := hv.open
  have HYt := Lib.hid (bytes_same HXc.out (H2.out.below HBc.out))
  clear hb hv
  go_wp2_with fail
  (with_reducible refine HYt.out.mono ?_)
  rintro e wd ⟨rfl, hb⟩
  have HBd := Lib.hid (HBc.out.trans (hb.mono HBc.out.size))
  clear hb
  go_wp2_with fail
  (with_reducible refine (sure26 _).mono ?_)
  rintro e wf ⟨rfl, hb⟩
  have HBf := Lib.hid (HBd.out.trans (hb.mono HBd.out.size))
  clear hb
  go_wp2_with fail
  go_ret
  exact ⟨rfl, HBf.out⟩

theorem pb_c (v : Value) (m : MsgV) (t : Int) (v3 : Value) (bs : List Int) (w : World) (h1 : MsgOk w v m) (_h2 : (Lit.int .i64 t).wf = true) (h3 : Ints .u8 w v3 bs) (g1 : ¬ 2500 < bs.length) (bs1 : List Int) (hbd : bodyR m.ty m.nums m.ds (bareL m.L) = (bs1, 0)) (hl1 : m.ds.length ≤ 3000 → bs1.length ≤ 60000) (hbare : bareL m.L = true) (hrow : (rowR m.ty).2 = true) (hwr : readR m.ty bs1 = ((m.ty, m.nums, m.ds), 0)) (er : Int) (her : er ≠ 0) (hrd : readR t bs = ((0, [], []), er)) :
    Calls Try.prog 9 #[v, .int .i64 t, v3] w fun e w' => e = .returned (.bool true) ∧ Below w.heap.size w w' := by
  have HFw := fun (w' : World) (hb : Below w.heap.size w w') => Lib.hid (few_msg (h1.since hb))
  obtain ⟨an, cn, ad, cd, rfl, hn, hd⟩ := h1.cut
  have H2 := Lib.hid h3
  obtain ⟨a2, cap2, b2, off2, rfl, -⟩ := h3.open
  have HN := Lib.hid hn
  have HD := Lib.hid hd
  have HU := Lib.hid hn.u64
  have HF := HFw (w.alloc (.cells (msgL m.ty m.xid (.slice an m.nums.length cn) (.slice ad m.ds.length cd) m.L) 35)) (below_alloc2 _)
  clear hn hd h3
  go_enter Try.func9, Try.ntmps9
  go_wp2_with fail
  (with_reducible refine HF.out.mono ?_)
  rintro e w1 ⟨⟨bf, rfl, hbf⟩, hb⟩
  have HB1 := Lib.hid (below1 hb)
  have HH1 := Lib.hid ((hb.block w.heap.size (by simp)).trans (heap_alloc_new _ _))
  clear hb
  cases bf
  case false =>
    go_wp2_with fail
    (with_reducible refine (sure26 _).mono ?_)
    rintro e w2 ⟨rfl, hb⟩
    have HB2 := Lib.hid (HB1.out.trans (hb.mono HB1.out.size))
    clear hb
    go_wp2_with fail
    go_ret
    exact ⟨rfl, HB2.out⟩
  have k0 := cell_heap HH1.out 0
  have k1 := cell_heap HH1.out 1
  have k2 := cell_heap HH1.out 2
  have k3 := cell_heap HH1.out 3
  have k4 := cell_heap HH1.out 4
  have k5 := cell_heap HH1.out 5
  have k6 := cell_heap HH1.out 6
  have k7 := cell_heap HH1.out 7
  have k8 := cell_heap HH1.out 8
  have k9 := cell_heap HH1.out 9
  have k10 := cell_heap HH1.out 10
  have k11 := cell_heap HH1.out 11
  have k12 := cell_heap HH1.out 12
  have k13 := cell_heap HH1.out 13
  have k14 := cell_heap HH1.out 14
  have hle := hbf rfl
  have HP := Lib.hid (refuse_body m.ty m.xid _ _ m.nums m.ds m.L w1 (HN.out.below HB1.out) (HD.out.below HB1.out) hle.2)
  rw [hbd] at HP
  go_wp2_with fail
  (with_reducible refine HP.out.mono ?_)
  rintro e w2 ⟨vb, rfl, hv, hb⟩
  have HV2 := Lib.hid hv
  have HB2 := Lib.hid (HB1.out.trans (hb.mono HB1.out.size))
  have HH2 := Lib.hid ((hb.block w.heap.size (Array.getElem?_eq_some_iff.1 HH1.out).1).trans HH1.out)
  obtain ⟨av, cv, bv, ov, rfl, -⟩ := hv.open
  clear hb hv
  clear k0 k1 k2 k3 k4 k5 k6 k7 k8 k9 k10 k11 k12 k13 k14
  have c0 := cell_heap HH2.out 0
  have HRd := Lib.hid (refuse_read m.ty _ bs1 w2 HV2.out (hl1 hle.2))
  rw [hwr] at HRd
  go_wp2_with fail
  (with_reducible refine HRd.out.mono ?_)
  rintro e w3 ⟨vr, vs, rfl, hr, hs, hb⟩
  have HR3 := Lib.hid hr
  have HS3 := Lib.hid hs
  have HB3 := Lib.hid (HB2.out.trans (hb.mono HB2.out.size))
  have HH3 := Lib.hid ((hb.block w.heap.size (Array.getElem?_eq_some_iff.1 HH2.out).1).trans HH2.out)
  have hs3 : Hid (w.heap.size < w3.heap.size) := (Array.getElem?_eq_some_iff.1 HH3.out).1
  obtain ⟨ar, cr, br, or, rfl, -⟩ := hr.open
  obtain ⟨asl, cs, bss, ofs, rfl, -⟩ := hs.open
  clear hb hr hs c0
  have HMa := Lib.hid (((below_alloc2 (w := w3) (.cells (msgA m.ty (.slice ar m.nums.length cr) (.slice asl m.ds.length cs)) 35)).block w.heap.size hs3.out).trans HH3.out)
  have c1 := cell_heap HMa.out 1
  have HB4 : Hid (Below w.heap.size w (w3.alloc (.cells (msgX m.ty m.xid (.slice ar m.nums.length cr) (.slice asl m.ds.length cs)) 35))) := HB3.out.alloc HB3.out.size _
  have HM4 := Lib.hid (((below_alloc2 (w := w3) (.cells (msgX m.ty m.xid (.slice ar m.nums.length cr) (.slice asl m.ds.length cs)) 35)).block w.heap.size hs3.out).trans HH3.out)
  have HO4 := Lib.hid (heap_alloc_new w3 (.cells (msgX m.ty m.xid (.slice ar m.nums.length cr) (.slice asl m.ds.length cs)) 35))
  have HR4 := Lib.hid (HR3.out.alloc (.cells (msgX m.ty m.xid (.slice ar m.nums.length cr) (.slice asl m.ds.length cs)) 35))
  have HS4 := Lib.hid (HS3.out.alloc (.cells (msgX m.ty m.xid (.slice ar m.nums.length cr) (.slice asl m.ds.length cs)) 35))
  have c0 := cell_heap HM4.out 0
  have HHas := Lib.hid (refuse_has m.ty (w3.alloc (.cells (msgX m.ty m.xid (.slice ar m.nums.length cr) (.slice asl m.ds.length cs)) 35)))
  rw [hrow] at HHas
  go_wp2_with fail
  (with_reducible refine HHas.out.mono ?_)
  rintro e w5 ⟨rfl, hb⟩
  have HB5 := Lib.hid (HB4.out.trans (hb.mono HB4.out.size))
  have HM5 := Lib.hid ((hb.block w.heap.size (by have := hs3.out; simp; omega)).trans HM4.out)
  have HO5 := Lib.hid ((hb.block w3.heap.size (by simp)).trans HO4.out)
  have HR5 := Lib.hid (HR4.out.below hb)
  have HS5 := Lib.hid (HS4.out.below hb)
  have HN5 := Lib.hid (HN.out.below HB5.out)
  have HD5 := Lib.hid (HD.out.below HB5.out)
  clear hb c0 c1
  have k0 := cell_heap HM5.out 0
  have k1 := cell_heap HM5.out 1
  have k2 := cell_heap HM5.out 2
  have k3 := cell_heap HM5.out 3
  have k4 := cell_heap HM5.out 4
  have k5 := cell_heap HM5.out 5
  have k6 := cell_heap HM5.out 6
  have k7 := cell_heap HM5.out 7
  have k8 := cell_heap HM5.out 8
  have k9 := cell_heap HM5.out 9
  have k10 := cell_heap HM5.out 10
  have k11 := cell_heap HM5.out 11
  have k12 := cell_heap HM5.out 12
  have k13 := cell_heap HM5.out 13
  have k14 := cell_heap HM5.out 14
  have j0 := cell_heap HO5.out 0
  have j1 := cell_heap HO5.out 1
  have j2 := cell_heap HO5.out 2
  have j3 := cell_heap HO5.out 3
  have j4 := cell_heap HO5.out 4
  have j5 := cell_heap HO5.out 5
  have j6 := cell_heap HO5.out 6
  have j7 := cell_heap HO5.out 7
  have j8 := cell_heap HO5.out 8
  have j9 := cell_heap HO5.out 9
  have j10 := cell_heap HO5.out 10
  have j11 := cell_heap HO5.out 11
  have j12 := cell_heap HO5.out 12
  have j13 := cell_heap HO5.out 13
  have j14 := cell_heap HO5.out 14
  have HSm := Lib.hid (same_msgX m.ty m.xid _ _ _ _ m.nums m.ds m.L w5 hbare HR5.out HN5.out HS5.out HD5.out)
  go_wp2_with fail
  (with_reducible refine HSm.out.mono ?_)
  rintro e w6 ⟨rfl, hb⟩
  have HB6 := Lib.hid (HB5.out.trans (hb.mono HB5.out.size))
  clear hb
  clear k0 k1 k2 k3 k4 k5 k6 k7 k8 k9 k10 k11 k12 k13 k14
  clear j0 j1 j2 j3 j4 j5 j6 j7 j8 j9 j10 j11 j12 j13 j14
  have HQ := Lib.hid (refuse_read t _ bs w6 (H2.out.below HB6.out) (by omega))
  rw [hrd] at HQ
  go_wp2_with fail
  (with_reducible refine HQ.out.mono ?_)
  rintro e wb ⟨vq, vs, rfl, hq, hs, hb⟩
  have HQb := Lib.hid hq
  have HSb := Lib.hid hs
  obtain ⟨aq, cq, bq, oq, rfl, -⟩ := hq.open
  obtain ⟨asl, cs, bss, ofs, rfl, -⟩ := hs.open
  have HBb := Lib.hid (HB6.out.trans (hb.mono HB6.out.size))
  clear hb hq hs
  have hne : (er != 0) = true := (by simp [her])
  have HQb : Hid (Ints .u64 wb (.slice aq 0 cq) []) := HQb.out
  have HSb : Hid (Ints .u8 wb (.slice asl 0 cs) []) := HSb.out
  go_wp2_with fail
  (with_reducible refine (same_msg 0 (.slice aq 0 cq) _ (.slice asl 0 cs) _ [] [] _ (HQb.out.alloc _) (Ints.nil _ _) (HSb.out.alloc _) (Ints.nil _ _)).mono ?_)
  rintro e wc ⟨rfl, hb⟩
  have HBc := Lib.hid (HBb.out.trans ((below1 hb).mono HBb.out.size))
  clear hb
  go_wp2_with fail
  (with_reducible refine (sure26 _).mono ?_)
  rintro e wd ⟨rfl, hb⟩
  have HBd := Lib.hid (HBc.out.trans (hb.mono HBc.out.size))
  clear hb
  go_wp2_with fail
  go_ret
  exact ⟨rfl, HBd.out⟩

theorem pb_d (v : Value) (m : MsgV) (t : Int) (v3 : Value) (bs : List Int) (w : World) (h1 : MsgOk w v m) (_h2 : (Lit.int .i64 t).wf = true) (h3 : Ints .u8 w v3 bs) (g1 : ¬ 2500 < bs.length) (bs1 : List Int) (hbd : bodyR m.ty m.nums m.ds (bareL m.L) = (bs1, 0)) (hl1 : m.ds.length ≤ 3000 → bs1.length ≤ 60000) (hbare : bareL m.L = true) (hrow : (rowR m.ty).2 = true) (hwr : readR m.ty bs1 = ((m.ty, m.nums, m.ds), 0)) (l dl : List Int) (hrd : readR t bs = ((t, l, dl), 0)) (hbl : bodyR t l dl true = (bs, 0)) (hdl : dl.length ≤ bs.length) :
    Calls Try.prog 9 #[v, .int .i64 t, v3] w fun e w' => e = .returned (.bool true) ∧ Below w.heap.size w w' := by
  have HFw := fun (w' : World) (hb : Below w.heap.size w w') => Lib.hid (few_msg (h1.since hb))
  obtain ⟨an, cn, ad, cd, rfl, hn, hd⟩ := h1.cut
  have H2 := Lib.hid h3
  obtain ⟨a2, cap2, b2, off2, rfl, -⟩ := h3.open
  have HN := Lib.hid hn
  have HD := Lib.hid hd
  have HU := Lib.hid hn.u64
  have HF := HFw (w.alloc (.cells (msgL m.ty m.xid (.slice an m.nums.length cn) (.slice ad m.ds.length cd) m.L) 35)) (below_alloc2 _)
  clear hn hd h3
  go_enter Try.func9, Try.ntmps9
  go_wp2_with fail
  (with_reducible refine HF.out.mono ?_)
  rintro e w1 ⟨⟨bf, rfl, hbf⟩, hb⟩
  have HB1 := Lib.hid (below1 hb)
  have HH1 := Lib.hid ((hb.block w.heap.size (by simp)).trans (heap_alloc_new _ _))
  clear hb
  cases bf
  case false =>
    go_wp2_with fail
    (with_reducible refine (sure26 _).mono ?_)
    rintro e w2 ⟨rfl, hb⟩
    have HB2 := Lib.hid (HB1.out.trans (hb.mono HB1.out.size))
    clear hb
    go_wp2_with fail
    go_ret
    exact ⟨rfl, HB2.out⟩
  have k0 := cell_heap HH1.out 0
  have k1 := cell_heap HH1.out 1
  have k2 := cell_heap HH1.out 2
  have k3 := cell_heap HH1.out 3
  have k4 := cell_heap HH1.out 4
  have k5 := cell_heap HH1.out 5
  have k6 := cell_heap HH1.out 6
  have k7 := cell_heap HH1.out 7
  have k8 := cell_heap HH1.out 8
  have k9 := cell_heap HH1.out 9
  have k10 := cell_heap HH1.out 10
  have k11 := cell_heap HH1.out 11
  have k12 := cell_heap HH1.out 12
  have k13 := cell_heap HH1.out 13
  have k14 := cell_heap HH1.out 14
  have hle := hbf rfl
  have HP := Lib.hid (refuse_body m.ty m.xid _ _ m.nums m.ds m.L w1 (HN.out.below HB1.out) (HD.out.below HB1.out) hle.2)
  rw [hbd] at HP
  go_wp2_with fail
  (with_reducible refine HP.out.mono ?_)
  rintro e w2 ⟨vb, rfl, hv, hb⟩
  have HV2 := Lib.hid hv
  have HB2 := Lib.hid (HB1.out.trans (hb.mono HB1.out.size))
  have HH2 := Lib.hid ((hb.block w.heap.size (Array.getElem?_eq_some_iff.1 HH1.out).1).trans HH1.out)
  obtain ⟨av, cv, bv, ov, rfl, -⟩ := hv.open
  clear hb hv
  clear k0 k1 k2 k3 k4 k5 k6 k7 k8 k9 k10 k11 k12 k13 k14
  have c0 := cell_heap HH2.out 0
  have HRd := Lib.hid (refuse_read m.ty _ bs1 w2 HV2.out (hl1 hle.2))
  rw [hwr] at HRd
  go_wp2_with fail
  (with_reducible refine HRd.out.mono ?_)
  rintro e w3 ⟨vr, vs, rfl, hr, hs, hb⟩
  have HR3 := Lib.hid hr
  have HS3 := Lib.hid hs
  have HB3 := Lib.hid (HB2.out.trans (hb.mono HB2.out.size))
  have HH3 := Lib.hid ((hb.block w.heap.size (Array.getElem?_eq_some_iff.1 HH2.out).1).trans HH2.out)
  have hs3 : Hid (w.heap.size < w3.heap.size) := (Array.getElem?_eq_some_iff.1 HH3.out).1
  obtain ⟨ar, cr, br, or, rfl, -⟩ := hr.open
  obtain ⟨asl, cs, bss, ofs, rfl, -⟩ := hs.open
  clear hb hr hs c0
  have HMa := Lib.hid (((below_alloc2 (w := w3) (.cells (msgA m.ty (.slice ar m.nums.length cr) (.slice asl m.ds.length cs)) 35)).block w.heap.size hs3.out).trans HH3.out)
  have c1 := cell_heap HMa.out 1
  have HB4 : Hid (Below w.heap.size w (w3.alloc (.cells (msgX m.ty m.xid (.slice ar m.nums.length cr) (.slice asl m.ds.length cs)) 35))) := HB3.out.alloc HB3.out.size _
  have HM4 := Lib.hid (((below_alloc2 (w := w3) (.cells (msgX m.ty m.xid (.slice ar m.nums.length cr) (.slice asl m.ds.length cs)) 35)).block w.heap.size hs3.out).trans HH3.out)
  have HO4 := Lib.hid (heap_alloc_new w3 (.cells (msgX m.ty m.xid (.slice ar m.nums.length cr) (.slice asl m.ds.length cs)) 35))
  have HR4 := Lib.hid (HR3.out.alloc (.cells (msgX m.ty m.xid (.slice ar m.nums.length cr) (.slice asl m.ds.length cs)) 35))
  have HS4 := Lib.hid (HS3.out.alloc (.cells (msgX m.ty m.xid (.slice ar m.nums.length cr) (.slice asl m.ds.length cs)) 35))
  have c0 := cell_heap HM4.out 0
  have HHas := Lib.hid (refuse_has m.ty (w3.alloc (.cells (msgX m.ty m.xid (.slice ar m.nums.length cr) (.slice asl m.ds.length cs)) 35)))
  rw [hrow] at HHas
  go_wp2_with fail
  (with_reducible refine HHas.out.mono ?_)
  rintro e w5 ⟨rfl, hb⟩
  have HB5 := Lib.hid (HB4.out.trans (hb.mono HB4.out.size))
  have HM5 := Lib.hid ((hb.block w.heap.size (by have := hs3.out; simp; omega)).trans HM4.out)
  have HO5 := Lib.hid ((hb.block w3.heap.size (by simp)).trans HO4.out)
  have HR5 := Lib.hid (HR4.out.below hb)
  have HS5 := Lib.hid (HS4.out.below hb)
  have HN5 := Lib.hid (HN.out.below HB5.out)
  have HD5 := Lib.hid (HD.out.below HB5.out)
  clear hb c0 c1
  have k0 := cell_heap HM5.out 0
  have k1 := cell_heap HM5.out 1
  have k2 := cell_heap HM5.out 2
  have k3 := cell_heap HM5.out 3
  have k4 := cell_heap HM5.out 4
  have k5 := cell_heap HM5.out 5
  have k6 := cell_heap HM5.out 6
  have k7 := cell_heap HM5.out 7
  have k8 := cell_heap HM5.out 8
  have k9 := cell_heap HM5.out 9
  have k10 := cell_heap HM5.out 10
  have k11 := cell_heap HM5.out 11
  have k12 := cell_heap HM5.out 12
  have k13 := cell_heap HM5.out 13
  have k14 := cell_heap HM5.out 14
  have j0 := cell_heap HO5.out 0
  have j1 := cell_heap HO5.out 1
  have j2 := cell_heap HO5.out 2
  have j3 := cell_heap HO5.out 3
  have j4 := cell_heap HO5.out 4
  have j5 := cell_heap HO5.out 5
  have j6 := cell_heap HO5.out 6
  have j7 := cell_heap HO5.out 7
  have j8 := cell_heap HO5.out 8
  have j9 := cell_heap HO5.out 9
  have j10 := cell_heap HO5.out 10
  have j11 := cell_heap HO5.out 11
  have j12 := cell_heap HO5.out 12
  have j13 := cell_heap HO5.out 13
  have j14 := cell_heap HO5.out 14
  have HSm := Lib.hid (same_msgX m.ty m.xid _ _ _ _ m.nums m.ds m.L w5 hbare HR5.out HN5.out HS5.out HD5.out)
  go_wp2_with fail
  (with_reducible refine HSm.out.mono ?_)
  rintro e w6 ⟨rfl, hb⟩
  have HB6 := Lib.hid (HB5.out.trans (hb.mono HB5.out.size))
  clear hb
  clear k0 k1 k2 k3 k4 k5 k6 k7 k8 k9 k10 k11 k12 k13 k14
  clear j0 j1 j2 j3 j4 j5 j6 j7 j8 j9 j10 j11 j12 j13 j14
  have HQ := Lib.hid (refuse_read t _ bs w6 (H2.out.below HB6.out) (by omega))
  rw [hrd] at HQ
  go_wp2_with fail
  (with_reducible refine HQ.out.mono ?_)
  rintro e wb ⟨vq, vs, rfl, hq, hs, hb⟩
  have HQb := Lib.hid hq
  have HSb := Lib.hid hs
  obtain ⟨aq, cq, bq, oq, rfl, -⟩ := hq.open
  obtain ⟨asl, cs, bss, ofs, rfl, -⟩ := hs.open
  have HBb := Lib.hid (HB6.out.trans (hb.mono HB6.out.size))
  clear hb hq hs
  have HP := Lib.hid (body_nil t 0 (.slice aq l.length cq) (.slice asl dl.length cs) l dl (wb.alloc (.cells (msgA t (.slice aq l.length cq) (.slice asl dl.length cs)) 35)) (HQb.out.alloc _) (HSb.out.alloc _) (by omega))
  rw [hbl] at HP
  have hx : ((0 : Int) == 0) = true := rfl
  have ht : (t == t) = true := (by simp)
  go_wp2_with fail
  (with_reducible refine HP.out.mono ?_)
  rintro e wc ⟨vx, rfl, hv, hb⟩
  have HXc := Lib.hid hv
  have HOc := Lib.hid ((hb.block wb.heap.size (by simp)).trans (heap_alloc_new _ _))
  have j0 := cell_heap HOc.out 0
  have j1 := cell_heap HOc.out 1
  have HBc := Lib.hid (HBb.out.trans ((below1 hb).mono HBb.out.size))
  obtain ⟨ax, cx, bx, ox, rfl, -⟩ := hv.open
  have HYt := Lib.hid (bytes_same HXc.out (H2.out.below HBc.out))
  clear hb hv
  go_wp2_with fail
  (with_reducible refine HYt.out.mono ?_)
  rintro e wd ⟨rfl, hb⟩
  have HBd := Lib.hid (HBc.out.trans (hb.mono HBc.out.size))
  clear hb
  go_wp2_with fail
  (with_reducible refine (sure26 _).mono ?_)
  rintro e wf ⟨rfl, hb⟩
  have HBf := Lib.hid (HBd.out.trans (hb.mono HBd.out.size))
  clear hb
  go_wp2_with fail
  go_ret
  exact ⟨rfl, HBf.out⟩

theorem walk_RefuseBack (v : Value) (m : MsgV) (t : Int) (v3 : Value) (bs : List Int) (w : World) (h1 : MsgOk w v m) (_h2 : (Lit.int .i64 t).wf = true) (h3 : Ints .u8 w v3 bs) :
    Calls Try.prog 9 #[v, .int .i64 t, v3] w fun e w' => e = .returned (.bool true) ∧ Below w.heap.size w w' := by
  by_cases g1 : 2500 < bs.length
  · exact pb_few v m t v3 bs w h1 _h2 h3 g1
  have hlen : ∀ bs1, putS (rowR m.ty).1 m.nums = some bs1 → m.ds.length ≤ 3000 → (bs1 ++ m.ds).length ≤ 60000 := fun bs1 hput hle => by
    have := rowR_put m.ty m.nums
    rw [hput, Option.getD_some] at this
    rw [List.length_append]
    omega
  rcases readR_cases t bs h3.u8 with ⟨er, her, hrd⟩ | ⟨l, dl, hrd, hbl, hdl⟩
  · rcases bodyR_cases m.ty m.nums m.ds (bareL m.L) with hbd | ⟨hb, bs1, hbd, hrow, hput⟩
    · exact pb_a v m t v3 bs w h1 _h2 h3 g1 hbd er her hrd
    · exact pb_c v m t v3 bs w h1 _h2 h3 g1 _ hbd (hlen bs1 hput) hb hrow (written_readR m.ds hrow hput h1.nums.u64) er her hrd
  · rcases bodyR_cases m.ty m.nums m.ds (bareL m.L) with hbd | ⟨hb, bs1, hbd, hrow, hput⟩
    · exact pb_b v m t v3 bs w h1 _h2 h3 g1 hbd l dl hrd hbl hdl
    · exact pb_d v m t v3 bs w h1 _h2 h3 g1 _ hbd (hlen bs1 hput) hb hrow (written_readR m.ds hrow hput h1.nums.u64) l dl hrd hbl hdl
end Go.Proofs.Ytfaklenclhljhaa
