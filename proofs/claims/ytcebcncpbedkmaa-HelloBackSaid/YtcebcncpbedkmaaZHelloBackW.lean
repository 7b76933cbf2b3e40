/- The walk of the law 'HelloBack': it returns true. Conditions: the arguments read as a message, an int and a list of bytes. -/
import Derived.Test.YtcebcncpbedkmaaZHelloWritesW
import Derived.Test.YtcebcncpbedkmaaZHelloReadsW
namespace Go.Proofs.Ytcebcncpbedkmaa
open Go Go.RowKit
set_option maxRecDepth 100000
set_option maxHeartbeats 8000000

theorem ints_none {k : IntKind} {w : World} {v : Value} {l : List Int} (h : Ints k w v l) (hl : l.length = 0) : Ints k w v [] := by
  rw [List.eq_nil_of_length_eq_zero hl] at h
  exact h

theorem hb_many (v : Value) (m : MsgV) (t : Int) (v3 : Value) (bs : List Int) (w : World) (h1 : MsgOk w v m) (h3 : Ints .u8 w v3 bs) (hg : 2500 < bs.length) :
    Calls Try.prog 5 #[v, .int .i64 t, v3] w fun e w' => e = .returned (.bool true) ∧ Below w.heap.size w w' := by
  have HFw := fun (w' : World) (hb : Below w.heap.size w w') => Lib.hid (few_msg (h1.since hb))
  have HE := Lib.hid h1.elems
  obtain ⟨an, cn, ad, cd, rfl, hn, hd⟩ := h1.cut
  obtain ⟨ty, xid, vn, vd, nums, ds, els, L⟩ := m
  simp only at *
  have HN := Lib.hid hn
  have HD := Lib.hid hd
  have H3 := Lib.hid h3
  have HU := Lib.hid h3.u8
  obtain ⟨a3, c3, b3, o3, rfl, -⟩ := h3.open
  have HF := HFw (w.alloc (.cells (msgL ty xid (.slice an nums.length cn) (.slice ad ds.length cd) L) 35)) (below_alloc2 _)
  clear hn hd h3 h1
  go_enter Try.func5, Try.ntmps5
  go_wp2_with fail
  (with_reducible refine HF.out.mono ?_)
  rintro e w1 ⟨⟨bf, rfl, hbf⟩, hb⟩
  have HB1 := Lib.hid (below1 hb)
  have HH1 := Lib.hid ((hb.block w.heap.size (by simp)).trans (heap_alloc_new _ _))
  clear hb HF HFw
  cases bf
  case false =>
    go_wp2_with fail
    (with_reducible refine (sure21 _).mono ?_)
    rintro e w2 ⟨rfl, hb⟩
    have HB2 := Lib.hid (HB1.out.trans (hb.mono HB1.out.size))
    clear hb
    go_wp2_with fail
    go_ret
    exact ⟨rfl, HB2.out⟩
  clear hbf
  go_wp2_with fail
  (with_reducible refine (sure21 _).mono ?_)
  rintro e w2 ⟨rfl, hb⟩
  have HB2 := Lib.hid (HB1.out.trans (hb.mono HB1.out.size))
  clear hb
  go_wp2_with fail
  go_ret
  exact ⟨rfl, HB2.out⟩

theorem hb_FalseFalse (v : Value) (m : MsgV) (t : Int) (v3 : Value) (bs : List Int) (w : World) (h1 : MsgOk w v m) (h3 : Ints .u8 w v3 bs) (hg : ¬ 2500 < bs.length) (hbd : bodyH m.ty (decide (m.nums.length = 0) && bareL m.L.noEl && decide (m.ds.length = 0)) m.els = ([], 10001)) (er : Int) (her : er ≠ 0) (hrd : readH t bs = ([], er)) :
    Calls Try.prog 5 #[v, .int .i64 t, v3] w fun e w' => e = .returned (.bool true) ∧ Below w.heap.size w w' := by
  have HFw := fun (w' : World) (hb : Below w.heap.size w w') => Lib.hid (few_msg (h1.since hb))
  have HE := Lib.hid h1.elems
  obtain ⟨an, cn, ad, cd, rfl, hn, hd⟩ := h1.cut
  obtain ⟨ty, xid, vn, vd, nums, ds, els, L⟩ := m
  simp only at *
  have HN := Lib.hid hn
  have HD := Lib.hid hd
  have H3 := Lib.hid h3
  have HU := Lib.hid h3.u8
  obtain ⟨a3, c3, b3, o3, rfl, -⟩ := h3.open
  have HF := HFw (w.alloc (.cells (msgL ty xid (.slice an nums.length cn) (.slice ad ds.length cd) L) 35)) (below_alloc2 _)
  clear hn hd h3 h1
  go_enter Try.func5, Try.ntmps5
  go_wp2_with fail
  (with_reducible refine HF.out.mono ?_)
  rintro e w1 ⟨⟨bf, rfl, hbf⟩, hb⟩
  have HB1 := Lib.hid (below1 hb)
  have HH1 := Lib.hid ((hb.block w.heap.size (by simp)).trans (heap_alloc_new _ _))
  clear hb HF HFw
  cases bf
  case false =>
    go_wp2_with fail
    (with_reducible refine (sure21 _).mono ?_)
    rintro e w2 ⟨rfl, hb⟩
    have HB2 := Lib.hid (HB1.out.trans (hb.mono HB1.out.size))
    clear hb
    go_wp2_with fail
    go_ret
    exact ⟨rfl, HB2.out⟩
  obtain ⟨-, hl, hdl⟩ := hbf rfl
  have k0 := cell_row HH1.out 0
  have k1 := cell_row HH1.out 1
  have k2 := cell_row HH1.out 2
  have k3 := cell_row HH1.out 3
  have k4 := cell_row HH1.out 4
  have k5 := cell_row HH1.out 5
  have k6 := cell_row HH1.out 6
  have k7 := cell_row HH1.out 7
  have k8 := cell_row HH1.out 8
  have k9 := cell_row HH1.out 9
  have k10 := cell_row HH1.out 10
  have k11 := cell_row HH1.out 11
  have k12 := cell_row HH1.out 12
  have k13 := cell_row HH1.out 13
  have k14 := cell_row HH1.out 14
  have HP := Lib.hid (go_body_msg (ty := ty) (xid := xid) (an := an) (nn := nums.length) (cn := cn) (ad := ad) (nd := ds.length) (cd := cd) (HE.out.below ItemR.lasts HB1.out) hl hdl)
  rw [hbd] at HP
  clear hbd hdl hbf
  go_wp2_with fail
  (with_reducible refine HP.out.mono ?_)
  rintro e w2 ⟨vb, rfl, hv, hu, hb⟩
  simp only at hv hu ⊢
  have HB2 := Lib.hid (HB1.out.trans (hb.mono HB1.out.size))
  obtain ⟨av, cv, rfl⟩ := own_slice hv
  clear hb hv hu HP k0 k1 k2 k3 k4 k5 k6 k7 k8 k9 k10 k11 k12 k13 k14
  have HRe := hel_read (t := t) (H3.out.below HB2.out) (by omega)
  rw [hrd] at HRe
  have HRe := Lib.hid HRe
  clear hrd
  go_wp2_with fail
  (with_reducible refine HRe.out.mono ?_)
  rintro e w4 ⟨vr, rfl, ho, hb⟩
  simp only at ho ⊢
  have HB4 := Lib.hid (HB2.out.trans (hb.mono HB2.out.size))
  have HO4 := Lib.hid (OutG.rows (R := ItemR) ho (fun h => ItmO.read h))
  obtain ⟨ar, cr, rfl⟩ := OutG.slice ho
  clear ho hb HRe
  rw [show ([] : List Elt).length = 0 from rfl] at HO4 ⊢
  have hR := heap_alloc_new w4 (.cells (msgE (.slice ar 0 cr)) 35)
  have HB5 := Lib.hid (HB4.out.trans ((below_alloc2 (w := w4) (.cells (msgE (.slice ar 0 cr)) 35)).mono HB4.out.size))
  have HO5 := Lib.hid (HO4.out.below ItemR.lasts (below_alloc2 (w := w4) (.cells (msgE (.slice ar 0 cr)) 35)))
  have y0 := cell_row hR 0
  have y1 := cell_row hR 1
  have y2 := cell_row hR 2
  have y3 := cell_row hR 3
  have y4 := cell_row hR 4
  have y5 := cell_row hR 5
  have y6 := cell_row hR 6
  have y7 := cell_row hR 7
  have y8 := cell_row hR 8
  have y9 := cell_row hR 9
  have y10 := cell_row hR 10
  have y11 := cell_row hR 11
  have y12 := cell_row hR 12
  have y13 := cell_row hR 13
  have y14 := cell_row hR 14
  clear hR
  have he : (er != 0) = true := by simpa using her
  clear her
  have HSn := Lib.hid (same_E (a2 := none) (n2 := 0) (c2 := 0) HO5.out (RowsOf.nil _ _ _))
  go_wp2_with fail
  (with_reducible refine HSn.out.mono ?_)
  rintro e w6 ⟨rfl, hb⟩
  have HB6 := Lib.hid (HB5.out.trans (hb.mono HB5.out.size))
  clear hb
  go_wp2_with fail
  (with_reducible refine (sure21 _).mono ?_)
  rintro e w7 ⟨rfl, hb⟩
  have HB7 := Lib.hid (HB6.out.trans (hb.mono HB6.out.size))
  clear hb
  go_wp2_with fail
  go_ret
  exact ⟨rfl, HB7.out⟩

theorem hb_FalseTrue (v : Value) (m : MsgV) (t : Int) (v3 : Value) (bs : List Int) (w : World) (h1 : MsgOk w v m) (h3 : Ints .u8 w v3 bs) (hg : ¬ 2500 < bs.length) (hbd : bodyH m.ty (decide (m.nums.length = 0) && bareL m.L.noEl && decide (m.ds.length = 0)) m.els = ([], 10001)) (l : List Elt) (hrd : readH t bs = (l, 0)) (ht : t = 0) (hwb : bodyH 0 true l = (bs, 0)) (hfl : l.length ≤ 100000) (hfd : ∀ x ∈ l, x.2.length ≤ 100000) :
    Calls Try.prog 5 #[v, .int .i64 t, v3] w fun e w' => e = .returned (.bool true) ∧ Below w.heap.size w w' := by
  have HFw := fun (w' : World) (hb : Below w.heap.size w w') => Lib.hid (few_msg (h1.since hb))
  have HE := Lib.hid h1.elems
  obtain ⟨an, cn, ad, cd, rfl, hn, hd⟩ := h1.cut
  obtain ⟨ty, xid, vn, vd, nums, ds, els, L⟩ := m
  simp only at *
  obtain rfl := ht
  have HN := Lib.hid hn
  have HD := Lib.hid hd
  have H3 := Lib.hid h3
  have HU := Lib.hid h3.u8
  obtain ⟨a3, c3, b3, o3, rfl, -⟩ := h3.open
  have HF := HFw (w.alloc (.cells (msgL ty xid (.slice an nums.length cn) (.slice ad ds.length cd) L) 35)) (below_alloc2 _)
  clear hn hd h3 h1
  go_enter Try.func5, Try.ntmps5
  go_wp2_with fail
  (with_reducible refine HF.out.mono ?_)
  rintro e w1 ⟨⟨bf, rfl, hbf⟩, hb⟩
  have HB1 := Lib.hid (below1 hb)
  have HH1 := Lib.hid ((hb.block w.heap.size (by simp)).trans (heap_alloc_new _ _))
  clear hb HF HFw
  cases bf
  case false =>
    go_wp2_with fail
    (with_reducible refine (sure21 _).mono ?_)
    rintro e w2 ⟨rfl, hb⟩
    have HB2 := Lib.hid (HB1.out.trans (hb.mono HB1.out.size))
    clear hb
    go_wp2_with fail
    go_ret
    exact ⟨rfl, HB2.out⟩
  obtain ⟨-, hl, hdl⟩ := hbf rfl
  have k0 := cell_row HH1.out 0
  have k1 := cell_row HH1.out 1
  have k2 := cell_row HH1.out 2
  have k3 := cell_row HH1.out 3
  have k4 := cell_row HH1.out 4
  have k5 := cell_row HH1.out 5
  have k6 := cell_row HH1.out 6
  have k7 := cell_row HH1.out 7
  have k8 := cell_row HH1.out 8
  have k9 := cell_row HH1.out 9
  have k10 := cell_row HH1.out 10
  have k11 := cell_row HH1.out 11
  have k12 := cell_row HH1.out 12
  have k13 := cell_row HH1.out 13
  have k14 := cell_row HH1.out 14
  have HP := Lib.hid (go_body_msg (ty := ty) (xid := xid) (an := an) (nn := nums.length) (cn := cn) (ad := ad) (nd := ds.length) (cd := cd) (HE.out.below ItemR.lasts HB1.out) hl hdl)
  rw [hbd] at HP
  clear hbd hdl hbf
  go_wp2_with fail
  (with_reducible refine HP.out.mono ?_)
  rintro e w2 ⟨vb, rfl, hv, hu, hb⟩
  simp only at hv hu ⊢
  have HB2 := Lib.hid (HB1.out.trans (hb.mono HB1.out.size))
  obtain ⟨av, cv, rfl⟩ := own_slice hv
  clear hb hv hu HP k0 k1 k2 k3 k4 k5 k6 k7 k8 k9 k10 k11 k12 k13 k14
  have HRe := hel_read (t := 0) (H3.out.below HB2.out) (by omega)
  rw [hrd] at HRe
  have HRe := Lib.hid HRe
  clear hrd
  go_wp2_with fail
  (with_reducible refine HRe.out.mono ?_)
  rintro e w4 ⟨vr, rfl, ho, hb⟩
  simp only at ho ⊢
  have HB4 := Lib.hid (HB2.out.trans (hb.mono HB2.out.size))
  have HO4 := Lib.hid (OutG.rows (R := ItemR) ho (fun h => ItmO.read h))
  obtain ⟨ar, cr, rfl⟩ := OutG.slice ho
  clear ho hb HRe
  have hR := heap_alloc_new w4 (.cells (msgE (.slice ar l.length cr)) 35)
  have HB5 := Lib.hid (HB4.out.trans ((below_alloc2 (w := w4) (.cells (msgE (.slice ar l.length cr)) 35)).mono HB4.out.size))
  have HO5 := Lib.hid (HO4.out.below ItemR.lasts (below_alloc2 (w := w4) (.cells (msgE (.slice ar l.length cr)) 35)))
  have y0 := cell_row hR 0
  have y1 := cell_row hR 1
  have y2 := cell_row hR 2
  have y3 := cell_row hR 3
  have y4 := cell_row hR 4
  have y5 := cell_row hR 5
  have y6 := cell_row hR 6
  have y7 := cell_row hR 7
  have y8 := cell_row hR 8
  have y9 := cell_row hR 9
  have y10 := cell_row hR 10
  have y11 := cell_row hR 11
  have y12 := cell_row hR 12
  have y13 := cell_row hR 13
  have y14 := cell_row hR 14
  have HR := Lib.hid hR
  have hpb := hel_body (ty := 0) (xid := 0) (an := none) (nn := 0) (cn := 0) (ad := none) (nd := 0) (cd := 0) (L := L1 ar l.length cr) HO5.out hfl hfd (fun W => bare_go 0 0 none 0 0 none 0 0 _ W)
  rw [show (decide (0 = 0) && bareL (L1 ar l.length cr).noEl && decide (0 = 0)) = true from rfl, hwb] at hpb
  have HPb := Lib.hid hpb
  clear hpb hR hwb hfl hfd
  go_wp2_with fail
  (with_reducible refine HPb.out.mono ?_)
  rintro e w6 ⟨vx, rfl, hx, hux, hb⟩
  simp only at hx hux ⊢
  have HX6 := Lib.hid (Ints.of_own hx hux.wf)
  have HB6 := Lib.hid (HB5.out.trans (hb.mono HB5.out.size))
  have HR6 := Lib.hid (row_below hb HR.out)
  obtain ⟨ax, cx, rfl⟩ := own_slice hx
  clear hx hux hb HPb y0 y1 y2 y3 y4 y5 y6 y7 y8 y9 y10 y11 y12 y13 y14
  have y0 := cell_row HR6.out 0
  have y1 := cell_row HR6.out 1
  have HBb := Lib.hid (bytes_same HX6.out (H3.out.below HB6.out))
  go_wp2_with fail
  (with_reducible refine HBb.out.mono ?_)
  rintro e w7 ⟨rfl, hb⟩
  have HB7 := Lib.hid (HB6.out.trans (hb.mono HB6.out.size))
  clear hb
  go_wp2_with fail
  (with_reducible refine (sure21 _).mono ?_)
  rintro e w8 ⟨rfl, hb⟩
  have HB8 := Lib.hid (HB7.out.trans (hb.mono HB7.out.size))
  clear hb
  go_wp2_with fail
  go_ret
  exact ⟨rfl, HB8.out⟩

theorem hb_TrueFalse (v : Value) (m : MsgV) (t : Int) (v3 : Value) (bs : List Int) (w : World) (h1 : MsgOk w v m) (h3 : Ints .u8 w v3 bs) (hg : ¬ 2500 < bs.length) (bb : List Int) (hbb : bb.length ≤ 100000) (hbd : bodyH m.ty (decide (m.nums.length = 0) && bareL m.L.noEl && decide (m.ds.length = 0)) m.els = (bb, 0)) (hrb : readH 0 bb = (m.els, 0)) (hty : m.ty = 0) (hnn : m.nums.length = 0) (hdd : m.ds.length = 0) (hbl : bareL m.L.noEl = true) (er : Int) (her : er ≠ 0) (hrd : readH t bs = ([], er)) :
    Calls Try.prog 5 #[v, .int .i64 t, v3] w fun e w' => e = .returned (.bool true) ∧ Below w.heap.size w w' := by
  have HFw := fun (w' : World) (hb : Below w.heap.size w w') => Lib.hid (few_msg (h1.since hb))
  have HE := Lib.hid h1.elems
  obtain ⟨an, cn, ad, cd, rfl, hn, hd⟩ := h1.cut
  obtain ⟨ty, xid, vn, vd, nums, ds, els, L⟩ := m
  simp only at *
  obtain rfl := hty
  have HNn := Lib.hid hnn
  have HDd := Lib.hid hdd
  have HBl := Lib.hid hbl
  clear hnn hdd hbl
  have HN := Lib.hid hn
  have HD := Lib.hid hd
  have H3 := Lib.hid h3
  have HU := Lib.hid h3.u8
  obtain ⟨a3, c3, b3, o3, rfl, -⟩ := h3.open
  have HF := HFw (w.alloc (.cells (msgL 0 xid (.slice an nums.length cn) (.slice ad ds.length cd) L) 35)) (below_alloc2 _)
  clear hn hd h3 h1
  go_enter Try.func5, Try.ntmps5
  go_wp2_with fail
  (with_reducible refine HF.out.mono ?_)
  rintro e w1 ⟨⟨bf, rfl, hbf⟩, hb⟩
  have HB1 := Lib.hid (below1 hb)
  have HH1 := Lib.hid ((hb.block w.heap.size (by simp)).trans (heap_alloc_new _ _))
  clear hb HF HFw
  cases bf
  case false =>
    go_wp2_with fail
    (with_reducible refine (sure21 _).mono ?_)
    rintro e w2 ⟨rfl, hb⟩
    have HB2 := Lib.hid (HB1.out.trans (hb.mono HB1.out.size))
    clear hb
    go_wp2_with fail
    go_ret
    exact ⟨rfl, HB2.out⟩
  obtain ⟨-, hl, hdl⟩ := hbf rfl
  have k0 := cell_row HH1.out 0
  have k1 := cell_row HH1.out 1
  have k2 := cell_row HH1.out 2
  have k3 := cell_row HH1.out 3
  have k4 := cell_row HH1.out 4
  have k5 := cell_row HH1.out 5
  have k6 := cell_row HH1.out 6
  have k7 := cell_row HH1.out 7
  have k8 := cell_row HH1.out 8
  have k9 := cell_row HH1.out 9
  have k10 := cell_row HH1.out 10
  have k11 := cell_row HH1.out 11
  have k12 := cell_row HH1.out 12
  have k13 := cell_row HH1.out 13
  have k14 := cell_row HH1.out 14
  have HP := Lib.hid (go_body_msg (ty := 0) (xid := xid) (an := an) (nn := nums.length) (cn := cn) (ad := ad) (nd := ds.length) (cd := cd) (HE.out.below ItemR.lasts HB1.out) hl hdl)
  rw [hbd] at HP
  clear hbd hdl hbf
  go_wp2_with fail
  (with_reducible refine HP.out.mono ?_)
  rintro e w2 ⟨vb, rfl, hv, hu, hb⟩
  simp only at hv hu ⊢
  have HB2 := Lib.hid (HB1.out.trans (hb.mono HB1.out.size))
  have HV2 := Lib.hid (Ints.of_own hv hu.wf)
  have HH2 := Lib.hid ((hb.block w.heap.size (Array.getElem?_eq_some_iff.1 HH1.out).1).trans HH1.out)
  obtain ⟨av, cv, rfl⟩ := own_slice hv
  clear hb hv hu HP k0 k1 k2 k3 k4 k5 k6 k7 k8 k9 k10 k11 k12 k13 k14
  have k0 := cell_row HH2.out 0
  have HRd := hel_read (t := 0) HV2.out (by omega)
  rw [hrb] at HRd
  have HRd := Lib.hid HRd
  clear hrb
  go_wp2_with fail
  (with_reducible refine HRd.out.mono ?_)
  rintro e wa ⟨ve, rfl, hoe, hb⟩
  simp only at hoe ⊢
  have HBa := Lib.hid (HB2.out.trans (hb.mono HB2.out.size))
  have hHa := row_below hb HH2.out
  have HEa := Lib.hid (OutG.rows (R := ItemR) hoe (fun h => ItmO.read h))
  obtain ⟨ae, ce, rfl⟩ := OutG.slice hoe
  clear hoe hb k0 HRd
  have hby := below_alloc2 (w := wa) (.cells #[.int .i64 0, .int .u32 xid, .slice none 0 0, .slice none 0 0, .slice ae els.length ce, .slice none 0 0, .slice none 0 0, .slice none 0 0, .slice none 0 0, .slice none 0 0, .slice none 0 0, .slice none 0 0, .int .i64 0, .int .i64 0, .slice none 0 0] 35)
  have hX2 := heap_alloc_new wa (.cells #[.int .i64 0, .int .u32 xid, .slice none 0 0, .slice none 0 0, .slice ae els.length ce, .slice none 0 0, .slice none 0 0, .slice none 0 0, .slice none 0 0, .slice none 0 0, .slice none 0 0, .slice none 0 0, .int .i64 0, .int .i64 0, .slice none 0 0] 35)
  have hHy := row_below hby hHa
  have k1 := cell_row (row_below (below_alloc2 (w := wa) (.cells (msgE (.slice ae els.length ce)) 35)) hHa) 1
  have HBy := Lib.hid (HBa.out.trans (hby.mono HBa.out.size))
  have HEy := Lib.hid (HEa.out.below ItemR.lasts hby)
  have HEz := Lib.hid (HE.out.below ItemR.lasts HBy.out)
  have HNy := Lib.hid (ints_none (HN.out.below HBy.out) HNn.out)
  have HDy := Lib.hid (ints_none (HD.out.below HBy.out) HDd.out)
  have p0 := cell_row hX2 0
  have p1 := cell_row hX2 1
  have p2 := cell_row hX2 2
  have p3 := cell_row hX2 3
  have p4 := cell_row hX2 4
  have p5 := cell_row hX2 5
  have p6 := cell_row hX2 6
  have p7 := cell_row hX2 7
  have p8 := cell_row hX2 8
  have p9 := cell_row hX2 9
  have p10 := cell_row hX2 10
  have p11 := cell_row hX2 11
  have p12 := cell_row hX2 12
  have p13 := cell_row hX2 13
  have p14 := cell_row hX2 14
  have q0 := cell_row hHy 0
  have q1 := cell_row hHy 1
  have q2 := cell_row hHy 2
  have q3 := cell_row hHy 3
  have q4 := cell_row hHy 4
  have q5 := cell_row hHy 5
  have q6 := cell_row hHy 6
  have q7 := cell_row hHy 7
  have q8 := cell_row hHy 8
  have q9 := cell_row hHy 9
  have q10 := cell_row hHy 10
  have q11 := cell_row hHy 11
  have q12 := cell_row hHy 12
  have q13 := cell_row hHy 13
  have q14 := cell_row hHy 14
  have r0 := cell_row hHa 0
  have r1 := cell_row hHa 1
  have r2 := cell_row hHa 2
  have r3 := cell_row hHa 3
  have r4 := cell_row hHa 4
  have r5 := cell_row hHa 5
  have r6 := cell_row hHa 6
  have r7 := cell_row hHa 7
  have r8 := cell_row hHa 8
  have r9 := cell_row hHa 9
  have r10 := cell_row hHa 10
  have r11 := cell_row hHa 11
  have r12 := cell_row hHa 12
  have r13 := cell_row hHa 13
  have r14 := cell_row hHa 14
  clear hX2 hHy hby hHa
  have HSm := Lib.hid (same_msgE 0 xid (.slice none 0 0) (.slice an nums.length cn) (.slice none 0 0) (.slice ad ds.length cd) [] [] (L1 ae els.length ce) L els _ rfl HBl.out HEy.out HEz.out (Ints.nil _ _) HNy.out (Ints.nil _ _) HDy.out)
  go_wp2_with fail
  (with_reducible refine (hel_has 0 _).mono ?_)
  rintro e wc ⟨rfl, rfl⟩
  go_wp2_with fail
  (with_reducible refine HSm.out.mono ?_)
  rintro e w2 ⟨rfl, hb⟩
  have HB2 := Lib.hid (HBy.out.trans (hb.mono HBy.out.size))
  clear hb k1 HSm p0 p1 p2 p3 p4 p5 p6 p7 p8 p9 p10 p11 p12 p13 p14 q0 q1 q2 q3 q4 q5 q6 q7 q8 q9 q10 q11 q12 q13 q14 r0 r1 r2 r3 r4 r5 r6 r7 r8 r9 r10 r11 r12 r13 r14
  have HRe := hel_read (t := t) (H3.out.below HB2.out) (by omega)
  rw [hrd] at HRe
  have HRe := Lib.hid HRe
  clear hrd
  go_wp2_with fail
  (with_reducible refine HRe.out.mono ?_)
  rintro e w4 ⟨vr, rfl, ho, hb⟩
  simp only at ho ⊢
  have HB4 := Lib.hid (HB2.out.trans (hb.mono HB2.out.size))
  have HO4 := Lib.hid (OutG.rows (R := ItemR) ho (fun h => ItmO.read h))
  obtain ⟨ar, cr, rfl⟩ := OutG.slice ho
  clear ho hb HRe
  rw [show ([] : List Elt).length = 0 from rfl] at HO4 ⊢
  have hR := heap_alloc_new w4 (.cells (msgE (.slice ar 0 cr)) 35)
  have HB5 := Lib.hid (HB4.out.trans ((below_alloc2 (w := w4) (.cells (msgE (.slice ar 0 cr)) 35)).mono HB4.out.size))
  have HO5 := Lib.hid (HO4.out.below ItemR.lasts (below_alloc2 (w := w4) (.cells (msgE (.slice ar 0 cr)) 35)))
  have y0 := cell_row hR 0
  have y1 := cell_row hR 1
  have y2 := cell_row hR 2
  have y3 := cell_row hR 3
  have y4 := cell_row hR 4
  have y5 := cell_row hR 5
  have y6 := cell_row hR 6
  have y7 := cell_row hR 7
  have y8 := cell_row hR 8
  have y9 := cell_row hR 9
  have y10 := cell_row hR 10
  have y11 := cell_row hR 11
  have y12 := cell_row hR 12
  have y13 := cell_row hR 13
  have y14 := cell_row hR 14
  clear hR
  have he : (er != 0) = true := by simpa using her
  clear her
  have HSn := Lib.hid (same_E (a2 := none) (n2 := 0) (c2 := 0) HO5.out (RowsOf.nil _ _ _))
  go_wp2_with fail
  (with_reducible refine HSn.out.mono ?_)
  rintro e w6 ⟨rfl, hb⟩
  have HB6 := Lib.hid (HB5.out.trans (hb.mono HB5.out.size))
  clear hb
  go_wp2_with fail
  (with_reducible refine (sure21 _).mono ?_)
  rintro e w7 ⟨rfl, hb⟩
  have HB7 := Lib.hid (HB6.out.trans (hb.mono HB6.out.size))
  clear hb
  go_wp2_with fail
  go_ret
  exact ⟨rfl, HB7.out⟩

theorem hb_TrueTrue (v : Value) (m : MsgV) (t : Int) (v3 : Value) (bs : List Int) (w : World) (h1 : MsgOk w v m) (h3 : Ints .u8 w v3 bs) (hg : ¬ 2500 < bs.length) (bb : List Int) (hbb : bb.length ≤ 100000) (hbd : bodyH m.ty (decide (m.nums.length = 0) && bareL m.L.noEl && decide (m.ds.length = 0)) m.els = (bb, 0)) (hrb : readH 0 bb = (m.els, 0)) (hty : m.ty = 0) (hnn : m.nums.length = 0) (hdd : m.ds.length = 0) (hbl : bareL m.L.noEl = true) (l : List Elt) (hrd : readH t bs = (l, 0)) (ht : t = 0) (hwb : bodyH 0 true l = (bs, 0)) (hfl : l.length ≤ 100000) (hfd : ∀ x ∈ l, x.2.length ≤ 100000) :
    Calls Try.prog 5 #[v, .int .i64 t, v3] w fun e w' => e = .returned (.bool true) ∧ Below w.heap.size w w' := by
  have HFw := fun (w' : World) (hb : Below w.heap.size w w') => Lib.hid (few_msg (h1.since hb))
  have HE := Lib.hid h1.elems
  obtain ⟨an, cn, ad, cd, rfl, hn, hd⟩ := h1.cut
  obtain ⟨ty, xid, vn, vd, nums, ds, els, L⟩ := m
  simp only at *
  obtain rfl := hty
  have HNn := Lib.hid hnn
  have HDd := Lib.hid hdd
  have HBl := Lib.hid hbl
  clear hnn hdd hbl
  obtain rfl := ht
  have HN := Lib.hid hn
  have HD := Lib.hid hd
  have H3 := Lib.hid h3
  have HU := Lib.hid h3.u8
  obtain ⟨a3, c3, b3, o3, rfl, -⟩ := h3.open
  have HF := HFw (w.alloc (.cells (msgL 0 xid (.slice an nums.length cn) (.slice ad ds.length cd) L) 35)) (below_alloc2 _)
  clear hn hd h3 h1
  go_enter Try.func5, Try.ntmps5
  go_wp2_with fail
  (with_reducible refine HF.out.mono ?_)
  rintro e w1 ⟨⟨bf, rfl, hbf⟩, hb⟩
  have HB1 := Lib.hid (below1 hb)
  have HH1 := Lib.hid ((hb.block w.heap.size (by simp)).trans (heap_alloc_new _ _))
  clear hb HF HFw
  cases bf
  case false =>
    go_wp2_with fail
    (with_reducible refine (sure21 _).mono ?_)
    rintro e w2 ⟨rfl, hb⟩
    have HB2 := Lib.hid (HB1.out.trans (hb.mono HB1.out.size))
    clear hb
    go_wp2_with fail
    go_ret
    exact ⟨rfl, HB2.out⟩
  obtain ⟨-, hl, hdl⟩ := hbf rfl
  have k0 := cell_row HH1.out 0
  have k1 := cell_row HH1.out 1
  have k2 := cell_row HH1.out 2
  have k3 := cell_row HH1.out 3
  have k4 := cell_row HH1.out 4
  have k5 := cell_row HH1.out 5
  have k6 := cell_row HH1.out 6
  have k7 := cell_row HH1.out 7
  have k8 := cell_row HH1.out 8
  have k9 := cell_row HH1.out 9
  have k10 := cell_row HH1.out 10
  have k11 := cell_row HH1.out 11
  have k12 := cell_row HH1.out 12
  have k13 := cell_row HH1.out 13
  have k14 := cell_row HH1.out 14
  have HP := Lib.hid (go_body_msg (ty := 0) (xid := xid) (an := an) (nn := nums.length) (cn := cn) (ad := ad) (nd := ds.length) (cd := cd) (HE.out.below ItemR.lasts HB1.out) hl hdl)
  rw [hbd] at HP
  clear hbd hdl hbf
  go_wp2_with fail
  (with_reducible refine HP.out.mono ?_)
  rintro e w2 ⟨vb, rfl, hv, hu, hb⟩
  simp only at hv hu ⊢
  have HB2 := Lib.hid (HB1.out.trans (hb.mono HB1.out.size))
  have HV2 := Lib.hid (Ints.of_own hv hu.wf)
  have HH2 := Lib.hid ((hb.block w.heap.size (Array.getElem?_eq_some_iff.1 HH1.out).1).trans HH1.out)
  obtain ⟨av, cv, rfl⟩ := own_slice hv
  clear hb hv hu HP k0 k1 k2 k3 k4 k5 k6 k7 k8 k9 k10 k11 k12 k13 k14
  have k0 := cell_row HH2.out 0
  have HRd := hel_read (t := 0) HV2.out (by omega)
  rw [hrb] at HRd
  have HRd := Lib.hid HRd
  clear hrb
  go_wp2_with fail
  (with_reducible refine HRd.out.mono ?_)
  rintro e wa ⟨ve, rfl, hoe, hb⟩
  simp only at hoe ⊢
  have HBa := Lib.hid (HB2.out.trans (hb.mono HB2.out.size))
  have hHa := row_below hb HH2.out
  have HEa := Lib.hid (OutG.rows (R := ItemR) hoe (fun h => ItmO.read h))
  obtain ⟨ae, ce, rfl⟩ := OutG.slice hoe
  clear hoe hb k0 HRd
  have hby := below_alloc2 (w := wa) (.cells #[.int .i64 0, .int .u32 xid, .slice none 0 0, .slice none 0 0, .slice ae els.length ce, .slice none 0 0, .slice none 0 0, .slice none 0 0, .slice none 0 0, .slice none 0 0, .slice none 0 0, .slice none 0 0, .int .i64 0, .int .i64 0, .slice none 0 0] 35)
  have hX2 := heap_alloc_new wa (.cells #[.int .i64 0, .int .u32 xid, .slice none 0 0, .slice none 0 0, .slice ae els.length ce, .slice none 0 0, .slice none 0 0, .slice none 0 0, .slice none 0 0, .slice none 0 0, .slice none 0 0, .slice none 0 0, .int .i64 0, .int .i64 0, .slice none 0 0] 35)
  have hHy := row_below hby hHa
  have k1 := cell_row (row_below (below_alloc2 (w := wa) (.cells (msgE (.slice ae els.length ce)) 35)) hHa) 1
  have HBy := Lib.hid (HBa.out.trans (hby.mono HBa.out.size))
  have HEy := Lib.hid (HEa.out.below ItemR.lasts hby)
  have HEz := Lib.hid (HE.out.below ItemR.lasts HBy.out)
  have HNy := Lib.hid (ints_none (HN.out.below HBy.out) HNn.out)
  have HDy := Lib.hid (ints_none (HD.out.below HBy.out) HDd.out)
  have p0 := cell_row hX2 0
  have p1 := cell_row hX2 1
  have p2 := cell_row hX2 2
  have p3 := cell_row hX2 3
  have p4 := cell_row hX2 4
  have p5 := cell_row hX2 5
  have p6 := cell_row hX2 6
  have p7 := cell_row hX2 7
  have p8 := cell_row hX2 8
  have p9 := cell_row hX2 9
  have p10 := cell_row hX2 10
  have p11 := cell_row hX2 11
  have p12 := cell_row hX2 12
  have p13 := cell_row hX2 13
  have p14 := cell_row hX2 14
  have q0 := cell_row hHy 0
  have q1 := cell_row hHy 1
  have q2 := cell_row hHy 2
  have q3 := cell_row hHy 3
  have q4 := cell_row hHy 4
  have q5 := cell_row hHy 5
  have q6 := cell_row hHy 6
  have q7 := cell_row hHy 7
  have q8 := cell_row hHy 8
  have q9 := cell_row hHy 9
  have q10 := cell_row hHy 10
  have q11 := cell_row hHy 11
  have q12 := cell_row hHy 12
  have q13 := cell_row hHy 13
  have q14 := cell_row hHy 14
  have r0 := cell_row hHa 0
  have r1 := cell_row hHa 1
  have r2 := cell_row hHa 2
  have r3 := cell_row hHa 3
  have r4 := cell_row hHa 4
  have r5 := cell_row hHa 5
  have r6 := cell_row hHa 6
  have r7 := cell_row hHa 7
  have r8 := cell_row hHa 8
  have r9 := cell_row hHa 9
  have r10 := cell_row hHa 10
  have r11 := cell_row hHa 11
  have r12 := cell_row hHa 12
  have r13 := cell_row hHa 13
  have r14 := cell_row hHa 14
  clear hX2 hHy hby hHa
  have HSm := Lib.hid (same_msgE 0 xid (.slice none 0 0) (.slice an nums.length cn) (.slice none 0 0) (.slice ad ds.length cd) [] [] (L1 ae els.length ce) L els _ rfl HBl.out HEy.out HEz.out (Ints.nil _ _) HNy.out (Ints.nil _ _) HDy.out)
  go_wp2_with fail
  (with_reducible refine (hel_has 0 _).mono ?_)
  rintro e wc ⟨rfl, rfl⟩
  go_wp2_with fail
  (with_reducible refine HSm.out.mono ?_)
  rintro e w2 ⟨rfl, hb⟩
  have HB2 := Lib.hid (HBy.out.trans (hb.mono HBy.out.size))
  clear hb k1 HSm p0 p1 p2 p3 p4 p5 p6 p7 p8 p9 p10 p11 p12 p13 p14 q0 q1 q2 q3 q4 q5 q6 q7 q8 q9 q10 q11 q12 q13 q14 r0 r1 r2 r3 r4 r5 r6 r7 r8 r9 r10 r11 r12 r13 r14
  have HRe := hel_read (t := 0) (H3.out.below HB2.out) (by omega)
  rw [hrd] at HRe
  have HRe := Lib.hid HRe
  clear hrd
  go_wp2_with fail
  (with_reducible refine HRe.out.mono ?_)
  rintro e w4 ⟨vr, rfl, ho, hb⟩
  simp only at ho ⊢
  have HB4 := Lib.hid (HB2.out.trans (hb.mono HB2.out.size))
  have HO4 := Lib.hid (OutG.rows (R := ItemR) ho (fun h => ItmO.read h))
  obtain ⟨ar, cr, rfl⟩ := OutG.slice ho
  clear ho hb HRe
  have hR := heap_alloc_new w4 (.cells (msgE (.slice ar l.length cr)) 35)
  have HB5 := Lib.hid (HB4.out.trans ((below_alloc2 (w := w4) (.cells (msgE (.slice ar l.length cr)) 35)).mono HB4.out.size))
  have HO5 := Lib.hid (HO4.out.below ItemR.lasts (below_alloc2 (w := w4) (.cells (msgE (.slice ar l.length cr)) 35)))
  have y0 := cell_row hR 0
  have y1 := cell_row hR 1
  have y2 := cell_row hR 2
  have y3 := cell_row hR 3
  have y4 := cell_row hR 4
  have y5 := cell_row hR 5
  have y6 := cell_row hR 6
  have y7 := cell_row hR 7
  have y8 := cell_row hR 8
  have y9 := cell_row hR 9
  have y10 := cell_row hR 10
  have y11 := cell_row hR 11
  have y12 := cell_row hR 12
  have y13 := cell_row hR 13
  have y14 := cell_row hR 14
  have HR := Lib.hid hR
  have hpb := hel_body (ty := 0) (xid := 0) (an := none) (nn := 0) (cn := 0) (ad := none) (nd := 0) (cd := 0) (L := L1 ar l.length cr) HO5.out hfl hfd (fun W => bare_go 0 0 none 0 0 none 0 0 _ W)
  rw [show (decide (0 = 0) && bareL (L1 ar l.length cr).noEl && decide (0 = 0)) = true from rfl, hwb] at hpb
  have HPb := Lib.hid hpb
  clear hpb hR hwb hfl hfd
  go_wp2_with fail
  (with_reducible refine HPb.out.mono ?_)
  rintro e w6 ⟨vx, rfl, hx, hux, hb⟩
  simp only at hx hux ⊢
  have HX6 := Lib.hid (Ints.of_own hx hux.wf)
  have HB6 := Lib.hid (HB5.out.trans (hb.mono HB5.out.size))
  have HR6 := Lib.hid (row_below hb HR.out)
  obtain ⟨ax, cx, rfl⟩ := own_slice hx
  clear hx hux hb HPb y0 y1 y2 y3 y4 y5 y6 y7 y8 y9 y10 y11 y12 y13 y14
  have y0 := cell_row HR6.out 0
  have y1 := cell_row HR6.out 1
  have HBb := Lib.hid (bytes_same HX6.out (H3.out.below HB6.out))
  go_wp2_with fail
  (with_reducible refine HBb.out.mono ?_)
  rintro e w7 ⟨rfl, hb⟩
  have HB7 := Lib.hid (HB6.out.trans (hb.mono HB6.out.size))
  clear hb
  go_wp2_with fail
  (with_reducible refine (sure21 _).mono ?_)
  rintro e w8 ⟨rfl, hb⟩
  have HB8 := Lib.hid (HB7.out.trans (hb.mono HB7.out.size))
  clear hb
  go_wp2_with fail
  go_ret
  exact ⟨rfl, HB8.out⟩

theorem walk_HelloBack (v : Value) (m : MsgV) (t : Int) (v3 : Value) (bs : List Int) (w : World) (h1 : MsgOk w v m) (_h2 : (Lit.int .i64 t).wf = true) (h3 : Ints .u8 w v3 bs) :
    Calls Try.prog 5 #[v, .int .i64 t, v3] w fun e w' => e = .returned (.bool true) ∧ Below w.heap.size w w' := by
  by_cases hg : 2500 < bs.length
  · exact hb_many v m t v3 bs w h1 h3 hg
  have hrd : (∃ er, er ≠ 0 ∧ readH t bs = ([], er)) ∨ (∃ l, readH t bs = (l, 0) ∧ t = 0 ∧ bodyH 0 true l = (bs, 0) ∧ l.length ≤ bs.length ∧ ∀ x ∈ l, x.2.length ≤ bs.length) := by
    by_cases he : (readH t bs).2 = 0
    · obtain ⟨k1, k2⟩ := bodyH_read h3.u8 he
      refine .inr ⟨(readH t bs).1, by rw [← he], k2, k1, ?_⟩
      exact bodyH_few k1
    · exact .inl ⟨(readH t bs).2, he, by rw [← readH_err he]⟩
  have hbd : bodyH m.ty (decide (m.nums.length = 0) && bareL m.L.noEl && decide (m.ds.length = 0)) m.els = ([], 10001) ∨ (∃ bb, bb.length ≤ 100000 ∧ bodyH m.ty (decide (m.nums.length = 0) && bareL m.L.noEl && decide (m.ds.length = 0)) m.els = (bb, 0) ∧ readH 0 bb = (m.els, 0) ∧ m.ty = 0 ∧ m.nums.length = 0 ∧ m.ds.length = 0 ∧ bareL m.L.noEl = true) := by
    rcases bodyH_cases m.ty (decide (m.nums.length = 0) && bareL m.L.noEl && decide (m.ds.length = 0)) m.els with ⟨k1, k2, k3, -, k5, k6⟩ | ⟨k1, -⟩
    · right
      have hr := readH_body (ty := m.ty) (bare := (decide (m.nums.length = 0) && bareL m.L.noEl && decide (m.ds.length = 0))) (els := m.els) (by rw [k1])
      rw [k1] at hr
      simp only [Bool.and_eq_true, decide_eq_true_eq] at k3
      exact ⟨(shH.join m.els).1, by omega, k1, by have := hr.1; rw [k2] at this; exact this, k2, k3.1.1, k3.2, k3.1.2⟩
    · exact .inl k1
  rcases hbd with hbd | ⟨bb, hbb, hbd, hrb, hty, hnn, hdd, hbl⟩
  · rcases hrd with ⟨er, her, hrd⟩ | ⟨l, hrd, ht, hwb, hfl, hfd⟩
    · exact hb_FalseFalse v m t v3 bs w h1 h3 hg hbd er her hrd
    · exact hb_FalseTrue v m t v3 bs w h1 h3 hg hbd l hrd ht hwb (by omega) (fun x hx => by have := hfd x hx; omega)
  · rcases hrd with ⟨er, her, hrd⟩ | ⟨l, hrd, ht, hwb, hfl, hfd⟩
    · exact hb_TrueFalse v m t v3 bs w h1 h3 hg bb hbb hbd hrb hty hnn hdd hbl er her hrd
    · exact hb_TrueTrue v m t v3 bs w h1 h3 hg bb hbb hbd hrb hty hnn hdd hbl l hrd ht hwb (by omega) (fun x hx => by have := hfd x hx; omega)
end Go.Proofs.Ytcebcncpbedkmaa
