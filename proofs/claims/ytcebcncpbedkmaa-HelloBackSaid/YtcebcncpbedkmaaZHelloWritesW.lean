/- The walk of the law 'HelloWrites': it returns true. Conditions: the arguments read as a message and an int. -/
import Derived.Test.YtcebcncpbedkmaaZHelS
import Derived.Test.YtcebcncpbedkmaaZHelF
namespace Go.Proofs.Ytcebcncpbedkmaa
open Go Go.RowKit
set_option maxRecDepth 100000
set_option maxHeartbeats 8000000

theorem go_body_msg {ty xid : Int} {an ad : Option Addr} {nn cn nd cd : Nat} {L : Lens} {els : List Elt} {w : World} (h4 : RowsOf ItemR 2 w (.slice L.a4 L.n4 L.c4) els) (hl : els.length ≤ 20) (hd : ∀ x ∈ els, x.2.length ≤ 500) :
    Calls Try.prog 8 #[.agg (msgL ty xid (.slice an nn cn) (.slice ad nd cd) L)] w (GotBody (bodyH ty (decide (nn = 0) && bareL L.noEl && decide (nd = 0)) els) w) :=
  hel_body h4 (by omega) (fun x hx => by have := hd x hx; omega) (fun W => bare_go ty xid an nn cn ad nd cd _ W)
theorem ref_body_msg {ty xid : Int} {an ad : Option Addr} {nn cn nd cd : Nat} {L : Lens} {els : List Elt} {w : World} (h4 : RowsOf ItemR 2 w (.slice L.a4 L.n4 L.c4) els) (hl : els.length ≤ 20) (hd : ∀ x ∈ els, x.2.length ≤ 500) :
    Calls Try.prog 9 #[.agg (msgL ty xid (.slice an nn cn) (.slice ad nd cd) L)] w (GotBody (bodyH ty (decide (nn = 0) && bareL L.noEl && decide (nd = 0)) els) w) :=
  hel_rbody h4 (by omega) (fun x hx => by have := hd x hx; omega) (fun W => bare_ref ty xid an nn cn ad nd cd _ W)

theorem walk_HelloWrites (v : Value) (m : MsgV) (t : Int) (w : World) (h1 : MsgOk w v m) (_h2 : (Lit.int .i64 t).wf = true) :
    Calls Try.prog 3 #[v, .int .i64 t] w fun e w' => e = .returned (.bool true) ∧ Below w.heap.size w w' := by
  have HFw := fun (w' : World) (hb : Below w.heap.size w w') => Lib.hid (few_msg (h1.since hb))
  have HE := Lib.hid h1.elems
  obtain ⟨an, cn, ad, cd, rfl, hn, hd⟩ := h1.cut
  have HF := HFw (w.alloc (.cells (msgL m.ty m.xid (.slice an m.nums.length cn) (.slice ad m.ds.length cd) m.L) 35)) (below_alloc2 _)
  clear hn hd
  go_enter Try.func3, Try.ntmps3
  go_wp2_with fail
  (with_reducible refine HF.out.mono ?_)
  rintro e w1 ⟨⟨bf, rfl, hbf⟩, hb⟩
  have HB1 := Lib.hid (below1 hb)
  have HH1 := Lib.hid ((hb.block w.heap.size (by simp)).trans (heap_alloc_new _ _))
  clear hb
  cases bf
  case false =>
    go_wp2_with fail
    (with_reducible refine (sure21 _).mono ?_)
    rintro e w2 ⟨rfl, hb⟩
    have HB2 := Lib.hid (HB1.out.trans (hb.mono HB1.out.size))
    clear hb
    go_wp2_with fail
    go_ret
    exact ⟨rfl, HB2.out⟩
  obtain ⟨-, hl, hdl⟩ := hbf rfl
  have k0 := cell_row HH1.out 0
  have k1 := cell_row HH1.out 1
  have k2 := cell_row HH1.out 2
  have k3 := cell_row HH1.out 3
  have k4 := cell_row HH1.out 4
  have k5 := cell_row HH1.out 5
  have k6 := cell_row HH1.out 6
  have k7 := cell_row HH1.out 7
  have k8 := cell_row HH1.out 8
  have k9 := cell_row HH1.out 9
  have k10 := cell_row HH1.out 10
  have k11 := cell_row HH1.out 11
  have k12 := cell_row HH1.out 12
  have k13 := cell_row HH1.out 13
  have k14 := cell_row HH1.out 14
  have HP := Lib.hid (go_body_msg (ty := m.ty) (xid := m.xid) (an := an) (nn := m.nums.length) (cn := cn) (ad := ad) (nd := m.ds.length) (cd := cd) (HE.out.below ItemR.lasts HB1.out) hl hdl)
  have HRx : ∀ w1, Below w.heap.size w w1 → Hid (Calls Try.prog 9 #[.agg (msgL m.ty m.xid (.slice an m.nums.length cn) (.slice ad m.ds.length cd) m.L)] w1 (GotBody (bodyH m.ty (decide (m.nums.length = 0) && bareL m.L.noEl && decide (m.ds.length = 0)) m.els) w1)) := fun w1 hb1 => ref_body_msg (HE.out.below ItemR.lasts hb1) hl hdl
  generalize bodyH m.ty (decide (m.nums.length = 0) && bareL m.L.noEl && decide (m.ds.length = 0)) m.els = r at HP HRx
  obtain ⟨bs, er⟩ := r
  clear hdl hbf
  go_wp2_with fail
  (with_reducible refine HP.out.mono ?_)
  rintro e w2 ⟨vb, rfl, hv, hu, hb⟩
  simp only at hv hu ⊢
  have HV2 := Lib.hid (Ints.of_own hv hu.wf)
  have HB2 := Lib.hid (HB1.out.trans (hb.mono HB1.out.size))
  have HH2 := Lib.hid ((hb.block w.heap.size (Array.getElem?_eq_some_iff.1 HH1.out).1).trans HH1.out)
  obtain ⟨av, cv, rfl⟩ := own_slice hv
  clear hb hv hu k0 k1 k2 k3 k4 k5 k6 k7 k8 k9 k10 k11 k12 k13 k14
  have k0 := cell_row HH2.out 0
  have k1 := cell_row HH2.out 1
  have k2 := cell_row HH2.out 2
  have k3 := cell_row HH2.out 3
  have k4 := cell_row HH2.out 4
  have k5 := cell_row HH2.out 5
  have k6 := cell_row HH2.out 6
  have k7 := cell_row HH2.out 7
  have k8 := cell_row HH2.out 8
  have k9 := cell_row HH2.out 9
  have k10 := cell_row HH2.out 10
  have k11 := cell_row HH2.out 11
  have k12 := cell_row HH2.out 12
  have k13 := cell_row HH2.out 13
  have k14 := cell_row HH2.out 14
  have HR := HRx w2 HB2.out
  go_wp2_with fail
  (with_reducible refine HR.out.mono ?_)
  rintro e w3 ⟨vr, rfl, hr, hu, hb⟩
  simp only at hr hu ⊢
  have HV3 := Lib.hid (HV2.out.below hb)
  have HR3 := Lib.hid (Ints.of_own hr hu.wf)
  have HB3 := Lib.hid (HB2.out.trans (hb.mono HB2.out.size))
  obtain ⟨ar, cr, rfl⟩ := own_slice hr
  clear hb hr hu k0 k1 k2 k3 k4 k5 k6 k7 k8 k9 k10 k11 k12 k13 k14
  go_wp2_with fail
  (with_reducible refine (hel_has t _).mono ?_)
  rintro e w4 ⟨rfl, rfl⟩
  go_wp2_with fail
  (with_reducible refine (ref_has t _).mono ?_)
  rintro e w4 ⟨rfl, rfl⟩
  have hi : ((t == 0) == (t == 0)) = true := by simp
  have he : (er == er) = true := by simp
  go_wp2_with fail
  (with_reducible refine (bytes_same HV3.out HR3.out).mono ?_)
  rintro e w6 ⟨rfl, hb⟩
  have HB6 := Lib.hid (HB3.out.trans (hb.mono HB3.out.size))
  clear hb
  go_wp2_with fail
  (with_reducible refine (sure21 _).mono ?_)
  rintro e w7 ⟨rfl, hb⟩
  have HB7 := Lib.hid (HB6.out.trans (hb.mono HB6.out.size))
  clear hb
  go_wp2_with fail
  go_ret
  exact ⟨rfl, HB7.out⟩
end Go.Proofs.Ytcebcncpbedkmaa
