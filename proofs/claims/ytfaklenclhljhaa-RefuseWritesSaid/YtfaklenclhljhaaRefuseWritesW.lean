/- The walk of the law 'RefuseWrites': it returns true. Conditions: the arguments read as a message and an int. -/
import Derived.Test.YtfaklenclhljhaaMsgA
import Derived.Test.YtfaklenclhljhaaBodyE
namespace Go.Proofs.Ytfaklenclhljhaa
open Go.RowKit

theorem ref_has26 (t : Int) (w : World) : Calls Try.prog 24 #[.int .i64 t] w fun e w' => e = .returned (.bool (rowR t).2) ∧ Below w.heap.size w w' := by
  have HR := Lib.hid (ref_row26 t w)
  go_enter Try.func24, Try.ntmps24
  go_wp2_with (go_at_call 64; (with_reducible refine HR.out.mono ?_); rintro e w1 ⟨vw, rfl, hw, hb⟩; have HB1 := Lib.hid hb; clear hw hb)
  go_ret
  exact ⟨rfl, HB1.out⟩

set_option maxRecDepth 100000 in
set_option maxHeartbeats 4000000 in
theorem walk_RefuseWrites (v : Value) (m : MsgV) (t : Int) (w : World) (h1 : MsgOk w v m) (_h2 : (Lit.int .i64 t).wf = true) :
    Calls Try.prog 6 #[v, .int .i64 t] w fun e w' => e = .returned (.bool true) ∧ Below w.heap.size w w' := by
  have HFw := fun (w' : World) (hb : Below w.heap.size w w') => Lib.hid (few_msg (h1.since hb))
  obtain ⟨an, cn, ad, cd, rfl, hn, hd⟩ := h1.cut
  have HN := Lib.hid hn
  have HD := Lib.hid hd
  have HF := HFw (w.alloc (.cells (msgL m.ty m.xid (.slice an m.nums.length cn) (.slice ad m.ds.length cd) m.L) 35)) (below_alloc2 _)
  clear hn hd
  go_enter Try.func6, Try.ntmps6
  go_wp2_with fail
  (with_reducible refine HF.out.mono ?_)
  rintro e w1 ⟨⟨bf, rfl, hbf⟩, hb⟩
  have HB1 := Lib.hid (below1 hb)
  have HH1 := Lib.hid ((hb.block w.heap.size (by simp)).trans (heap_alloc_new _ _))
  clear hb
  cases bf
  case false =>
    go_wp2_with fail
    (with_reducible refine (sure26 _).mono ?_)
    rintro e w2 ⟨rfl, hb⟩
    have HB2 := Lib.hid (HB1.out.trans (hb.mono HB1.out.size))
    clear hb
    go_wp2_with fail
    go_ret
    exact ⟨rfl, HB2.out⟩
  have hle := hbf rfl
  have k0 := cell_heap HH1.out 0
  have k1 := cell_heap HH1.out 1
  have k2 := cell_heap HH1.out 2
  have k3 := cell_heap HH1.out 3
  have k4 := cell_heap HH1.out 4
  have k5 := cell_heap HH1.out 5
  have k6 := cell_heap HH1.out 6
  have k7 := cell_heap HH1.out 7
  have k8 := cell_heap HH1.out 8
  have k9 := cell_heap HH1.out 9
  have k10 := cell_heap HH1.out 10
  have k11 := cell_heap HH1.out 11
  have k12 := cell_heap HH1.out 12
  have k13 := cell_heap HH1.out 13
  have k14 := cell_heap HH1.out 14
  have HP := Lib.hid (refuse_body m.ty m.xid _ _ m.nums m.ds m.L w1 (HN.out.below HB1.out) (HD.out.below HB1.out) hle.2)
  have HRx : ∀ w1, Below w.heap.size w w1 → Hid (Calls Try.prog 22 #[.agg (msgL m.ty m.xid (.slice an m.nums.length cn) (.slice ad m.ds.length cd) m.L)] w1 (fun e w' => ∃ vb, e = .returned (.tuple #[vb, .int .i64 (bodyR m.ty m.nums m.ds (bareL m.L)).2]) ∧ Ints .u8 w' vb (bodyR m.ty m.nums m.ds (bareL m.L)).1 ∧ Below w1.heap.size w1 w')) := fun w1 hb1 => ref_body26 m.ty m.xid _ _ m.nums m.ds m.L w1 (HN.out.below hb1) (HD.out.below hb1) hle.2
  generalize (bodyR m.ty m.nums m.ds (bareL m.L)).1 = bs at HP HRx
  generalize (bodyR m.ty m.nums m.ds (bareL m.L)).2 = er at HP HRx
  go_wp2_with fail
  (with_reducible refine HP.out.mono ?_)
  rintro e w2 ⟨vb, rfl, hv, hb⟩
  have HV2 := Lib.hid hv
  have HB2 := Lib.hid (HB1.out.trans (hb.mono HB1.out.size))
  have HH2 := Lib.hid ((hb.block w.heap.size (Array.getElem?_eq_some_iff.1 HH1.out).1).trans HH1.out)
  obtain ⟨av, cv, bv, ov, rfl, -⟩ := hv.open
  clear hb hv k0 k1 k2 k3 k4 k5 k6 k7 k8 k9 k10 k11 k12 k13 k14
  have k0 := cell_heap HH2.out 0
  have k1 := cell_heap HH2.out 1
  have k2 := cell_heap HH2.out 2
  have k3 := cell_heap HH2.out 3
  have k4 := cell_heap HH2.out 4
  have k5 := cell_heap HH2.out 5
  have k6 := cell_heap HH2.out 6
  have k7 := cell_heap HH2.out 7
  have k8 := cell_heap HH2.out 8
  have k9 := cell_heap HH2.out 9
  have k10 := cell_heap HH2.out 10
  have k11 := cell_heap HH2.out 11
  have k12 := cell_heap HH2.out 12
  have k13 := cell_heap HH2.out 13
  have k14 := cell_heap HH2.out 14
  have HR := HRx w2 HB2.out
  go_wp2_with fail
  (with_reducible refine HR.out.mono ?_)
  rintro e w3 ⟨vr, rfl, hr, hb⟩
  have HV3 := Lib.hid (HV2.out.below hb)
  have HR3 := Lib.hid hr
  have HB3 := Lib.hid (HB2.out.trans (hb.mono HB2.out.size))
  obtain ⟨ar, cr, br, or, rfl, -⟩ := hr.open
  clear hb hr k0 k1 k2 k3 k4 k5 k6 k7 k8 k9 k10 k11 k12 k13 k14
  have HA1 := fun w => Lib.hid (refuse_has t w)
  have HA2 := fun w => Lib.hid (ref_has26 t w)
  generalize (rowR t).2 = is at HA1 HA2
  go_wp2_with fail
  (with_reducible refine (HA1 _).out.mono ?_)
  rintro e w4 ⟨rfl, hb⟩
  have HV4 := Lib.hid (HV3.out.below hb)
  have HR4 := Lib.hid (HR3.out.below hb)
  have HB4 := Lib.hid (HB3.out.trans (hb.mono HB3.out.size))
  clear hb
  go_wp2_with fail
  (with_reducible refine (HA2 _).out.mono ?_)
  rintro e w5 ⟨rfl, hb⟩
  have HV5 := Lib.hid (HV4.out.below hb)
  have HR5 := Lib.hid (HR4.out.below hb)
  have HB5 := Lib.hid (HB4.out.trans (hb.mono HB4.out.size))
  clear hb
  have hi : (is == is) = true := by simp
  have he : (er == er) = true := by simp
  go_wp2_with fail
  (with_reducible refine (bytes_same HV5.out HR5.out).mono ?_)
  rintro e w6 ⟨rfl, hb⟩
  have HB6 := Lib.hid (HB5.out.trans (hb.mono HB5.out.size))
  clear hb
  go_wp2_with fail
  (with_reducible refine (sure26 _).mono ?_)
  rintro e w7 ⟨rfl, hb⟩
  have HB7 := Lib.hid (HB6.out.trans (hb.mono HB6.out.size))
  clear hb
  go_wp2_with fail
  go_ret
  exact ⟨rfl, HB7.out⟩
end Go.Proofs.Ytfaklenclhljhaa
