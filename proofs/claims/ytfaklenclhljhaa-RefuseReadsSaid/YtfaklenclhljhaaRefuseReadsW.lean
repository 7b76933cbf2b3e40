/- The walk of the law 'RefuseReads': it returns true. Conditions: the arguments read as an int and a list of bytes. -/
import Derived.Test.YtfaklenclhljhaaRfB
import Derived.Test.YtfaklenclhljhaaRfD
namespace Go.Proofs.Ytfaklenclhljhaa
open Go.RowKit

set_option maxRecDepth 100000 in
set_option maxHeartbeats 4000000 in
theorem walk_RefuseReads (t : Int) (v2 : Value) (bs : List Int) (w : World) (_h1 : (Lit.int .i64 t).wf = true) (h2 : Ints .u8 w v2 bs) :
    Calls Try.prog 8 #[.int .i64 t, v2] w fun e w' => e = .returned (.bool true) ∧ Below w.heap.size w w' := by
  have hle := h2.le
  have H2 := Lib.hid h2
  obtain ⟨a2, cap2, b2, off2, rfl, -⟩ := h2.open
  clear h2
  by_cases g1 : 2500 < bs.length
  · go_enter Try.func8, Try.ntmps8
    go_wp2_with (go_at_call 20; (with_reducible refine (sure26 _).mono ?_); rintro e w' ⟨rfl, hb⟩)
    go_ret
    exact ⟨rfl, hb⟩
  have HR : ∀ w, Ints .u8 w (.slice a2 bs.length cap2) bs → Hid (Calls Try.prog 29 #[.int .i64 t, .slice a2 bs.length cap2] w (GotMsgD w (readR t bs).1.1 (readR t bs).1.2.1 (readR t bs).1.2.2 (readR t bs).2)) := fun w h => refuse_read t _ bs w h (by omega)
  have HR2 : ∀ w, Ints .u8 w (.slice a2 bs.length cap2) bs → Hid (Calls Try.prog 30 #[.int .i64 t, .slice a2 bs.length cap2] w (GotMsgD w (readR t bs).1.1 (readR t bs).1.2.1 (readR t bs).1.2.2 (readR t bs).2)) := fun w h => ref_read26 t _ bs w h (by omega)
  generalize (readR t bs).1.1 = ty at HR HR2
  generalize (readR t bs).1.2.1 = l at HR HR2
  generalize (readR t bs).1.2.2 = ds at HR HR2
  generalize (readR t bs).2 = er at HR HR2
  have HR1 := HR w H2.out
  go_enter Try.func8, Try.ntmps8
  go_wp2_with fail
  (with_reducible refine HR1.out.mono ?_)
  rintro e w1 ⟨vn, vd, rfl, hn, hd, hb⟩
  have HN1 := Lib.hid hn
  have HD1 := Lib.hid hd
  obtain ⟨an, cn, bn, on, rfl, -⟩ := hn.open
  obtain ⟨dn, fn, bdn, odn, rfl, -⟩ := hd.open
  have HB1 := Lib.hid hb
  clear hb hn hd
  have HRb := HR2 (w1.alloc (.cells (msgA ty (.slice an l.length cn) (.slice dn ds.length fn)) 35)) ((H2.out.below HB1.out).alloc _)
  go_wp2_with fail
  (with_reducible refine HRb.out.mono ?_)
  rintro e w2 ⟨vm, vd, rfl, hm, hd, hb⟩
  have HM2 := Lib.hid hm
  have HF2 := Lib.hid hd
  obtain ⟨am, cm, bm, om, rfl, -⟩ := hm.open
  obtain ⟨dm, fm, bdm, odm, rfl, -⟩ := hd.open
  have HB2 := Lib.hid (HB1.out.trans ((below1 hb).mono HB1.out.size))
  have HN2 := Lib.hid ((HN1.out.alloc _).below hb)
  have HD2 := Lib.hid ((HD1.out.alloc _).below hb)
  have HH2 := Lib.hid ((hb.block w1.heap.size (by simp)).trans (heap_alloc_new _ _))
  clear hb hm hd
  go_wp2_with (refine wpList_store_rowTo rfl 35 _ _ rfl rfl w2.heap.size (msgA ty (.slice am l.length cm) (.slice dm ds.length fm)) rfl rfl _ _ (heap_alloc_new _ _) (by kernel_rfl) (by kernel_rfl) (by kernel_rfl) ?_; rw [alloc_setRow]; have hb3 := Lib.hid (HB2.out.alloc HB2.out.size (.cells (msgA ty (.slice am l.length cm) (.slice dm ds.length fm)) 35)); have hn3 := Lib.hid (HN2.out.alloc (.cells (msgA ty (.slice am l.length cm) (.slice dm ds.length fm)) 35)); have hd3 := Lib.hid (HD2.out.alloc (.cells (msgA ty (.slice am l.length cm) (.slice dm ds.length fm)) 35)); have hm3 := Lib.hid (HM2.out.alloc (.cells (msgA ty (.slice am l.length cm) (.slice dm ds.length fm)) 35)); have hf3 := Lib.hid (HF2.out.alloc (.cells (msgA ty (.slice am l.length cm) (.slice dm ds.length fm)) 35)); have HHb := heap_alloc_new w2 (.cells (msgA ty (.slice am l.length cm) (.slice dm ds.length fm)) 35); have HHa := ((below_alloc2 (w := w2) (.cells (msgA ty (.slice am l.length cm) (.slice dm ds.length fm)) 35)).block w1.heap.size ((Array.getElem?_eq_some_iff.1 HH2.out).1)).trans HH2.out; generalize w2.alloc (.cells (msgA ty (.slice am l.length cm) (.slice dm ds.length fm)) 35) = w3 at hb3 hn3 hd3 hm3 hf3 HHa HHb ⊢; have c0 := cell_heap HHa 0; have e0 := cell_heap HHb 0; have c1 := cell_heap HHa 1; have e1 := cell_heap HHb 1; have c2 := cell_heap HHa 2; have e2 := cell_heap HHb 2; have c3 := cell_heap HHa 3; have e3 := cell_heap HHb 3; have c4 := cell_heap HHa 4; have e4 := cell_heap HHb 4; have c5 := cell_heap HHa 5; have e5 := cell_heap HHb 5; have c6 := cell_heap HHa 6; have e6 := cell_heap HHb 6; have c7 := cell_heap HHa 7; have e7 := cell_heap HHb 7; have c8 := cell_heap HHa 8; have e8 := cell_heap HHb 8; have c9 := cell_heap HHa 9; have e9 := cell_heap HHb 9; have c10 := cell_heap HHa 10; have e10 := cell_heap HHb 10; have c11 := cell_heap HHa 11; have e11 := cell_heap HHb 11; have c12 := cell_heap HHa 12; have e12 := cell_heap HHb 12; have c13 := cell_heap HHa 13; have e13 := cell_heap HHb 13; have c14 := cell_heap HHa 14; have e14 := cell_heap HHb 14; clear HHa HHb)
  (with_reducible refine (same_msg ty _ _ _ _ l ds _ hn3.out hm3.out hd3.out hf3.out).mono ?_)
  rintro e w4 ⟨rfl, hb⟩
  have HB4 := Lib.hid (hb3.out.trans (hb.mono hb3.out.size))
  clear hb
  go_wp2_with fail
  (with_reducible refine (sure26 _).mono ?_)
  rintro e w5 ⟨rfl, hb⟩
  have HB5 := Lib.hid (HB4.out.trans (hb.mono HB4.out.size))
  clear hb
  go_wp2_with fail
  go_ret
  exact ⟨rfl, HB5.out⟩
end Go.Proofs.Ytfaklenclhljhaa
