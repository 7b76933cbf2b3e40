/- The walk of the law 'PlainReads': it returns true. Conditions: the arguments read as an int and a list of bytes. -/
import Derived.Test.YtfaklenclhljhaaPlE
namespace Go.Proofs.Ytfaklenclhljhaa
open Go.RowKit

theorem alloc_setRow (w : World) (cs cs' : Array Value) (t : TypeId) : (w.alloc (.cells cs t)).setRow w.heap.size cs' = w.alloc (.cells cs' t) := by
  show ({ w with heap := (w.heap.push _).modify w.heap.size _ } : World) = { w with heap := w.heap.push _ }
  congr 1
  apply Array.ext
  · simp
  · intro i h1 h2
    rw [Array.getElem_modify]
    by_cases h : w.heap.size = i
    · subst h; simp
    · rw [if_neg h]
      have : i < w.heap.size := by simp at h2; omega
      rw [Array.getElem_push_lt this, Array.getElem_push_lt this]

set_option maxRecDepth 100000 in
set_option maxHeartbeats 4000000 in
theorem walk_PlainReads (t : Int) (v2 : Value) (bs : List Int) (w : World) (_h1 : (Lit.int .i64 t).wf = true) (h2 : Ints .u8 w v2 bs) :
    Calls Try.prog 4 #[.int .i64 t, v2] w fun e w' => e = .returned (.bool true) ∧ Below w.heap.size w w' := by
  have hle := h2.le
  have H2 := Lib.hid h2
  obtain ⟨a2, cap2, b2, off2, rfl, -⟩ := h2.open
  clear h2
  by_cases g1 : 2500 < bs.length
  · go_enter Try.func4, Try.ntmps4
    go_wp2_with (go_at_call 11; (with_reducible refine (sure22 _).mono ?_); rintro e w' ⟨rfl, hb⟩)
    go_ret
    exact ⟨rfl, hb⟩
  have HR : ∀ w, Ints .u8 w (.slice a2 bs.length cap2) bs → Hid (Calls Try.prog 17 #[.int .i64 t, .slice a2 bs.length cap2] w (GotMsg w (readS t bs).1.1 (readS t bs).1.2 (readS t bs).2)) := fun w h => plain_read t _ bs w h (by omega)
  have HR2 : ∀ w, Ints .u8 w (.slice a2 bs.length cap2) bs → Hid (Calls Try.prog 18 #[.int .i64 t, .slice a2 bs.length cap2] w (GotMsg w (readS t bs).1.1 (readS t bs).1.2 (readS t bs).2)) := fun w h => ref_read22 t _ bs w h (by omega)
  generalize (readS t bs).1.1 = ty at HR HR2
  generalize (readS t bs).1.2 = l at HR HR2
  generalize (readS t bs).2 = er at HR HR2
  have HR1 := HR w H2.out
  go_enter Try.func4, Try.ntmps4
  go_wp2_with fail
  (with_reducible refine HR1.out.mono ?_)
  rintro e w1 ⟨vn, rfl, hn, hb⟩
  have HN1 := Lib.hid hn
  obtain ⟨an, cn, bn, on, rfl, -⟩ := hn.open
  have HB1 := Lib.hid hb
  clear hb hn
  have HRb := HR2 (w1.alloc (.cells (msgA ty (.slice an l.length cn) nilV) 35)) ((H2.out.below HB1.out).alloc _)
  go_wp2_with fail
  (with_reducible refine HRb.out.mono ?_)
  rintro e w2 ⟨vm, rfl, hm, hb⟩
  have HM2 := Lib.hid hm
  obtain ⟨am, cm, bm, om, rfl, -⟩ := hm.open
  have HB2 := Lib.hid (HB1.out.trans ((below1 hb).mono HB1.out.size))
  have HN2 := Lib.hid ((HN1.out.alloc _).below hb)
  have HH2 := Lib.hid ((hb.block w1.heap.size (by simp)).trans (heap_alloc_new _ _))
  clear hb hm
  go_wp2_with (refine wpList_store_rowTo rfl 35 _ _ rfl rfl w2.heap.size (msgA ty (.slice am l.length cm) nilV) rfl rfl _ _ (heap_alloc_new _ _) (by kernel_rfl) (by kernel_rfl) (by kernel_rfl) ?_; rw [alloc_setRow]; have hb3 := Lib.hid (HB2.out.alloc HB2.out.size (.cells (msgA ty (.slice am l.length cm) nilV) 35)); have hn3 := Lib.hid (HN2.out.alloc (.cells (msgA ty (.slice am l.length cm) nilV) 35)); have hm3 := Lib.hid (HM2.out.alloc (.cells (msgA ty (.slice am l.length cm) nilV) 35)); have HHb := heap_alloc_new w2 (.cells (msgA ty (.slice am l.length cm) nilV) 35); have HHa := ((below_alloc2 (w := w2) (.cells (msgA ty (.slice am l.length cm) nilV) 35)).block w1.heap.size ((Array.getElem?_eq_some_iff.1 HH2.out).1)).trans HH2.out; generalize w2.alloc (.cells (msgA ty (.slice am l.length cm) nilV) 35) = w3 at hb3 hn3 hm3 HHa HHb ⊢; have c0 := cell_heap HHa 0; have e0 := cell_heap HHb 0; have c1 := cell_heap HHa 1; have e1 := cell_heap HHb 1; have c2 := cell_heap HHa 2; have e2 := cell_heap HHb 2; have c3 := cell_heap HHa 3; have e3 := cell_heap HHb 3; have c4 := cell_heap HHa 4; have e4 := cell_heap HHb 4; have c5 := cell_heap HHa 5; have e5 := cell_heap HHb 5; have c6 := cell_heap HHa 6; have e6 := cell_heap HHb 6; have c7 := cell_heap HHa 7; have e7 := cell_heap HHb 7; have c8 := cell_heap HHa 8; have e8 := cell_heap HHb 8; have c9 := cell_heap HHa 9; have e9 := cell_heap HHb 9; have c10 := cell_heap HHa 10; have e10 := cell_heap HHb 10; have c11 := cell_heap HHa 11; have e11 := cell_heap HHb 11; have c12 := cell_heap HHa 12; have e12 := cell_heap HHb 12; have c13 := cell_heap HHa 13; have e13 := cell_heap HHb 13; have c14 := cell_heap HHa 14; have e14 := cell_heap HHb 14; clear HHa HHb)
  (with_reducible refine (same_msg ty _ _ _ _ l [] _ hn3.out hm3.out (Ints.nil _ _) (Ints.nil _ _)).mono ?_)
  rintro e w4 ⟨rfl, hb⟩
  have HB4 := Lib.hid (hb3.out.trans (hb.mono hb3.out.size))
  clear hb
  go_wp2_with fail
  (with_reducible refine (sure22 _).mono ?_)
  rintro e w5 ⟨rfl, hb⟩
  have HB5 := Lib.hid (HB4.out.trans (hb.mono HB4.out.size))
  clear hb
  go_wp2_with fail
  go_ret
  exact ⟨rfl, HB5.out⟩
end Go.Proofs.Ytfaklenclhljhaa
