/- The walk of the law 'HelloReads': it returns true. Conditions: the arguments read as an int and a list of bytes. -/
import Derived.Test.YtcebcncpbedkmaaZHelS
import Derived.Test.YtcebcncpbedkmaaZHelF
import Derived.Test.YtcebcncpbedkmaaZHelE
namespace Go.Proofs.Ytcebcncpbedkmaa
open Go Go.RowKit
set_option maxRecDepth 100000
set_option maxHeartbeats 8000000

/-- The document's Same of two messages that have nothing but the same elements. -/
theorem same_E {a1 a2 : Option Addr} {n1 n2 c1 c2 : Nat} {els : List Elt} {w : World} (g1 : RowsOf ItemR 2 w (.slice a1 n1 c1) els) (g2 : RowsOf ItemR 2 w (.slice a2 n2 c2) els) :
    Calls Try.prog 15 #[.agg (msgE (.slice a1 n1 c1)), .agg (msgE (.slice a2 n2 c2))] w fun e w' => e = .returned (.bool true) ∧ Below w.heap.size w w' :=
  same_msgE 0 0 (.slice none 0 0) (.slice none 0 0) (.slice none 0 0) (.slice none 0 0) [] [] (L1 a1 n1 c1) (L1 a2 n2 c2) els w rfl rfl g1 g2 (Ints.nil _ _) (Ints.nil _ _) (Ints.nil _ _) (Ints.nil _ _)

theorem walk_HelloReads (t : Int) (v2 : Value) (bs : List Int) (w : World) (_h1 : (Lit.int .i64 t).wf = true) (h2 : Ints .u8 w v2 bs) :
    Calls Try.prog 4 #[.int .i64 t, v2] w fun e w' => e = .returned (.bool true) ∧ Below w.heap.size w w' := by
  have hle := h2.le
  have H2 := Lib.hid h2
  obtain ⟨a2, cap2, b2, off2, rfl, -⟩ := h2.open
  clear h2
  by_cases g1 : 2500 < bs.length
  · go_enter Try.func4, Try.ntmps4
    go_wp2_with (go_at_call 7; (with_reducible refine (sure21 _).mono ?_); rintro e w' ⟨rfl, hb⟩)
    go_ret
    exact ⟨rfl, hb⟩
  have HR : ∀ w, Ints .u8 w (.slice a2 bs.length cap2) bs → Hid (Calls Try.prog 13 #[.int .i64 t, .slice a2 bs.length cap2] w (GotRead (readH t bs) w)) := fun w h => hel_read h (by omega)
  have HR2 : ∀ w, Ints .u8 w (.slice a2 bs.length cap2) bs → Hid (Calls Try.prog 14 #[.int .i64 t, .slice a2 bs.length cap2] w (GotRead (readH t bs) w)) := fun w h => ref_read21 h (by omega)
  generalize readH t bs = r at HR HR2
  obtain ⟨els, er⟩ := r
  have HR1 := HR w H2.out
  go_enter Try.func4, Try.ntmps4
  go_wp2_with fail
  (with_reducible refine HR1.out.mono ?_)
  rintro e w1 ⟨vn, rfl, hn, hb⟩
  simp only at hn ⊢
  have HN1 := Lib.hid (OutG.rows (R := ItemR) hn (fun h => ItmO.read h))
  obtain ⟨an, cn, rfl⟩ := OutG.slice hn
  have HB1 := Lib.hid hb
  clear hb hn
  have HRb := HR2 (w1.alloc (.cells (msgE (.slice an els.length cn)) 35)) ((H2.out.below HB1.out).alloc _)
  go_wp2_with fail
  (with_reducible refine HRb.out.mono ?_)
  rintro e w2 ⟨vm, rfl, hm, hb⟩
  simp only at hm ⊢
  have HM2 := Lib.hid (OutG.rows (R := ItemR) hm (fun h => ItmO.read h))
  obtain ⟨am, cm, rfl⟩ := OutG.slice hm
  have HB2 := Lib.hid (HB1.out.trans ((below1 hb).mono HB1.out.size))
  have HN2 := Lib.hid ((HN1.out.below ItemR.lasts (below_alloc2 _)).below ItemR.lasts hb)
  have hHa := row_below (below_alloc2 (w := w2) (.cells (msgE (.slice am els.length cm)) 35)) ((hb.block w1.heap.size (by simp)).trans (heap_alloc_new _ _))
  have hHb := heap_alloc_new w2 (.cells (msgE (.slice am els.length cm)) 35)
  have HB3 := Lib.hid (HB2.out.trans ((below_alloc2 (w := w2) (.cells (msgE (.slice am els.length cm)) 35)).mono HB2.out.size))
  have HN3 := Lib.hid (HN2.out.below ItemR.lasts (below_alloc2 (w := w2) (.cells (msgE (.slice am els.length cm)) 35)))
  have HM3 := Lib.hid (HM2.out.below ItemR.lasts (below_alloc2 (w := w2) (.cells (msgE (.slice am els.length cm)) 35)))
  have c0 := cell_row hHa 0
  have e0 := cell_row hHb 0
  have c1 := cell_row hHa 1
  have e1 := cell_row hHb 1
  have c2 := cell_row hHa 2
  have e2 := cell_row hHb 2
  have c3 := cell_row hHa 3
  have e3 := cell_row hHb 3
  have c4 := cell_row hHa 4
  have e4 := cell_row hHb 4
  have c5 := cell_row hHa 5
  have e5 := cell_row hHb 5
  have c6 := cell_row hHa 6
  have e6 := cell_row hHb 6
  have c7 := cell_row hHa 7
  have e7 := cell_row hHb 7
  have c8 := cell_row hHa 8
  have e8 := cell_row hHb 8
  have c9 := cell_row hHa 9
  have e9 := cell_row hHb 9
  have c10 := cell_row hHa 10
  have e10 := cell_row hHb 10
  have c11 := cell_row hHa 11
  have e11 := cell_row hHb 11
  have c12 := cell_row hHa 12
  have e12 := cell_row hHb 12
  have c13 := cell_row hHa 13
  have e13 := cell_row hHb 13
  have c14 := cell_row hHa 14
  have e14 := cell_row hHb 14
  clear hb hm hHa hHb
  go_wp2_with fail
  (with_reducible refine (same_E HN3.out HM3.out).mono ?_)
  rintro e w4 ⟨rfl, hb⟩
  have HB4 := Lib.hid (HB3.out.trans (hb.mono HB3.out.size))
  clear hb
  have he : (er == er) = true := by simp
  go_wp2_with fail
  (with_reducible refine (sure21 _).mono ?_)
  rintro e w5 ⟨rfl, hb⟩
  have HB5 := Lib.hid (HB4.out.trans (hb.mono HB4.out.size))
  clear hb
  go_wp2_with fail
  go_ret
  exact ⟨rfl, HB5.out⟩
end Go.Proofs.Ytcebcncpbedkmaa
