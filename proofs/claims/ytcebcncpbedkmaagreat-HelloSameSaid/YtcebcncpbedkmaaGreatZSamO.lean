/- Whether two lists of ports are the same: the walk of the document. Conditions: none. -/
import Derived.Test.YtcebcncpbedkmaaGreatZSamI
import Derived.Test.YtcebcncpbedkmaaGreatZSamP
namespace Go.Proofs.YtcebcncpbedkmaaGreat
open Go Go.RowKit
set_option maxRecDepth 100000
set_option maxHeartbeats 8000000

theorem rsame_Port {v1 v2 : Value} {l m : List PortV} {w : World} (h1 : RowsOf PortR 11 w v1 l) (h2 : RowsOf PortR 11 w v2 m) : Calls Tryz.prog 46 #[v1, v2] w (GotEq (decide (l = m)) w) := by
  unfold GotEq
  obtain ⟨a, cap, b, off, rfl, hmx, ha, hit⟩ := rows_open h1
  obtain ⟨a2, cap2, b2, off2, rfl, hmx2, ha2, hit2⟩ := rows_open h2
  unfold maxLen at hmx hmx2
  have A := Lib.hid ha
  have A2 := Lib.hid ha2
  have HIt := Lib.hid hit
  have HIt2 := Lib.hid hit2
  clear h1 h2 ha ha2 hit hit2
  by_cases hl : l.length = m.length
  · have e1 : ((l.length : Int) != (l.length : Int)) = false := by simp
    have HL := Lib.hid hl
    rw [← hl]
    clear hl
    go_enter Tryz.func46, Tryz.ntmps46
    go_wp2_with fail
    go_loopw [4, 5] (fun r i wr => ∃ k : Nat, k ≤ l.length ∧ i = .int .i64 k ∧ r = .bool false ∧ Hid (Below w.heap.size w wr) ∧ Hid (l.take k = m.take k)) (fun _ i _ => l.length - (intOf i).toNat)
    case atStart => exact ⟨0, by omega, rfl, rfl, Below.refl _ _, rfl⟩
    case round =>
      obtain ⟨k, hk, rfl, rfl, HW, HT⟩ := hrel
      by_cases hlt : k < l.length
      · obtain rfl := A.out (by omega)
        obtain rfl := A2.out (by have := HL.out; omega)
        obtain ⟨x, hx⟩ : ∃ x, l[k]? = some x := ⟨_, List.getElem?_eq_getElem hlt⟩
        obtain ⟨y, hy⟩ : ∃ x, m[k]? = some x := ⟨_, List.getElem?_eq_getElem (by have := HL.out; omega)⟩
        obtain ⟨c1, h1, hc1⟩ := HIt.out k x hx
        obtain ⟨c2, h2, hc2⟩ := HIt2.out k y hy
        have HX := Lib.hid hx
        have HY := Lib.hid hy
        have HR1 := Lib.hid h1
        have HR2 := Lib.hid h2
        have hq := fun w' : World => run_eql_port (w := w') h1 h2
        have hm : Tryz.prog.eqGuardType Tryz.prog.depth 97 = false := by kernel_rfl
        obtain ⟨xna, xnu0, xnu1, xnu2, xnu3, xnu4, xnu5, xnu6, xnu7, rfl, hxna, hxnu⟩ := h1
        obtain ⟨yna, ynu0, ynu1, ynu2, ynu3, ynu4, ynu5, ynu6, ynu7, rfl, hyna, hynu⟩ := h2
        have hbw := HW.out
        have x0 : w.cell? ⟨b, off + k * 11, none⟩ = some (.int .u64 x.1) := hc1 0 _ rfl
        have x1 : w.cell? ⟨b, off + k * 11 + 1, none⟩ = some (.int .u64 x.2.1) := hc1 1 _ rfl
        have x2 : w.cell? ⟨b, off + k * 11 + 2, none⟩ = some (.string xna) := hc1 2 _ rfl
        have x3 : w.cell? ⟨b, off + k * 11 + 3, none⟩ = some (.int .u64 xnu0) := hc1 3 _ rfl
        have x4 : w.cell? ⟨b, off + k * 11 + 4, none⟩ = some (.int .u64 xnu1) := hc1 4 _ rfl
        have x5 : w.cell? ⟨b, off + k * 11 + 5, none⟩ = some (.int .u64 xnu2) := hc1 5 _ rfl
        have x6 : w.cell? ⟨b, off + k * 11 + 6, none⟩ = some (.int .u64 xnu3) := hc1 6 _ rfl
        have x7 : w.cell? ⟨b, off + k * 11 + 7, none⟩ = some (.int .u64 xnu4) := hc1 7 _ rfl
        have x8 : w.cell? ⟨b, off + k * 11 + 8, none⟩ = some (.int .u64 xnu5) := hc1 8 _ rfl
        have x9 : w.cell? ⟨b, off + k * 11 + 9, none⟩ = some (.int .u64 xnu6) := hc1 9 _ rfl
        have x10 : w.cell? ⟨b, off + k * 11 + 10, none⟩ = some (.int .u64 xnu7) := hc1 10 _ rfl
        have y0 : w.cell? ⟨b2, off2 + k * 11, none⟩ = some (.int .u64 y.1) := hc2 0 _ rfl
        have y1 : w.cell? ⟨b2, off2 + k * 11 + 1, none⟩ = some (.int .u64 y.2.1) := hc2 1 _ rfl
        have y2 : w.cell? ⟨b2, off2 + k * 11 + 2, none⟩ = some (.string yna) := hc2 2 _ rfl
        have y3 : w.cell? ⟨b2, off2 + k * 11 + 3, none⟩ = some (.int .u64 ynu0) := hc2 3 _ rfl
        have y4 : w.cell? ⟨b2, off2 + k * 11 + 4, none⟩ = some (.int .u64 ynu1) := hc2 4 _ rfl
        have y5 : w.cell? ⟨b2, off2 + k * 11 + 5, none⟩ = some (.int .u64 ynu2) := hc2 5 _ rfl
        have y6 : w.cell? ⟨b2, off2 + k * 11 + 6, none⟩ = some (.int .u64 ynu3) := hc2 6 _ rfl
        have y7 : w.cell? ⟨b2, off2 + k * 11 + 7, none⟩ = some (.int .u64 ynu4) := hc2 7 _ rfl
        have y8 : w.cell? ⟨b2, off2 + k * 11 + 8, none⟩ = some (.int .u64 ynu5) := hc2 8 _ rfl
        have y9 : w.cell? ⟨b2, off2 + k * 11 + 9, none⟩ = some (.int .u64 ynu6) := hc2 9 _ rfl
        have y10 : w.cell? ⟨b2, off2 + k * 11 + 10, none⟩ = some (.int .u64 ynu7) := hc2 10 _ rfl
        have x0 := (hbw.cell (World.block_lt_of_cell? _ _ x0)).trans x0
        have y0 := (hbw.cell (World.block_lt_of_cell? _ _ y0)).trans y0
        have x1 := (hbw.cell (World.block_lt_of_cell? _ _ x1)).trans x1
        have y1 := (hbw.cell (World.block_lt_of_cell? _ _ y1)).trans y1
        have x2 := (hbw.cell (World.block_lt_of_cell? _ _ x2)).trans x2
        have y2 := (hbw.cell (World.block_lt_of_cell? _ _ y2)).trans y2
        have x3 := (hbw.cell (World.block_lt_of_cell? _ _ x3)).trans x3
        have y3 := (hbw.cell (World.block_lt_of_cell? _ _ y3)).trans y3
        have x4 := (hbw.cell (World.block_lt_of_cell? _ _ x4)).trans x4
        have y4 := (hbw.cell (World.block_lt_of_cell? _ _ y4)).trans y4
        have x5 := (hbw.cell (World.block_lt_of_cell? _ _ x5)).trans x5
        have y5 := (hbw.cell (World.block_lt_of_cell? _ _ y5)).trans y5
        have x6 := (hbw.cell (World.block_lt_of_cell? _ _ x6)).trans x6
        have y6 := (hbw.cell (World.block_lt_of_cell? _ _ y6)).trans y6
        have x7 := (hbw.cell (World.block_lt_of_cell? _ _ x7)).trans x7
        have y7 := (hbw.cell (World.block_lt_of_cell? _ _ y7)).trans y7
        have x8 := (hbw.cell (World.block_lt_of_cell? _ _ x8)).trans x8
        have y8 := (hbw.cell (World.block_lt_of_cell? _ _ y8)).trans y8
        have x9 := (hbw.cell (World.block_lt_of_cell? _ _ x9)).trans x9
        have y9 := (hbw.cell (World.block_lt_of_cell? _ _ y9)).trans y9
        have x10 := (hbw.cell (World.block_lt_of_cell? _ _ x10)).trans x10
        have y10 := (hbw.cell (World.block_lt_of_cell? _ _ y10)).trans y10
        have hlt' : (k : Int) < l.length := by omega
        have hone : ∀ o, Below wr.heap.size wr (wr.alloc o) := fun o => below_alloc2 o
        have htwo : ∀ o o', Below wr.heap.size wr ((wr.alloc o).alloc o') := fun o o' => (below_alloc2 o).trans ((below_alloc2 (w := wr.alloc o) o').mono (by simp))
        have hst : ∀ W, Below wr.heap.size wr W → W.cell? ⟨b, off + k * 11, none⟩ = some (.int .u64 x.1) ∧ W.cell? ⟨b, off + k * 11 + 1, none⟩ = some (.int .u64 x.2.1) ∧ W.cell? ⟨b, off + k * 11 + 2, none⟩ = some (.string xna) ∧ W.cell? ⟨b, off + k * 11 + 3, none⟩ = some (.int .u64 xnu0) ∧ W.cell? ⟨b, off + k * 11 + 4, none⟩ = some (.int .u64 xnu1) ∧ W.cell? ⟨b, off + k * 11 + 5, none⟩ = some (.int .u64 xnu2) ∧ W.cell? ⟨b, off + k * 11 + 6, none⟩ = some (.int .u64 xnu3) ∧ W.cell? ⟨b, off + k * 11 + 7, none⟩ = some (.int .u64 xnu4) ∧ W.cell? ⟨b, off + k * 11 + 8, none⟩ = some (.int .u64 xnu5) ∧ W.cell? ⟨b, off + k * 11 + 9, none⟩ = some (.int .u64 xnu6) ∧ W.cell? ⟨b, off + k * 11 + 10, none⟩ = some (.int .u64 xnu7) ∧ W.cell? ⟨b2, off2 + k * 11, none⟩ = some (.int .u64 y.1) ∧ W.cell? ⟨b2, off2 + k * 11 + 1, none⟩ = some (.int .u64 y.2.1) ∧ W.cell? ⟨b2, off2 + k * 11 + 2, none⟩ = some (.string yna) ∧ W.cell? ⟨b2, off2 + k * 11 + 3, none⟩ = some (.int .u64 ynu0) ∧ W.cell? ⟨b2, off2 + k * 11 + 4, none⟩ = some (.int .u64 ynu1) ∧ W.cell? ⟨b2, off2 + k * 11 + 5, none⟩ = some (.int .u64 ynu2) ∧ W.cell? ⟨b2, off2 + k * 11 + 6, none⟩ = some (.int .u64 ynu3) ∧ W.cell? ⟨b2, off2 + k * 11 + 7, none⟩ = some (.int .u64 ynu4) ∧ W.cell? ⟨b2, off2 + k * 11 + 8, none⟩ = some (.int .u64 ynu5) ∧ W.cell? ⟨b2, off2 + k * 11 + 9, none⟩ = some (.int .u64 ynu6) ∧ W.cell? ⟨b2, off2 + k * 11 + 10, none⟩ = some (.int .u64 ynu7) := fun W hb =>
          ⟨(hb.cell (World.block_lt_of_cell? _ _ x0)).trans x0, (hb.cell (World.block_lt_of_cell? _ _ x1)).trans x1, (hb.cell (World.block_lt_of_cell? _ _ x2)).trans x2, (hb.cell (World.block_lt_of_cell? _ _ x3)).trans x3, (hb.cell (World.block_lt_of_cell? _ _ x4)).trans x4, (hb.cell (World.block_lt_of_cell? _ _ x5)).trans x5, (hb.cell (World.block_lt_of_cell? _ _ x6)).trans x6, (hb.cell (World.block_lt_of_cell? _ _ x7)).trans x7, (hb.cell (World.block_lt_of_cell? _ _ x8)).trans x8, (hb.cell (World.block_lt_of_cell? _ _ x9)).trans x9, (hb.cell (World.block_lt_of_cell? _ _ x10)).trans x10, (hb.cell (World.block_lt_of_cell? _ _ y0)).trans y0, (hb.cell (World.block_lt_of_cell? _ _ y1)).trans y1, (hb.cell (World.block_lt_of_cell? _ _ y2)).trans y2, (hb.cell (World.block_lt_of_cell? _ _ y3)).trans y3, (hb.cell (World.block_lt_of_cell? _ _ y4)).trans y4, (hb.cell (World.block_lt_of_cell? _ _ y5)).trans y5, (hb.cell (World.block_lt_of_cell? _ _ y6)).trans y6, (hb.cell (World.block_lt_of_cell? _ _ y7)).trans y7, (hb.cell (World.block_lt_of_cell? _ _ y8)).trans y8, (hb.cell (World.block_lt_of_cell? _ _ y9)).trans y9, (hb.cell (World.block_lt_of_cell? _ _ y10)).trans y10⟩
        obtain ⟨p0_0, p0_1, p0_2, p0_3, p0_4, p0_5, p0_6, p0_7, p0_8, p0_9, p0_10, p0_11, p0_12, p0_13, p0_14, p0_15, p0_16, p0_17, p0_18, p0_19, p0_20, p0_21⟩ := hst _ (hone (.cells #[.int .u64 0, .int .u64 0, .string ⟨#[]⟩, .int .u64 0, .int .u64 0, .int .u64 0, .int .u64 0, .int .u64 0, .int .u64 0, .int .u64 0, .int .u64 0] 97))
        obtain ⟨p1_0, p1_1, p1_2, p1_3, p1_4, p1_5, p1_6, p1_7, p1_8, p1_9, p1_10, p1_11, p1_12, p1_13, p1_14, p1_15, p1_16, p1_17, p1_18, p1_19, p1_20, p1_21⟩ := hst _ (hone (.cells #[.int .u64 x.1, .int .u64 x.2.1, .string xna, .int .u64 xnu0, .int .u64 xnu1, .int .u64 xnu2, .int .u64 xnu3, .int .u64 xnu4, .int .u64 xnu5, .int .u64 xnu6, .int .u64 xnu7] 97))
        obtain ⟨p2_0, p2_1, p2_2, p2_3, p2_4, p2_5, p2_6, p2_7, p2_8, p2_9, p2_10, p2_11, p2_12, p2_13, p2_14, p2_15, p2_16, p2_17, p2_18, p2_19, p2_20, p2_21⟩ := hst _ (hone (.cells #[.int .u64 y.1, .int .u64 y.2.1, .string yna, .int .u64 ynu0, .int .u64 ynu1, .int .u64 ynu2, .int .u64 ynu3, .int .u64 ynu4, .int .u64 ynu5, .int .u64 ynu6, .int .u64 ynu7] 97))
        obtain ⟨p3_0, p3_1, p3_2, p3_3, p3_4, p3_5, p3_6, p3_7, p3_8, p3_9, p3_10, p3_11, p3_12, p3_13, p3_14, p3_15, p3_16, p3_17, p3_18, p3_19, p3_20, p3_21⟩ := hst _ (htwo (.cells #[.int .u64 0, .int .u64 0, .string ⟨#[]⟩, .int .u64 0, .int .u64 0, .int .u64 0, .int .u64 0, .int .u64 0, .int .u64 0, .int .u64 0, .int .u64 0] 97) (.cells #[.int .u64 0, .int .u64 0, .string ⟨#[]⟩, .int .u64 0, .int .u64 0, .int .u64 0, .int .u64 0, .int .u64 0, .int .u64 0, .int .u64 0, .int .u64 0] 97))
        obtain ⟨p4_0, p4_1, p4_2, p4_3, p4_4, p4_5, p4_6, p4_7, p4_8, p4_9, p4_10, p4_11, p4_12, p4_13, p4_14, p4_15, p4_16, p4_17, p4_18, p4_19, p4_20, p4_21⟩ := hst _ (htwo (.cells #[.int .u64 x.1, .int .u64 x.2.1, .string xna, .int .u64 xnu0, .int .u64 xnu1, .int .u64 xnu2, .int .u64 xnu3, .int .u64 xnu4, .int .u64 xnu5, .int .u64 xnu6, .int .u64 xnu7] 97) (.cells #[.int .u64 0, .int .u64 0, .string ⟨#[]⟩, .int .u64 0, .int .u64 0, .int .u64 0, .int .u64 0, .int .u64 0, .int .u64 0, .int .u64 0, .int .u64 0] 97))
        obtain ⟨p5_0, p5_1, p5_2, p5_3, p5_4, p5_5, p5_6, p5_7, p5_8, p5_9, p5_10, p5_11, p5_12, p5_13, p5_14, p5_15, p5_16, p5_17, p5_18, p5_19, p5_20, p5_21⟩ := hst _ (htwo (.cells #[.int .u64 0, .int .u64 0, .string ⟨#[]⟩, .int .u64 0, .int .u64 0, .int .u64 0, .int .u64 0, .int .u64 0, .int .u64 0, .int .u64 0, .int .u64 0] 97) (.cells #[.int .u64 x.1, .int .u64 x.2.1, .string xna, .int .u64 xnu0, .int .u64 xnu1, .int .u64 xnu2, .int .u64 xnu3, .int .u64 xnu4, .int .u64 xnu5, .int .u64 xnu6, .int .u64 xnu7] 97))
        obtain ⟨p6_0, p6_1, p6_2, p6_3, p6_4, p6_5, p6_6, p6_7, p6_8, p6_9, p6_10, p6_11, p6_12, p6_13, p6_14, p6_15, p6_16, p6_17, p6_18, p6_19, p6_20, p6_21⟩ := hst _ (htwo (.cells #[.int .u64 y.1, .int .u64 y.2.1, .string yna, .int .u64 ynu0, .int .u64 ynu1, .int .u64 ynu2, .int .u64 ynu3, .int .u64 ynu4, .int .u64 ynu5, .int .u64 ynu6, .int .u64 ynu7] 97) (.cells #[.int .u64 0, .int .u64 0, .string ⟨#[]⟩, .int .u64 0, .int .u64 0, .int .u64 0, .int .u64 0, .int .u64 0, .int .u64 0, .int .u64 0, .int .u64 0] 97))
        obtain ⟨p7_0, p7_1, p7_2, p7_3, p7_4, p7_5, p7_6, p7_7, p7_8, p7_9, p7_10, p7_11, p7_12, p7_13, p7_14, p7_15, p7_16, p7_17, p7_18, p7_19, p7_20, p7_21⟩ := hst _ (htwo (.cells #[.int .u64 0, .int .u64 0, .string ⟨#[]⟩, .int .u64 0, .int .u64 0, .int .u64 0, .int .u64 0, .int .u64 0, .int .u64 0, .int .u64 0, .int .u64 0] 97) (.cells #[.int .u64 y.1, .int .u64 y.2.1, .string yna, .int .u64 ynu0, .int .u64 ynu1, .int .u64 ynu2, .int .u64 ynu3, .int .u64 ynu4, .int .u64 ynu5, .int .u64 ynu6, .int .u64 ynu7] 97))
        have Hxna := Lib.hid hxna
        have Hyna := Lib.hid hyna
        have HT2 : Hid (∀ o o', Below w.heap.size w ((wr.alloc o).alloc o').drew) := Lib.hid (fun o o' => below_drewN (HW.out.trans (((below_alloc2 o).trans ((below_alloc2 (w := wr.alloc o) o').mono (by simp))).mono HW.out.size)) 1)
        clear hbw hx hy hc1 hc2 HR1 HR2 hst hone htwo hxna hxnu hyna hynu
        by_cases hpq : x = y
        · have HY2 : Hid (m[k]? = some x) := Lib.hid (HY.out.trans (by rw [hpq]))
          rw [decide_eq_true hpq] at hq
          clear hpq
          go_wp2_with fail
          go_region
          all_goals
            go_wp2_with fail
            go_roundw
            case rel => exact ⟨k + 1, by omega, by go_num, rfl, (HT2.out _ _), take_both HX.out HY2.out HT.out⟩
            case measure => simp [intOf]; omega
        · have HNE : Hid (decide (l = m) = false) := decide_eq_false (get_ne HX.out HY.out hpq)
          rw [decide_eq_false hpq] at hq
          clear hpq
          go_wp2_with fail
          go_region
          all_goals
            go_wp2_with fail
            go_ret
            exact ⟨by rw [HNE.out]; rfl, (HT2.out _ _)⟩
      · obtain rfl : k = l.length := by omega
        have HE : Hid (decide (l = m) = true) := by
          have := HT.out
          rw [List.take_length, HL.out, List.take_length] at this
          exact decide_eq_true this
        go_wp2_with fail
        go_ret
        exact ⟨by rw [HE.out]; rfl, HW.out⟩
  · have HNE : Hid (decide (l = m) = false) := decide_eq_false (fun e => hl (by rw [e]))
    have hb : ((l.length : Int) != (m.length : Int)) = true := by simp; omega
    clear hl
    go_enter Tryz.func46, Tryz.ntmps46
    go_wp2
    go_ret
    exact ⟨by rw [HNE.out]; rfl, Below.refl _ _⟩
end Go.Proofs.YtcebcncpbedkmaaGreat
