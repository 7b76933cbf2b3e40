/- Whether two lists of buckets are the same: the walk of the document. Conditions: none. -/
import Derived.Test.YtcebcncpbedkmaaGreatZSamI
namespace Go.Proofs.YtcebcncpbedkmaaGreat
open Go Go.RowKit
set_option maxRecDepth 100000
set_option maxHeartbeats 8000000

theorem rsame_Bucket {v1 v2 : Value} {l m : List BucketV} {w : World} (h1 : RowsOf BucketR 4 w v1 l) (h2 : RowsOf BucketR 4 w v2 m) : Calls Tryz.prog 43 #[v1, v2] w (GotEq (decide (l = m)) w) := by
  unfold GotEq
  obtain ⟨a, cap, b, off, rfl, hmx, ha, hit⟩ := rows_open h1
  obtain ⟨a2, cap2, b2, off2, rfl, hmx2, ha2, hit2⟩ := rows_open h2
  unfold maxLen at hmx hmx2
  have A := Lib.hid ha
  have A2 := Lib.hid ha2
  have HIt := Lib.hid hit
  have HIt2 := Lib.hid hit2
  clear h1 h2 ha ha2 hit hit2
  by_cases hl : l.length = m.length
  · have e1 : ((l.length : Int) != (l.length : Int)) = false := by simp
    have HL := Lib.hid hl
    rw [← hl]
    clear hl
    go_enter Tryz.func43, Tryz.ntmps43
    go_wp2_with fail
    go_loopw [4, 5] (fun r i wr => ∃ k : Nat, k ≤ l.length ∧ i = .int .i64 k ∧ r = .bool false ∧ Hid (Below w.heap.size w wr) ∧ Hid (l.take k = m.take k)) (fun _ i _ => l.length - (intOf i).toNat)
    case atStart => exact ⟨0, by omega, rfl, rfl, Below.refl _ _, rfl⟩
    case round =>
      obtain ⟨k, hk, rfl, rfl, HW, HT⟩ := hrel
      by_cases hlt : k < l.length
      · obtain rfl := A.out (by omega)
        obtain rfl := A2.out (by have := HL.out; omega)
        obtain ⟨x, hx⟩ : ∃ x, l[k]? = some x := ⟨_, List.getElem?_eq_getElem hlt⟩
        obtain ⟨y, hy⟩ : ∃ x, m[k]? = some x := ⟨_, List.getElem?_eq_getElem (by have := HL.out; omega)⟩
        obtain ⟨c1, h1, hc1⟩ := HIt.out k x hx
        obtain ⟨c2, h2, hc2⟩ := HIt2.out k y hy
        have HX := Lib.hid hx
        have HY := Lib.hid hy
        have HR1 := Lib.hid h1
        have HR2 := Lib.hid h2
        obtain ⟨xac, rfl, hxac⟩ := h1
        obtain ⟨yac, rfl, hyac⟩ := h2
        obtain ⟨xacA, xacC, xacB, xacO, rfl, -⟩ := rows_open hxac
        obtain ⟨yacA, yacC, yacB, yacO, rfl, -⟩ := rows_open hyac
        have hbw := HW.out
        have x0 : w.cell? ⟨b, off + k * 4, none⟩ = some (.int .u64 x.1) := hc1 0 _ rfl
        have x1 : w.cell? ⟨b, off + k * 4 + 1, none⟩ = some (.int .u64 x.2.1) := hc1 1 _ rfl
        have x2 : w.cell? ⟨b, off + k * 4 + 2, none⟩ = some (.int .u64 x.2.2.1) := hc1 2 _ rfl
        have x3 : w.cell? ⟨b, off + k * 4 + 3, none⟩ = some (.slice xacA x.2.2.2.length xacC) := hc1 3 _ rfl
        have y0 : w.cell? ⟨b2, off2 + k * 4, none⟩ = some (.int .u64 y.1) := hc2 0 _ rfl
        have y1 : w.cell? ⟨b2, off2 + k * 4 + 1, none⟩ = some (.int .u64 y.2.1) := hc2 1 _ rfl
        have y2 : w.cell? ⟨b2, off2 + k * 4 + 2, none⟩ = some (.int .u64 y.2.2.1) := hc2 2 _ rfl
        have y3 : w.cell? ⟨b2, off2 + k * 4 + 3, none⟩ = some (.slice yacA y.2.2.2.length yacC) := hc2 3 _ rfl
        have x0 := (hbw.cell (World.block_lt_of_cell? _ _ x0)).trans x0
        have y0 := (hbw.cell (World.block_lt_of_cell? _ _ y0)).trans y0
        have x1 := (hbw.cell (World.block_lt_of_cell? _ _ x1)).trans x1
        have y1 := (hbw.cell (World.block_lt_of_cell? _ _ y1)).trans y1
        have x2 := (hbw.cell (World.block_lt_of_cell? _ _ x2)).trans x2
        have y2 := (hbw.cell (World.block_lt_of_cell? _ _ y2)).trans y2
        have x3 := (hbw.cell (World.block_lt_of_cell? _ _ x3)).trans x3
        have y3 := (hbw.cell (World.block_lt_of_cell? _ _ y3)).trans y3
        have HC3 := Lib.hid (fun (W : World) (hb : Below w.heap.size w W) => rsame_Act (hxac.below ActR.lasts hb) (hyac.below ActR.lasts hb))
        have hlt' : (k : Int) < l.length := by omega
        have hone : ∀ o, Below wr.heap.size wr (wr.alloc o) := fun o => below_alloc2 o
        have htwo : ∀ o o', Below wr.heap.size wr ((wr.alloc o).alloc o') := fun o o' => (below_alloc2 o).trans ((below_alloc2 (w := wr.alloc o) o').mono (by simp))
        have hst : ∀ W, Below wr.heap.size wr W → W.cell? ⟨b, off + k * 4, none⟩ = some (.int .u64 x.1) ∧ W.cell? ⟨b, off + k * 4 + 1, none⟩ = some (.int .u64 x.2.1) ∧ W.cell? ⟨b, off + k * 4 + 2, none⟩ = some (.int .u64 x.2.2.1) ∧ W.cell? ⟨b, off + k * 4 + 3, none⟩ = some (.slice xacA x.2.2.2.length xacC) ∧ W.cell? ⟨b2, off2 + k * 4, none⟩ = some (.int .u64 y.1) ∧ W.cell? ⟨b2, off2 + k * 4 + 1, none⟩ = some (.int .u64 y.2.1) ∧ W.cell? ⟨b2, off2 + k * 4 + 2, none⟩ = some (.int .u64 y.2.2.1) ∧ W.cell? ⟨b2, off2 + k * 4 + 3, none⟩ = some (.slice yacA y.2.2.2.length yacC) := fun W hb =>
          ⟨(hb.cell (World.block_lt_of_cell? _ _ x0)).trans x0, (hb.cell (World.block_lt_of_cell? _ _ x1)).trans x1, (hb.cell (World.block_lt_of_cell? _ _ x2)).trans x2, (hb.cell (World.block_lt_of_cell? _ _ x3)).trans x3, (hb.cell (World.block_lt_of_cell? _ _ y0)).trans y0, (hb.cell (World.block_lt_of_cell? _ _ y1)).trans y1, (hb.cell (World.block_lt_of_cell? _ _ y2)).trans y2, (hb.cell (World.block_lt_of_cell? _ _ y3)).trans y3⟩
        obtain ⟨p0_0, p0_1, p0_2, p0_3, p0_4, p0_5, p0_6, p0_7⟩ := hst _ (hone (.cells #[.int .u64 0, .int .u64 0, .int .u64 0, .slice none 0 0] 89))
        obtain ⟨p1_0, p1_1, p1_2, p1_3, p1_4, p1_5, p1_6, p1_7⟩ := hst _ (hone (.cells #[.int .u64 x.1, .int .u64 x.2.1, .int .u64 x.2.2.1, .slice xacA x.2.2.2.length xacC] 89))
        obtain ⟨p2_0, p2_1, p2_2, p2_3, p2_4, p2_5, p2_6, p2_7⟩ := hst _ (hone (.cells #[.int .u64 y.1, .int .u64 y.2.1, .int .u64 y.2.2.1, .slice yacA y.2.2.2.length yacC] 89))
        obtain ⟨p3_0, p3_1, p3_2, p3_3, p3_4, p3_5, p3_6, p3_7⟩ := hst _ (htwo (.cells #[.int .u64 0, .int .u64 0, .int .u64 0, .slice none 0 0] 89) (.cells #[.int .u64 0, .int .u64 0, .int .u64 0, .slice none 0 0] 89))
        obtain ⟨p4_0, p4_1, p4_2, p4_3, p4_4, p4_5, p4_6, p4_7⟩ := hst _ (htwo (.cells #[.int .u64 x.1, .int .u64 x.2.1, .int .u64 x.2.2.1, .slice xacA x.2.2.2.length xacC] 89) (.cells #[.int .u64 0, .int .u64 0, .int .u64 0, .slice none 0 0] 89))
        obtain ⟨p5_0, p5_1, p5_2, p5_3, p5_4, p5_5, p5_6, p5_7⟩ := hst _ (htwo (.cells #[.int .u64 0, .int .u64 0, .int .u64 0, .slice none 0 0] 89) (.cells #[.int .u64 x.1, .int .u64 x.2.1, .int .u64 x.2.2.1, .slice xacA x.2.2.2.length xacC] 89))
        obtain ⟨p6_0, p6_1, p6_2, p6_3, p6_4, p6_5, p6_6, p6_7⟩ := hst _ (htwo (.cells #[.int .u64 y.1, .int .u64 y.2.1, .int .u64 y.2.2.1, .slice yacA y.2.2.2.length yacC] 89) (.cells #[.int .u64 0, .int .u64 0, .int .u64 0, .slice none 0 0] 89))
        obtain ⟨p7_0, p7_1, p7_2, p7_3, p7_4, p7_5, p7_6, p7_7⟩ := hst _ (htwo (.cells #[.int .u64 0, .int .u64 0, .int .u64 0, .slice none 0 0] 89) (.cells #[.int .u64 y.1, .int .u64 y.2.1, .int .u64 y.2.2.1, .slice yacA y.2.2.2.length yacC] 89))
        have HT2 : Hid (∀ o o', Below w.heap.size w ((wr.alloc o).alloc o').drew) := Lib.hid (fun o o' => below_drewN (HW.out.trans (((below_alloc2 o).trans ((below_alloc2 (w := wr.alloc o) o').mono (by simp))).mono HW.out.size)) 1)
        clear hbw hx hy hc1 hc2 HR1 HR2 hst hone htwo hxac hyac
        by_cases h0 : x.1 = y.1
        · have K0 := Lib.hid h0
          have e0 : (x.1 == y.1) = true := by simp [h0]
          have f0 : (x.1 != y.1) = false := by simp [h0]
          clear h0
          by_cases h1 : x.2.1 = y.2.1
          · have K1 := Lib.hid h1
            have e1 : (x.2.1 == y.2.1) = true := by simp [h1]
            have f1 : (x.2.1 != y.2.1) = false := by simp [h1]
            clear h1
            by_cases h2 : x.2.2.1 = y.2.2.1
            · have K2 := Lib.hid h2
              have e2 : (x.2.2.1 == y.2.2.1) = true := by simp [h2]
              have f2 : (x.2.2.1 != y.2.2.1) = false := by simp [h2]
              clear h2
              by_cases h3 : x.2.2.2 = y.2.2.2
              · have K3 := Lib.hid h3
                rw [decide_eq_true h3] at HC3
                clear h3
                have HY2 : Hid (m[k]? = some x) := Lib.hid (HY.out.trans (congrArg some (show y = x from (Prod.ext K0.out (Prod.ext K1.out (Prod.ext K2.out (K3.out))) : x = y).symm)))
                go_wp2_with fail
                go_region
                all_goals
                  go_wp2_with fail
                  refine (HC3.out _ (HT2.out _ _)).mono ?_
                  rintro e w3 ⟨rfl, hb⟩
                  have HB3 := Lib.hid ((HT2.out _ _).trans (hb.mono (HT2.out _ _).size))
                  obtain ⟨hc3, hf3⟩ := bcells hb
                  clear hb
                  go_wp2_with fail
                  go_roundw
                  case rel => exact ⟨k + 1, by omega, by go_num, rfl, HB3.out, take_both HX.out HY2.out HT.out⟩
                  case measure => simp [intOf]; omega
              · have HNE : Hid (decide (l = m) = false) := decide_eq_false (get_ne HX.out HY.out (fun e => h3 (congrArg (fun z : BucketV => z.2.2.2) e)))
                rw [decide_eq_false h3] at HC3
                clear h3
                go_wp2_with fail
                go_region
                all_goals
                  go_wp2_with fail
                  refine (HC3.out _ (HT2.out _ _)).mono ?_
                  rintro e w3 ⟨rfl, hb⟩
                  have HB3 := Lib.hid ((HT2.out _ _).trans (hb.mono (HT2.out _ _).size))
                  obtain ⟨hc3, hf3⟩ := bcells hb
                  clear hb
                  go_wp2_with fail
                  go_ret
                  exact ⟨by rw [HNE.out]; rfl, HB3.out⟩
            · have HNE : Hid (decide (l = m) = false) := decide_eq_false (get_ne HX.out HY.out (fun e => h2 (congrArg (fun z : BucketV => z.2.2.1) e)))
              have e2 : (x.2.2.1 == y.2.2.1) = false := by simp [h2]
              have f2 : (x.2.2.1 != y.2.2.1) = true := by simp [h2]
              clear h2
              go_wp2_with fail
              go_region
              all_goals
                go_wp2_with fail
                go_ret
                exact ⟨by rw [HNE.out]; rfl, (HT2.out _ _)⟩
          · have HNE : Hid (decide (l = m) = false) := decide_eq_false (get_ne HX.out HY.out (fun e => h1 (congrArg (fun z : BucketV => z.2.1) e)))
            have e1 : (x.2.1 == y.2.1) = false := by simp [h1]
            have f1 : (x.2.1 != y.2.1) = true := by simp [h1]
            clear h1
            go_wp2_with fail
            go_region
            all_goals
              go_wp2_with fail
              go_ret
              exact ⟨by rw [HNE.out]; rfl, (HT2.out _ _)⟩
        · have HNE : Hid (decide (l = m) = false) := decide_eq_false (get_ne HX.out HY.out (fun e => h0 (congrArg (fun z : BucketV => z.1) e)))
          have e0 : (x.1 == y.1) = false := by simp [h0]
          have f0 : (x.1 != y.1) = true := by simp [h0]
          clear h0
          go_wp2_with fail
          go_region
          all_goals
            go_wp2_with fail
            go_ret
            exact ⟨by rw [HNE.out]; rfl, (HT2.out _ _)⟩
      · obtain rfl : k = l.length := by omega
        have HE : Hid (decide (l = m) = true) := by
          have := HT.out
          rw [List.take_length, HL.out, List.take_length] at this
          exact decide_eq_true this
        go_wp2_with fail
        go_ret
        exact ⟨by rw [HE.out]; rfl, HW.out⟩
  · have HNE : Hid (decide (l = m) = false) := decide_eq_false (fun e => hl (by rw [e]))
    have hb : ((l.length : Int) != (m.length : Int)) = true := by simp; omega
    clear hl
    go_enter Tryz.func43, Tryz.ntmps43
    go_wp2
    go_ret
    exact ⟨by rw [HNE.out]; rfl, Below.refl _ _⟩
end Go.Proofs.YtcebcncpbedkmaaGreat
