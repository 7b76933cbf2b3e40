/- The walk of hello.Choose at two offers. Conditions: none. The walk of the document's comparison of two lists of ints. Conditions: none. -/
import Derived.Test.YtcebcncpbedkmaaGreatZHelG
import Derived.Maps.Own
import Derived.Maps.OwnOps
import Derived.Test.YtcebcncpbedkmaaGreatZRowC
namespace Go.Proofs.YtcebcncpbedkmaaGreat
open Go Go.RowKit Go.Maps
set_option maxRecDepth 100000
set_option maxHeartbeats 4000000

theorem keyed_int : Keyed Tryz.prog 3 := int_keyed Tryz.underlying3
theorem zero_int (w : World) : (zeroValue 3).run Tryz.prog w = .ok (.int .i64 0) w := by kernel_rfl
abbrev met0 : DataW Unit := .map []
abbrev met1 : DataW Unit := met0.put (.int .i64 4) (.lit (.int .i64 1))
theorem met0_4 : met0.atKey (.int .i64 4) (.lit (.int .i64 0)) = .lit (.int .i64 0) := rfl
theorem met1_1 : met1.atKey (.int .i64 1) (.lit (.int .i64 0)) = .lit (.int .i64 0) := rfl
theorem met1_4 : met1.atKey (.int .i64 4) (.lit (.int .i64 0)) = .lit (.int .i64 1) := rfl
theorem met1_5 : met1.atKey (.int .i64 5) (.lit (.int .i64 0)) = .lit (.int .i64 0) := rfl

theorem hel_choose {va vb : Value} {w : World} (h1 : Ints .i64 w va [4]) (h2 : Ints .i64 w vb [1, 4, 5]) :
    Calls Tryz.prog 21 #[.agg #[.int .i64 4, .bool true, va], .agg #[.int .i64 6, .bool true, vb]] w fun e w' => e = .returned (.tuple #[.int .i64 4, .bool true]) ∧ Below w.heap.size w w' := by
  have hmm := @run_makeMap Tryz.prog
  obtain ⟨a1, c1, b1, o1, rfl, -, -, -, ha1, hat1⟩ := h1.open
  obtain ⟨a2, c2, b2, o2, rfl, -, -, -, ha2, hat2⟩ := h2.open
  obtain rfl := ha1 (by simp)
  obtain rfl := ha2 (by simp)
  have x0 := hat1 0 (by simp)
  have y0 := hat2 0 (by simp)
  have y1 := hat2 1 (by simp)
  have y2 := hat2 2 (by simp)
  simp only [List.getD_cons_zero, List.getD_cons_succ, Nat.add_zero] at x0 y0 y1 y2
  have X0 := Lib.hid x0
  have Y0 := Lib.hid y0
  have Y1 := Lib.hid y1
  have Y2 := Lib.hid y2
  rw [show ([4] : List Int).length = 1 from rfl, show ([1, 4, 5] : List Int).length = 3 from rfl]
  clear h1 h2 ha1 ha2 hat1 hat2 x0 y0 y1 y2
  have hA := heap_alloc_new w (.cells #[.int .i64 4, .bool true, .slice (some ⟨b1, o1, none⟩) 1 c1] 61)
  have hB := heap_alloc_new (w.alloc (.cells #[.int .i64 4, .bool true, .slice (some ⟨b1, o1, none⟩) 1 c1] 61)) (.cells #[.int .i64 6, .bool true, .slice (some ⟨b2, o2, none⟩) 3 c2] 61)
  have hA2 := row_below (below_alloc2 (.cells #[.int .i64 6, .bool true, .slice (some ⟨b2, o2, none⟩) 3 c2] 61)) hA
  have hA3 := row_below (below_alloc2 (.map #[] 0)) hA2
  have hB3 := row_below (below_alloc2 (.map #[] 0)) hB
  have HBw := Lib.hid ((below_alloc2 (w := w) (.cells #[.int .i64 4, .bool true, .slice (some ⟨b1, o1, none⟩) 1 c1] 61)).trans (((below_alloc2 (w := w.alloc (.cells #[.int .i64 4, .bool true, .slice (some ⟨b1, o1, none⟩) 1 c1] 61)) (.cells #[.int .i64 6, .bool true, .slice (some ⟨b2, o2, none⟩) 3 c2] 61)).trans ((below_alloc2 (.map #[] 0)).mono (by simp))).mono (by simp)))
  have HM := Lib.hid (World.ownsMap_made (H := Unit) ((w.alloc (.cells #[.int .i64 4, .bool true, .slice (some ⟨b1, o1, none⟩) 1 c1] 61)).alloc (.cells #[.int .i64 6, .bool true, .slice (some ⟨b2, o2, none⟩) 3 c2] 61)) Tryz.prog 3 (plainElem Tryz.prog 3))
  simp only [World.size_alloc] at hB3 hA3 HM
  have HA3 := Lib.hid hA3
  have HB3 := Lib.hid hB3
  clear hA hB hA2 hA3 hB3
  go_enter Tryz.func21, Tryz.ntmps21
  go_wp2_with fail
  clear hmm
  go_loopw [27] (fun i wr => ∃ k : Nat, k ≤ 1 ∧ i = .int .i64 k ∧ Hid (wr.heap[w.heap.size]? = some (.cells #[.int .i64 4, .bool true, .slice (some ⟨b1, o1, none⟩) 1 c1] 61 (0, 0))) ∧ Hid (wr.heap[w.heap.size + 1]? = some (.cells #[.int .i64 6, .bool true, .slice (some ⟨b2, o2, none⟩) 3 c2] 61 (0, 0))) ∧ Hid (Below w.heap.size w wr) ∧ Hid (k = 0 → wr.ownsMap Tryz.prog 3 (plainElem Tryz.prog 3) (w.heap.size + 1 + 1) 0 met0) ∧ Hid (k = 1 → wr.ownsMap Tryz.prog 3 (plainElem Tryz.prog 3) (w.heap.size + 1 + 1) 1 met1)) (fun i _ => 1 - (intOf i).toNat)
  case atStart => exact ⟨0, by omega, rfl, HA3.out, HB3.out, HBw.out, fun _ => HM.out, fun h => by omega⟩
  case round =>
    obtain ⟨k, hk, rfl, HA, HB, HW, HM0, HM1⟩ := hrel
    have hkk : k = 0 ∨ k = 1 := by omega
    clear hk
    have x0 := (HW.out.cell (World.block_lt_of_cell? _ _ X0.out)).trans X0.out
    rcases hkk with rfl | rfl
    · have hown := HM0.out rfl
      go_wp2_with (first
        | (at_lookup; refine wpList_lookup_own_int _ rfl _ _ 119 rfl 3 3 .i64 keyed_int Tryz.underlying119 Tryz.underlying3 (zero_int _) (w.heap.size + 1 + 1) 0 _ rfl hown _ _ rfl (keyOf_int_mk Tryz.underlying3 (by decide)) ?_; intro c hat hwc; obtain rfl : c = 0 := (by have := met0_4.symm.trans hat; injection this with this; injection this with _ this; exact this.symm); clear hat hwc)
        | (at_mapUpdate; refine wpList_mapUpdate_own _ rfl _ _ _ 119 rfl 3 3 keyed_int Tryz.underlying119 _ (w.heap.size + 1 + 1) 0 _ rfl hown (by unfold maxLen; omega) _ _ _ rfl rfl (keyOf_int_mk Tryz.underlying3 (by decide)) _ [] (plainElem_int Tryz.underlying3 (by decide)) ?_; intro w1 hown1 hgrow1; have HA1 := Lib.hid ((hgrow1.block _ (Array.getElem?_eq_some_iff.1 HA.out).1 (fun e => by injection e with e; omega)).trans HA.out); have HB1 := Lib.hid ((hgrow1.block _ (Array.getElem?_eq_some_iff.1 HB.out).1 (fun e => by injection e with e; omega)).trans HB.out); have HW1 := Lib.hid (below_row HW.out HW.out.size hgrow1 (by omega)); have HO1 := Lib.hid hown1; clear hown1 hgrow1))
      go_roundw
      case rel => exact ⟨1, by omega, rfl, HA1.out, HB1.out, HW1.out, fun h => by omega, fun _ => HO1.out⟩
      case measure => simp [intOf]
    · have HO1 := Lib.hid (HM1.out rfl)
      have z2 := cell_row HB.out 2
      go_wp2_with fail
      go_loopw [6, 39] (fun n i wr => ∃ k : Nat, k ≤ 3 ∧ i = .int .i64 k ∧ Hid (k ≤ 1 → n = .int .i64 0) ∧ Hid (1 < k → n = .int .i64 4) ∧ Hid (Below w.heap.size w wr) ∧ Hid (wr.ownsMap Tryz.prog 3 (plainElem Tryz.prog 3) (w.heap.size + 1 + 1) 1 met1)) (fun _ i _ => 3 - (intOf i).toNat)
      case atStart => exact ⟨0, by omega, rfl, fun _ => rfl, fun h => by omega, HW.out, HO1.out⟩
      case round =>
        clear x0 z2 HA HB HW HM0 HM1 HO1
        obtain ⟨k, hk, rfl, HN0, HN1, HW, HO⟩ := hrel
        have hkk : k = 0 ∨ k = 1 ∨ k = 2 ∨ k = 3 := by omega
        clear hk
        rcases hkk with rfl | rfl | rfl | rfl
        · obtain rfl := HN0.out (by omega)
          have y0 := (HW.out.cell (World.block_lt_of_cell? _ _ Y0.out)).trans Y0.out
          go_wp2_with (at_lookup; refine wpList_lookup_own_int _ rfl _ _ 119 rfl 3 3 .i64 keyed_int Tryz.underlying119 Tryz.underlying3 (zero_int _) (w.heap.size + 1 + 1) 1 _ rfl HO.out _ _ rfl (keyOf_int_mk Tryz.underlying3 (by decide)) ?_; intro c hat hwc; obtain rfl : c = 0 := (by have := met1_1.symm.trans hat; injection this with this; injection this with _ this; exact this.symm); clear hat hwc)
          go_roundw
          case rel => exact ⟨1, by omega, rfl, fun h => by first | rfl | omega, fun h => by first | rfl | omega, HW.out, HO.out⟩
          case measure => simp [intOf]
        · obtain rfl := HN0.out (by omega)
          have y0 := (HW.out.cell (World.block_lt_of_cell? _ _ Y1.out)).trans Y1.out
          go_wp2_with (at_lookup; refine wpList_lookup_own_int _ rfl _ _ 119 rfl 3 3 .i64 keyed_int Tryz.underlying119 Tryz.underlying3 (zero_int _) (w.heap.size + 1 + 1) 1 _ rfl HO.out _ _ rfl (keyOf_int_mk Tryz.underlying3 (by decide)) ?_; intro c hat hwc; obtain rfl : c = 1 := (by have := met1_4.symm.trans hat; injection this with this; injection this with _ this; exact this.symm); clear hat hwc)
          go_roundw
          case rel => exact ⟨2, by omega, rfl, fun h => by first | rfl | omega, fun h => by first | rfl | omega, HW.out, HO.out⟩
          case measure => simp [intOf]
        · obtain rfl := HN1.out (by omega)
          have y0 := (HW.out.cell (World.block_lt_of_cell? _ _ Y2.out)).trans Y2.out
          go_wp2_with (at_lookup; refine wpList_lookup_own_int _ rfl _ _ 119 rfl 3 3 .i64 keyed_int Tryz.underlying119 Tryz.underlying3 (zero_int _) (w.heap.size + 1 + 1) 1 _ rfl HO.out _ _ rfl (keyOf_int_mk Tryz.underlying3 (by decide)) ?_; intro c hat hwc; obtain rfl : c = 0 := (by have := met1_5.symm.trans hat; injection this with this; injection this with _ this; exact this.symm); clear hat hwc)
          go_roundw
          case rel => exact ⟨3, by omega, rfl, fun h => by first | rfl | omega, fun h => by first | rfl | omega, HW.out, HO.out⟩
          case measure => simp [intOf]
        · obtain rfl := HN1.out (by omega)
          go_wp2_with fail
          go_ret2
          exact ⟨rfl, HW.out⟩
end Go.Proofs.YtcebcncpbedkmaaGreat
namespace Go.Proofs.YtcebcncpbedkmaaGreat
open Go.RowKit
set_option maxRecDepth 100000

set_option maxHeartbeats 400000 in
theorem ref_ints (v1 v2 : Value) (xs ys : List Int) (w : World) (h1 : Ints .i64 w v1 xs) (h2 : Ints .i64 w v2 ys) :
    Calls Tryz.prog 23 #[v1, v2] w fun e w' => e = .returned (.bool (decide (xs = ys))) ∧ Below w.heap.size w w' := by
  have hle := h1.le
  obtain ⟨a, cap, b, off, rfl, -, -, -, ha, hc⟩ := h1.open
  obtain ⟨a2, cap2, b2, off2, rfl, -, -, -, ha2, hc2⟩ := h2.open
  have H1 := Lib.hid ha
  have H3 := Lib.hid hc
  have H2 := Lib.hid ha2
  have H4 := Lib.hid hc2
  clear ha hc h1 h2 ha2 hc2
  by_cases hl : xs.length = ys.length
  · have e1 : ((xs.length : Int) != (xs.length : Int)) = false := by simp
    rw [← hl]
    have HL := Lib.hid hl
    clear hl
    go_enter Tryz.func23, Tryz.ntmps23
    go_wp2
    go_loopw [4, 5] (fun r i wr => ∃ k q : Nat, k ≤ xs.length ∧ i = .int .i64 k ∧ r = .bool false ∧ wr = w.drewN q ∧ Hid (xs.take k = ys.take k)) (fun _ i _ => xs.length - (intOf i).toNat)
    case atStart => exact ⟨0, 0, by omega, rfl, rfl, rfl, rfl⟩
    case round =>
      obtain ⟨k, q, hk, rfl, rfl, rfl, HT⟩ := hrel
      by_cases hlt : k < xs.length
      · obtain rfl := H1.out (by omega)
        obtain rfl := H2.out (by have := HL.out; omega)
        obtain ⟨x, hx, hcx⟩ := name_cell (H3.out k hlt)
        obtain ⟨y, hy, hcy⟩ := name_cell (H4.out k (by have := HL.out; omega))
        have HX := Lib.hid hx
        have HY := Lib.hid hy
        clear hx hy
        have hlt' : (k : Int) < xs.length := by omega
        by_cases he : x = y
        · subst he
          go_wp2_with fail
          go_quiet (fail)
          go_wp2_with fail
          go_roundw
          case rel => exact ⟨k + 1, q + nq, by omega, by go_num, rfl, rfl, take_step hlt (by have := HL.out; omega) HT.out (HX.out.symm.trans HY.out)⟩
          case measure => simp [intOf]; omega
        · go_wp2_with fail
          go_quiet (fail)
          go_wp2_with fail
          go_ret
          have hne : decide (xs = ys) = false := by
            rw [decide_eq_false_iff_not]
            rintro rfl
            exact he (HX.out.trans HY.out.symm)
          exact ⟨by rw [hne]; rfl, below_drewN (below_drewN (Below.refl _ _) _) _⟩
      · obtain rfl : k = xs.length := by omega
        go_wp2_with fail
        go_ret
        exact ⟨by rw [decide_eq_true (eq_of_take HL.out HT.out)]; rfl, below_drewN (Below.refl _ _) _⟩
  · have hne : decide (xs = ys) = false := by
      rw [decide_eq_false_iff_not]
      rintro rfl
      exact hl rfl
    have HNE := Lib.hid hne
    have hb : ((xs.length : Int) != (ys.length : Int)) = true := by simp; omega
    clear hne
    go_enter Tryz.func23, Tryz.ntmps23
    go_wp2
    go_ret
    exact ⟨by rw [HNE.out]; rfl, Below.refl _ _⟩
end Go.Proofs.YtcebcncpbedkmaaGreat
