/- Whether two lists of elements are the same: the walk of the document. Conditions: none. -/
import Derived.Test.YtcebcncpbedkmaaGreatZSamH
import Derived.Test.YtcebcncpbedkmaaGreatZSamI
namespace Go.Proofs.YtcebcncpbedkmaaGreat
open Go Go.RowKit
set_option maxRecDepth 100000
set_option maxHeartbeats 8000000

theorem rsame_Elem {v1 v2 : Value} {l m : List ElemV} {w : World} (h1 : RowsOf ElemR 2 w v1 l) (h2 : RowsOf ElemR 2 w v2 m) : Calls Tryz.prog 39 #[v1, v2] w (GotEq (decide (l = m)) w) := by
  unfold GotEq
  obtain ⟨a, cap, b, off, rfl, hmx, ha, hit⟩ := rows_open h1
  obtain ⟨a2, cap2, b2, off2, rfl, hmx2, ha2, hit2⟩ := rows_open h2
  unfold maxLen at hmx hmx2
  have A := Lib.hid ha
  have A2 := Lib.hid ha2
  have HIt := Lib.hid hit
  have HIt2 := Lib.hid hit2
  clear h1 h2 ha ha2 hit hit2
  by_cases hl : l.length = m.length
  · have e1 : ((l.length : Int) != (l.length : Int)) = false := by simp
    have HL := Lib.hid hl
    rw [← hl]
    clear hl
    go_enter Tryz.func39, Tryz.ntmps39
    go_wp2_with fail
    go_loopw [4, 5] (fun r i wr => ∃ k : Nat, k ≤ l.length ∧ i = .int .i64 k ∧ r = .bool false ∧ Hid (Below w.heap.size w wr) ∧ Hid (l.take k = m.take k)) (fun _ i _ => l.length - (intOf i).toNat)
    case atStart => exact ⟨0, by omega, rfl, rfl, Below.refl _ _, rfl⟩
    case round =>
      obtain ⟨k, hk, rfl, rfl, HW, HT⟩ := hrel
      by_cases hlt : k < l.length
      · obtain rfl := A.out (by omega)
        obtain rfl := A2.out (by have := HL.out; omega)
        obtain ⟨x, hx⟩ : ∃ x, l[k]? = some x := ⟨_, List.getElem?_eq_getElem hlt⟩
        obtain ⟨y, hy⟩ : ∃ x, m[k]? = some x := ⟨_, List.getElem?_eq_getElem (by have := HL.out; omega)⟩
        obtain ⟨c1, h1, hc1⟩ := HIt.out k x hx
        obtain ⟨c2, h2, hc2⟩ := HIt2.out k y hy
        have HX := Lib.hid hx
        have HY := Lib.hid hy
        have HR1 := Lib.hid h1
        have HR2 := Lib.hid h2
        obtain ⟨xda, rfl, ⟨hxda, -⟩⟩ := h1
        obtain ⟨yda, rfl, ⟨hyda, -⟩⟩ := h2
        obtain ⟨xdaA, xdaC, xdaB, xdaO, rfl, -⟩ := hxda.open
        obtain ⟨ydaA, ydaC, ydaB, ydaO, rfl, -⟩ := hyda.open
        have hbw := HW.out
        have x0 : w.cell? ⟨b, off + k * 2, none⟩ = some (.int .i64 x.1) := hc1 0 _ rfl
        have x1 : w.cell? ⟨b, off + k * 2 + 1, none⟩ = some (.slice xdaA x.2.length xdaC) := hc1 1 _ rfl
        have y0 : w.cell? ⟨b2, off2 + k * 2, none⟩ = some (.int .i64 y.1) := hc2 0 _ rfl
        have y1 : w.cell? ⟨b2, off2 + k * 2 + 1, none⟩ = some (.slice ydaA y.2.length ydaC) := hc2 1 _ rfl
        have x0 := (hbw.cell (World.block_lt_of_cell? _ _ x0)).trans x0
        have y0 := (hbw.cell (World.block_lt_of_cell? _ _ y0)).trans y0
        have x1 := (hbw.cell (World.block_lt_of_cell? _ _ x1)).trans x1
        have y1 := (hbw.cell (World.block_lt_of_cell? _ _ y1)).trans y1
        have HC1 : Hid (∀ n, Calls Tryz.prog 22 #[.slice xdaA x.2.length xdaC, .slice ydaA y.2.length ydaC] (wr.drewN n) fun e w' => e = .returned (.bool (decide (x.2 = y.2))) ∧ ∃ q, w' = (wr.drewN n).drewN q) := fun n => ref_bytes_q _ _ _ _ _ ((hxda.below hbw).below (below_drewN (Below.refl _ _) n)) ((hyda.below hbw).below (below_drewN (Below.refl _ _) n))
        have hlt' : (k : Int) < l.length := by omega
        clear hbw hx hy hc1 hc2 HR1 HR2 hxda hyda
        by_cases h0 : x.1 = y.1
        · have K0 := Lib.hid h0
          have e0 : (x.1 == y.1) = true := by simp [h0]
          have f0 : (x.1 != y.1) = false := by simp [h0]
          clear h0
          by_cases h1 : x.2 = y.2
          · have K1 := Lib.hid h1
            rw [decide_eq_true h1] at HC1
            clear h1
            have HY2 : Hid (m[k]? = some x) := Lib.hid (HY.out.trans (congrArg some (show y = x from (Prod.ext K0.out (K1.out) : x = y).symm)))
            go_wp2_with fail
            go_quiet (((go_at_call 22; exact quiet_some (HC1.out _))))
            go_wp2_with fail
            go_roundw
            case rel => exact ⟨k + 1, by omega, by go_num, rfl, below_drewN HW.out _, take_both HX.out HY2.out HT.out⟩
            case measure => simp [intOf]; omega
          · have HNE : Hid (decide (l = m) = false) := decide_eq_false (get_ne HX.out HY.out (fun e => h1 (congrArg (fun z : ElemV => z.2) e)))
            rw [decide_eq_false h1] at HC1
            clear h1
            go_wp2_with fail
            go_quiet (((go_at_call 22; exact quiet_some (HC1.out _))))
            go_wp2_with fail
            go_ret
            exact ⟨by rw [HNE.out]; rfl, below_drewN HW.out _⟩
        · have HNE : Hid (decide (l = m) = false) := decide_eq_false (get_ne HX.out HY.out (fun e => h0 (congrArg (fun z : ElemV => z.1) e)))
          have e0 : (x.1 == y.1) = false := by simp [h0]
          have f0 : (x.1 != y.1) = true := by simp [h0]
          clear h0
          go_wp2_with fail
          go_quiet (fail)
          go_wp2_with fail
          go_ret
          exact ⟨by rw [HNE.out]; rfl, below_drewN HW.out _⟩
      · obtain rfl : k = l.length := by omega
        have HE : Hid (decide (l = m) = true) := by
          have := HT.out
          rw [List.take_length, HL.out, List.take_length] at this
          exact decide_eq_true this
        go_wp2_with fail
        go_ret
        exact ⟨by rw [HE.out]; rfl, HW.out⟩
  · have HNE : Hid (decide (l = m) = false) := decide_eq_false (fun e => hl (by rw [e]))
    have hb : ((l.length : Int) != (m.length : Int)) = true := by simp; omega
    clear hl
    go_enter Tryz.func39, Tryz.ntmps39
    go_wp2
    go_ret
    exact ⟨by rw [HNE.out]; rfl, Below.refl _ _⟩
end Go.Proofs.YtcebcncpbedkmaaGreat
