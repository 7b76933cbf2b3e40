/- The walk of the document's same over properties (18). Conditions: none. The walk of the document's Same (18). Conditions: none. -/
import Derived.Test.YtoobcgakainelaaZQueE
namespace Go.Proofs.Ytoobcgakainelaa
open Go.RowKit
set_option maxRecDepth 100000
set_option maxHeartbeats 8000000

theorem ref_psame {v1 v2 : Value} {l m : List Prp} {w : World} (h1 : RowsOf PrpR 3 w v1 l) (h2 : RowsOf PrpR 3 w v2 m) : Calls Try.prog 53 #[v1, v2] w fun e w' => e = .returned (.bool (decide (l = m))) ∧ ∃ q, w' = w.drewN q := by
  obtain ⟨a, cap, b, off, rfl, hcap, hmx, -, ha, hit⟩ := prps_open h1
  obtain ⟨a2, cap2, b2, off2, rfl, hcap2, hmx2, -, ha2, hit2⟩ := prps_open h2
  unfold maxLen at hmx hmx2
  have A := Lib.hid ha
  have A2 := Lib.hid ha2
  have HIt := Lib.hid hit
  have HIt2 := Lib.hid hit2
  clear h1 h2 ha ha2 hit hit2
  by_cases hl : l.length = m.length
  · have e1 : ((l.length : Int) != (l.length : Int)) = false := by simp
    have HL := Lib.hid hl
    rw [← hl]
    clear hl
    go_enter Try.func53, Try.ntmps53
    go_wp2_with fail
    go_loopw [4, 5] (fun r i wr => ∃ k : Nat, k ≤ l.length ∧ i = .int .i64 k ∧ r = .bool false ∧ Hid (∃ q, wr = w.drewN q) ∧ Hid (l.take k = m.take k)) (fun _ i _ => l.length - (intOf i).toNat)
    case atStart => exact ⟨0, by omega, rfl, rfl, ⟨0, rfl⟩, rfl⟩
    case round =>
      obtain ⟨k, hk, rfl, rfl, HW, HT⟩ := hrel
      by_cases hlt : k < l.length
      · obtain rfl := A.out (by omega)
        obtain rfl := A2.out (by have := HL.out; omega)
        obtain ⟨⟨t, n, bs⟩, hx⟩ : ∃ x, l[k]? = some x := ⟨_, List.getElem?_eq_getElem hlt⟩
        obtain ⟨⟨t2, n2, bs2⟩, hx2⟩ : ∃ x, m[k]? = some x := ⟨_, List.getElem?_eq_getElem (by have := HL.out; omega)⟩
        obtain ⟨bv, x0, x1, x2, hbv, -, -⟩ := HIt.out k t n bs hx
        obtain ⟨bv2, y0, y1, y2, hbv2, -, -⟩ := HIt2.out k t2 n2 bs2 hx2
        have HX := Lib.hid hx
        have HX2 := Lib.hid hx2
        have hbw : Below w.heap.size w wr := by obtain ⟨q, hq⟩ := HW.out; rw [hq]; exact below_drewN (Below.refl _ _) _
        have x0 := (hbw.cell (World.block_lt_of_cell? _ _ x0)).trans x0
        have x1 := (hbw.cell (World.block_lt_of_cell? _ _ x1)).trans x1
        have x2 := (hbw.cell (World.block_lt_of_cell? _ _ x2)).trans x2
        have y2 := (hbw.cell (World.block_lt_of_cell? _ _ y2)).trans y2
        have y0 := (hbw.cell (World.block_lt_of_cell? _ _ y0)).trans y0
        have y1 := (hbw.cell (World.block_lt_of_cell? _ _ y1)).trans y1
        have HBy : Hid (∀ n, Calls Try.prog 15 #[bv, bv2] (wr.drewN n) fun e w' => e = .returned (.bool (decide (bs = bs2))) ∧ ∃ q, w' = (wr.drewN n).drewN q) := fun n => ref_bytes_q bv bv2 bs bs2 _ ((hbv.below hbw).below (below_drewN (Below.refl _ _) n)) ((hbv2.below hbw).below (below_drewN (Below.refl _ _) n))
        have hlt' : (k : Int) < l.length := by omega
        clear hx hx2 hbv hbv2 hbw
        by_cases ht : t = t2
        · subst ht
          have e3 : (t != t) = false := by simp
          by_cases hn : n = n2
          · subst hn
            have e4 : (n != n) = false := by simp
            by_cases hb : bs = bs2
            · subst hb
              rw [decide_eq_true rfl] at HBy
              go_wp2_with fail
              go_quiet ((go_at_call 15; exact quiet_some (HBy.out _)))
              go_wp2_with fail
              go_roundw
              case rel => exact ⟨k + 1, by omega, by go_num, rfl, by obtain ⟨q, hq⟩ := HW.out; exact ⟨q + nq, by rw [hq]; simp [World.drewN, Nat.add_assoc]⟩, take_both HX.out HX2.out HT.out⟩
              case measure => simp [intOf]; omega
            · have HNE : Hid (decide (l = m) = false) := decide_eq_false (get_ne HX.out HX2.out (fun e => hb (by injection e with _ e; injection e)))
              rw [decide_eq_false hb] at HBy
              clear hb
              go_wp2_with fail
              go_quiet ((go_at_call 15; exact quiet_some (HBy.out _)))
              go_wp2_with fail
              go_ret
              exact ⟨by rw [HNE.out]; rfl, by obtain ⟨q, hq⟩ := HW.out; exact ⟨q + nq, by rw [hq]; simp [World.drewN, Nat.add_assoc]⟩⟩
          · have HNE : Hid (decide (l = m) = false) := decide_eq_false (get_ne HX.out HX2.out (fun e => hn (by injection e with _ e; injection e)))
            have e4 : (n != n2) = true := by simpa using hn
            clear hn
            go_wp2_with fail
            go_quiet (fail)
            go_wp2_with fail
            go_ret
            exact ⟨by rw [HNE.out]; rfl, by obtain ⟨q, hq⟩ := HW.out; exact ⟨q + nq, by rw [hq]; simp [World.drewN, Nat.add_assoc]⟩⟩
        · have HNE : Hid (decide (l = m) = false) := decide_eq_false (get_ne HX.out HX2.out (fun e => ht (by injection e)))
          have e3 : (t != t2) = true := by simpa using ht
          clear ht
          go_wp2_with fail
          go_quiet (fail)
          go_wp2_with fail
          go_ret
          exact ⟨by rw [HNE.out]; rfl, by obtain ⟨q, hq⟩ := HW.out; exact ⟨q + nq, by rw [hq]; simp [World.drewN, Nat.add_assoc]⟩⟩
      · obtain rfl : k = l.length := by omega
        have HE : Hid (decide (l = m) = true) := by
          have := HT.out
          rw [List.take_length, HL.out, List.take_length] at this
          exact decide_eq_true this
        go_wp2_with fail
        go_ret
        exact ⟨by rw [HE.out]; rfl, HW.out⟩
  · have HNE : Hid (decide (l = m) = false) := decide_eq_false (fun e => hl (by rw [e]))
    have hb : ((l.length : Int) != (m.length : Int)) = true := by simp; omega
    clear hl
    go_enter Try.func53, Try.ntmps53
    go_wp2
    go_ret
    exact ⟨by rw [HNE.out]; rfl, 0, rfl⟩


end Go.Proofs.Ytoobcgakainelaa
namespace Go.Proofs.Ytoobcgakainelaa
open Go.RowKit
set_option maxRecDepth 100000
set_option maxHeartbeats 8000000

theorem ref_qsame {v1 v2 : Value} {l m : List Que} {w : World} (h1 : RowsOf QueR 3 w v1 l) (h2 : RowsOf QueR 3 w v2 m) : Calls Try.prog 24 #[v1, v2] w fun e w' => e = .returned (.bool (decide (l = m))) ∧ Below w.heap.size w w' := by
  obtain ⟨a, cap, b, off, rfl, hcap, hmx, -, ha, hit⟩ := ques_open h1
  obtain ⟨a2, cap2, b2, off2, rfl, hcap2, hmx2, -, ha2, hit2⟩ := ques_open h2
  unfold maxLen at hmx hmx2
  have A := Lib.hid ha
  have A2 := Lib.hid ha2
  have HIt := Lib.hid hit
  have HIt2 := Lib.hid hit2
  clear h1 h2 ha ha2 hit hit2
  by_cases hl : l.length = m.length
  · have e1 : ((l.length : Int) != (l.length : Int)) = false := by simp
    have HL := Lib.hid hl
    rw [← hl]
    clear hl
    go_enter Try.func24, Try.ntmps24
    go_wp2_with fail
    go_loopw [4, 5] (fun r i wr => ∃ k : Nat, k ≤ l.length ∧ i = .int .i64 k ∧ r = .bool false ∧ Hid (Below w.heap.size w wr) ∧ Hid (l.take k = m.take k)) (fun _ i _ => l.length - (intOf i).toNat)
    case atStart => exact ⟨0, by omega, rfl, rfl, Below.refl _ _, rfl⟩
    case round =>
      obtain ⟨k, hk, rfl, rfl, HW, HT⟩ := hrel
      by_cases hlt : k < l.length
      · obtain rfl := A.out (by omega)
        obtain rfl := A2.out (by have := HL.out; omega)
        obtain ⟨⟨t, n, bs⟩, hx⟩ : ∃ x, l[k]? = some x := ⟨_, List.getElem?_eq_getElem hlt⟩
        obtain ⟨⟨t2, n2, bs2⟩, hx2⟩ : ∃ x, m[k]? = some x := ⟨_, List.getElem?_eq_getElem (by have := HL.out; omega)⟩
        obtain ⟨bv, x0, x1, x2, hbv, -, -⟩ := HIt.out k t n bs hx
        obtain ⟨bv2, y0, y1, y2, hbv2, -, -⟩ := HIt2.out k t2 n2 bs2 hx2
        have HX := Lib.hid hx
        have HX2 := Lib.hid hx2
        have hbw := HW.out
        have x0 := (hbw.cell (World.block_lt_of_cell? _ _ x0)).trans x0
        have x1 := (hbw.cell (World.block_lt_of_cell? _ _ x1)).trans x1
        have x2 := (hbw.cell (World.block_lt_of_cell? _ _ x2)).trans x2
        have y2 := (hbw.cell (World.block_lt_of_cell? _ _ y2)).trans y2
        have y0 := (hbw.cell (World.block_lt_of_cell? _ _ y0)).trans y0
        have y1 := (hbw.cell (World.block_lt_of_cell? _ _ y1)).trans y1
        have HBy : Hid (∀ W, Below w.heap.size w W → Calls Try.prog 53 #[bv, bv2] W fun e w' => e = .returned (.bool (decide (bs = bs2))) ∧ ∃ q, w' = W.drewN q) := fun W hW => ref_psame (hbv.below PrpR.lasts hW) (hbv2.below PrpR.lasts hW)
        have hlt' : (k : Int) < l.length := by omega
        have HB1 := Lib.hid hbv
        have HB2 := Lib.hid hbv2
        clear hx hx2 hbv hbv2
        have hst : ∀ W, Below wr.heap.size wr W → W.cell? ⟨b, off + k * 3, none⟩ = some (.int .u64 t) ∧ W.cell? ⟨b, off + k * 3 + 1, none⟩ = some (.int .u64 n) ∧ W.cell? ⟨b, off + k * 3 + 2, none⟩ = some bv ∧ W.cell? ⟨b2, off2 + k * 3, none⟩ = some (.int .u64 t2) ∧ W.cell? ⟨b2, off2 + k * 3 + 1, none⟩ = some (.int .u64 n2) ∧ W.cell? ⟨b2, off2 + k * 3 + 2, none⟩ = some bv2 := fun W hb =>
          ⟨(hb.cell (World.block_lt_of_cell? _ _ x0)).trans x0, (hb.cell (World.block_lt_of_cell? _ _ x1)).trans x1, (hb.cell (World.block_lt_of_cell? _ _ x2)).trans x2, (hb.cell (World.block_lt_of_cell? _ _ y0)).trans y0, (hb.cell (World.block_lt_of_cell? _ _ y1)).trans y1, (hb.cell (World.block_lt_of_cell? _ _ y2)).trans y2⟩
        have HST := Lib.hid hst
        obtain ⟨av, capv, bbv, ov, rfl, -⟩ := prps_open HB1.out
        obtain ⟨av2, capv2, bbv2, ov2, rfl, -⟩ := prps_open HB2.out
        have hone : ∀ o, Below wr.heap.size wr (wr.alloc o) := fun o => below_alloc2 o
        have htwo : ∀ o o', Below wr.heap.size wr ((wr.alloc o).alloc o') := fun o o' => (below_alloc2 o).trans ((below_alloc2 (w := wr.alloc o) o').mono (by simp))
        obtain ⟨p00, p01, p02, p03, p04, p05⟩ := hst _ (hone (.cells #[.int .u64 0, .int .u64 0, .slice none 0 0] 79))
        obtain ⟨p10, p11, p12, p13, p14, p15⟩ := hst _ (hone (.cells #[.int .u64 t, .int .u64 n, .slice av bs.length capv] 79))
        obtain ⟨p20, p21, p22, p23, p24, p25⟩ := hst _ (hone (.cells #[.int .u64 t2, .int .u64 n2, .slice av2 bs2.length capv2] 79))
        obtain ⟨p30, p31, p32, p33, p34, p35⟩ := hst _ (htwo (.cells #[.int .u64 0, .int .u64 0, .slice none 0 0] 79) (.cells #[.int .u64 0, .int .u64 0, .slice none 0 0] 79))
        obtain ⟨p40, p41, p42, p43, p44, p45⟩ := hst _ (htwo (.cells #[.int .u64 t, .int .u64 n, .slice av bs.length capv] 79) (.cells #[.int .u64 0, .int .u64 0, .slice none 0 0] 79))
        obtain ⟨p50, p51, p52, p53, p54, p55⟩ := hst _ (htwo (.cells #[.int .u64 0, .int .u64 0, .slice none 0 0] 79) (.cells #[.int .u64 t, .int .u64 n, .slice av bs.length capv] 79))
        obtain ⟨p60, p61, p62, p63, p64, p65⟩ := hst _ (htwo (.cells #[.int .u64 t2, .int .u64 n2, .slice av2 bs2.length capv2] 79) (.cells #[.int .u64 0, .int .u64 0, .slice none 0 0] 79))
        obtain ⟨p70, p71, p72, p73, p74, p75⟩ := hst _ (htwo (.cells #[.int .u64 0, .int .u64 0, .slice none 0 0] 79) (.cells #[.int .u64 t2, .int .u64 n2, .slice av2 bs2.length capv2] 79))
        clear hst hone htwo
        clear hbw
        have HT2 : Hid (∀ o o', Below w.heap.size w ((wr.alloc o).alloc o').drew) := Lib.hid (fun o o' => below_drewN (HW.out.trans (((below_alloc2 o).trans ((below_alloc2 (w := wr.alloc o) o').mono (by simp))).mono HW.out.size)) 1)
        have HT3 : Hid (∀ o o', Below w.heap.size w ((wr.alloc o).alloc o')) := Lib.hid (fun o o' => HW.out.trans (((below_alloc2 o).trans ((below_alloc2 (w := wr.alloc o) o').mono (by simp))).mono HW.out.size))
        by_cases ht : t = t2
        · subst ht
          have e3 : (t == t) = true := by simp
          by_cases hn : n = n2
          · subst hn
            have e4 : (n == n) = true := by simp
            by_cases hb : bs = bs2
            · subst hb
              rw [decide_eq_true rfl] at HBy
              go_wp2_with fail
              go_region
              all_goals
                go_wp2_with fail
                refine (HBy.out _ (HT2.out _ _)).mono ?_
                rintro e w3 ⟨rfl, q, rfl⟩
                go_wp2_with fail
                go_roundw
                case rel => exact ⟨k + 1, by omega, by go_num, rfl, below_drewN (HT3.out _ _) _, take_both HX.out HX2.out HT.out⟩
                case measure => simp [intOf]; omega
            · have HNE : Hid (decide (l = m) = false) := decide_eq_false (get_ne HX.out HX2.out (fun e => hb (by injection e with _ e; injection e)))
              rw [decide_eq_false hb] at HBy
              clear hb
              go_wp2_with fail
              go_region
              all_goals
                go_wp2_with fail
                refine (HBy.out _ (HT2.out _ _)).mono ?_
                rintro e w3 ⟨rfl, q, rfl⟩
                go_wp2_with fail
                go_ret
                exact ⟨by rw [HNE.out]; rfl, below_drewN (HT3.out _ _) _⟩
          · have HNE : Hid (decide (l = m) = false) := decide_eq_false (get_ne HX.out HX2.out (fun e => hn (by injection e with _ e; injection e)))
            have e4 : (n == n2) = false := by simpa using hn
            clear hn
            go_wp2_with fail
            go_region
            all_goals
              go_wp2_with fail
              go_ret
              exact ⟨by rw [HNE.out]; rfl, HT2.out _ _⟩
        · have HNE : Hid (decide (l = m) = false) := decide_eq_false (get_ne HX.out HX2.out (fun e => ht (by injection e)))
          have e3 : (t == t2) = false := by simpa using ht
          clear ht
          go_wp2_with fail
          go_region
          all_goals
            go_wp2_with fail
            go_ret
            exact ⟨by rw [HNE.out]; rfl, HT2.out _ _⟩
      · obtain rfl : k = l.length := by omega
        have HE : Hid (decide (l = m) = true) := by
          have := HT.out
          rw [List.take_length, HL.out, List.take_length] at this
          exact decide_eq_true this
        go_wp2_with fail
        go_ret
        exact ⟨by rw [HE.out]; rfl, HW.out⟩
  · have HNE : Hid (decide (l = m) = false) := decide_eq_false (fun e => hl (by rw [e]))
    have hb : ((l.length : Int) != (m.length : Int)) = true := by simp; omega
    clear hl
    go_enter Try.func24, Try.ntmps24
    go_wp2
    go_ret
    exact ⟨by rw [HNE.out]; rfl, Below.refl _ _⟩

end Go.Proofs.Ytoobcgakainelaa
