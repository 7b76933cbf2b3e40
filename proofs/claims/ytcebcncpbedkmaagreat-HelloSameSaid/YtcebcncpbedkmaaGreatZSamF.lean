/- Whether two lists of ports, of tables are the same: the walks of the program. Conditions: none. -/
import Derived.Test.YtcebcncpbedkmaaGreatZSamE
import Derived.Test.YtcebcncpbedkmaaGreatZSamP
namespace Go.Proofs.YtcebcncpbedkmaaGreat
open Go Go.RowKit
set_option maxRecDepth 100000
set_option maxHeartbeats 8000000

theorem cmp_Port {p q : PortV} {c d : List Value} {w : World} (h1 : PortR w p c) (h2 : PortR w q d) : Calls Tryz.prog 88 #[.agg c.toArray, .agg d.toArray] w (GotEq (decide (p = q)) w) := by
  unfold GotEq
  have hq := fun w' : World => run_eql_port (w := w') h1 h2
  have hm : Tryz.prog.eqGuardType Tryz.prog.depth 97 = false := by kernel_rfl
  obtain ⟨xna, xnu0, xnu1, xnu2, xnu3, xnu4, xnu5, xnu6, xnu7, rfl, hxna, hxnu⟩ := h1
  obtain ⟨yna, ynu0, ynu1, ynu2, ynu3, ynu4, ynu5, ynu6, ynu7, rfl, hyna, hynu⟩ := h2
  have hb0 := below_alloc2 (w := w) (.cells #[.int .u64 p.1, .int .u64 p.2.1, .string xna, .int .u64 xnu0, .int .u64 xnu1, .int .u64 xnu2, .int .u64 xnu3, .int .u64 xnu4, .int .u64 xnu5, .int .u64 xnu6, .int .u64 xnu7] 97)
  have hb1 := below_alloc2 (w := w.alloc (.cells #[.int .u64 p.1, .int .u64 p.2.1, .string xna, .int .u64 xnu0, .int .u64 xnu1, .int .u64 xnu2, .int .u64 xnu3, .int .u64 xnu4, .int .u64 xnu5, .int .u64 xnu6, .int .u64 xnu7] 97)) (.cells #[.int .u64 q.1, .int .u64 q.2.1, .string yna, .int .u64 ynu0, .int .u64 ynu1, .int .u64 ynu2, .int .u64 ynu3, .int .u64 ynu4, .int .u64 ynu5, .int .u64 ynu6, .int .u64 ynu7] 97)
  have HB0 := Lib.hid (hb0.trans (hb1.mono (by simp)))
  generalize decide (p = q) = r at hq ⊢
  clear hb0 hb1 hxna hxnu hyna hynu
  go_enter Tryz.func88, Tryz.ntmps88
  go_wp2_with fail
  go_ret
  exact ⟨rfl, HB0.out⟩

theorem eqf_Port {v1 v2 : Value} {l m : List PortV} {w : World} (h1 : RowsOf PortR 11 w v1 l) (h2 : RowsOf PortR 11 w v2 m) :
    Calls Tryz.prog 87 #[v1, v2, .func (.func 88) #[] #[]] w (GotEq (decide (l = m)) w) := by
  unfold GotEq
  obtain ⟨a, cap, b, off, rfl, hmx, ha, hit⟩ := rows_open h1
  obtain ⟨a2, cap2, b2, off2, rfl, hmx2, ha2, hit2⟩ := rows_open h2
  unfold maxLen at hmx hmx2
  have A := Lib.hid ha
  have A2 := Lib.hid ha2
  have HIt := Lib.hid hit
  have HIt2 := Lib.hid hit2
  clear h1 h2 ha ha2 hit hit2
  by_cases hl : l.length = m.length
  · have e1 : ((l.length : Int) != (l.length : Int)) = false := by simp
    have HL := Lib.hid hl
    rw [← hl]
    clear hl
    go_enter Tryz.func87, Tryz.ntmps87
    go_wp2_with fail
    go_loopw [17] (fun i wr => ∃ k : Nat, k ≤ l.length ∧ i = .int .i64 k ∧ Hid (Below w.heap.size w wr) ∧ Hid (l.take k = m.take k)) (fun i _ => l.length - (intOf i).toNat)
    case atStart => exact ⟨0, by omega, rfl, Below.refl _ _, rfl⟩
    case round =>
      obtain ⟨k, hk, rfl, HW, HT⟩ := hrel
      by_cases hlt : k < l.length
      · obtain rfl := A.out (by omega)
        obtain rfl := A2.out (by have := HL.out; omega)
        obtain ⟨x, hx⟩ : ∃ x, l[k]? = some x := ⟨_, List.getElem?_eq_getElem hlt⟩
        obtain ⟨y, hy⟩ : ∃ x, m[k]? = some x := ⟨_, List.getElem?_eq_getElem (by have := HL.out; omega)⟩
        obtain ⟨c1, hr1, hc1⟩ := HIt.out k x hx
        obtain ⟨c2, hr2, hc2⟩ := HIt2.out k y hy
        have HX := Lib.hid hx
        have HY := Lib.hid hy
        have HR1 := Lib.hid hr1
        have HR2 := Lib.hid hr2
        obtain ⟨xna, xnu0, xnu1, xnu2, xnu3, xnu4, xnu5, xnu6, xnu7, rfl, hxna, hxnu⟩ := hr1
        obtain ⟨yna, ynu0, ynu1, ynu2, ynu3, ynu4, ynu5, ynu6, ynu7, rfl, hyna, hynu⟩ := hr2
        have e3 : decide ((k : Int) < (l.length : Int)) = true := decide_eq_true (by omega)
        have hlt2 : k < m.length := by have := HL.out; omega
        have hbw := HW.out
        have x0 : w.cell? ⟨b, off + k * 11, none⟩ = some (.int .u64 x.1) := hc1 0 _ rfl
        have x1 : w.cell? ⟨b, off + k * 11 + 1, none⟩ = some (.int .u64 x.2.1) := hc1 1 _ rfl
        have x2 : w.cell? ⟨b, off + k * 11 + 2, none⟩ = some (.string xna) := hc1 2 _ rfl
        have x3 : w.cell? ⟨b, off + k * 11 + 3, none⟩ = some (.int .u64 xnu0) := hc1 3 _ rfl
        have x4 : w.cell? ⟨b, off + k * 11 + 4, none⟩ = some (.int .u64 xnu1) := hc1 4 _ rfl
        have x5 : w.cell? ⟨b, off + k * 11 + 5, none⟩ = some (.int .u64 xnu2) := hc1 5 _ rfl
        have x6 : w.cell? ⟨b, off + k * 11 + 6, none⟩ = some (.int .u64 xnu3) := hc1 6 _ rfl
        have x7 : w.cell? ⟨b, off + k * 11 + 7, none⟩ = some (.int .u64 xnu4) := hc1 7 _ rfl
        have x8 : w.cell? ⟨b, off + k * 11 + 8, none⟩ = some (.int .u64 xnu5) := hc1 8 _ rfl
        have x9 : w.cell? ⟨b, off + k * 11 + 9, none⟩ = some (.int .u64 xnu6) := hc1 9 _ rfl
        have x10 : w.cell? ⟨b, off + k * 11 + 10, none⟩ = some (.int .u64 xnu7) := hc1 10 _ rfl
        have y0 : w.cell? ⟨b2, off2 + k * 11, none⟩ = some (.int .u64 y.1) := hc2 0 _ rfl
        have y1 : w.cell? ⟨b2, off2 + k * 11 + 1, none⟩ = some (.int .u64 y.2.1) := hc2 1 _ rfl
        have y2 : w.cell? ⟨b2, off2 + k * 11 + 2, none⟩ = some (.string yna) := hc2 2 _ rfl
        have y3 : w.cell? ⟨b2, off2 + k * 11 + 3, none⟩ = some (.int .u64 ynu0) := hc2 3 _ rfl
        have y4 : w.cell? ⟨b2, off2 + k * 11 + 4, none⟩ = some (.int .u64 ynu1) := hc2 4 _ rfl
        have y5 : w.cell? ⟨b2, off2 + k * 11 + 5, none⟩ = some (.int .u64 ynu2) := hc2 5 _ rfl
        have y6 : w.cell? ⟨b2, off2 + k * 11 + 6, none⟩ = some (.int .u64 ynu3) := hc2 6 _ rfl
        have y7 : w.cell? ⟨b2, off2 + k * 11 + 7, none⟩ = some (.int .u64 ynu4) := hc2 7 _ rfl
        have y8 : w.cell? ⟨b2, off2 + k * 11 + 8, none⟩ = some (.int .u64 ynu5) := hc2 8 _ rfl
        have y9 : w.cell? ⟨b2, off2 + k * 11 + 9, none⟩ = some (.int .u64 ynu6) := hc2 9 _ rfl
        have y10 : w.cell? ⟨b2, off2 + k * 11 + 10, none⟩ = some (.int .u64 ynu7) := hc2 10 _ rfl
        have x0 := (hbw.cell (World.block_lt_of_cell? _ _ x0)).trans x0
        have x1 := (hbw.cell (World.block_lt_of_cell? _ _ x1)).trans x1
        have x2 := (hbw.cell (World.block_lt_of_cell? _ _ x2)).trans x2
        have x3 := (hbw.cell (World.block_lt_of_cell? _ _ x3)).trans x3
        have x4 := (hbw.cell (World.block_lt_of_cell? _ _ x4)).trans x4
        have x5 := (hbw.cell (World.block_lt_of_cell? _ _ x5)).trans x5
        have x6 := (hbw.cell (World.block_lt_of_cell? _ _ x6)).trans x6
        have x7 := (hbw.cell (World.block_lt_of_cell? _ _ x7)).trans x7
        have x8 := (hbw.cell (World.block_lt_of_cell? _ _ x8)).trans x8
        have x9 := (hbw.cell (World.block_lt_of_cell? _ _ x9)).trans x9
        have x10 := (hbw.cell (World.block_lt_of_cell? _ _ x10)).trans x10
        have HB1 := below_alloc2 (w := wr) (.cells #[.int .u64 x.1, .int .u64 x.2.1, .string xna, .int .u64 xnu0, .int .u64 xnu1, .int .u64 xnu2, .int .u64 xnu3, .int .u64 xnu4, .int .u64 xnu5, .int .u64 xnu6, .int .u64 xnu7] 97)
        have HB2 := HB1.trans ((below_alloc2 (w := wr.alloc (.cells #[.int .u64 x.1, .int .u64 x.2.1, .string xna, .int .u64 xnu0, .int .u64 xnu1, .int .u64 xnu2, .int .u64 xnu3, .int .u64 xnu4, .int .u64 xnu5, .int .u64 xnu6, .int .u64 xnu7] 97)) (.cells #[.int .u64 y.1, .int .u64 y.2.1, .string yna, .int .u64 ynu0, .int .u64 ynu1, .int .u64 ynu2, .int .u64 ynu3, .int .u64 ynu4, .int .u64 ynu5, .int .u64 ynu6, .int .u64 ynu7] 97)).mono (by simp))
        have hbw1 := hbw.trans (HB1.mono hbw.size)
        have y0 := (hbw1.cell (World.block_lt_of_cell? _ _ y0)).trans y0
        have y1 := (hbw1.cell (World.block_lt_of_cell? _ _ y1)).trans y1
        have y2 := (hbw1.cell (World.block_lt_of_cell? _ _ y2)).trans y2
        have y3 := (hbw1.cell (World.block_lt_of_cell? _ _ y3)).trans y3
        have y4 := (hbw1.cell (World.block_lt_of_cell? _ _ y4)).trans y4
        have y5 := (hbw1.cell (World.block_lt_of_cell? _ _ y5)).trans y5
        have y6 := (hbw1.cell (World.block_lt_of_cell? _ _ y6)).trans y6
        have y7 := (hbw1.cell (World.block_lt_of_cell? _ _ y7)).trans y7
        have y8 := (hbw1.cell (World.block_lt_of_cell? _ _ y8)).trans y8
        have y9 := (hbw1.cell (World.block_lt_of_cell? _ _ y9)).trans y9
        have y10 := (hbw1.cell (World.block_lt_of_cell? _ _ y10)).trans y10
        have HBw2 := Lib.hid (hbw.trans (HB2.mono hbw.size))
        have HEq := Lib.hid (cmp_Port (PortR.lasts _ _ _ _ HBw2.out HR1.out) (PortR.lasts _ _ _ _ HBw2.out HR2.out))
        clear HB1 HB2 hbw1
        unfold GotEq at HEq
        clear hbw hx hy hc1 hc2 HR1 HR2 hxna hxnu hyna hynu
        by_cases hpq : x = y
        · have HY : Hid (m[k]? = some x) := Lib.hid (HY.out.trans (by rw [hpq]))
          rw [decide_eq_true hpq] at HEq
          clear hpq
          go_wp2_with fail
          refine HEq.out.mono ?_
          rintro e w3 ⟨rfl, hb⟩
          have HB3 := Lib.hid (HBw2.out.trans (hb.mono HBw2.out.size))
          clear hb
          go_wp2_with fail
          go_roundw
          case rel => exact ⟨k + 1, by omega, by go_num, HB3.out, take_both HX.out HY.out HT.out⟩
          case measure => simp [intOf]; omega
        · have HNE : Hid (decide (l = m) = false) := decide_eq_false (get_ne HX.out HY.out hpq)
          rw [decide_eq_false hpq] at HEq
          clear hpq
          go_wp2_with fail
          refine HEq.out.mono ?_
          rintro e w3 ⟨rfl, hb⟩
          have HB3 := Lib.hid (HBw2.out.trans (hb.mono HBw2.out.size))
          clear hb
          go_wp2_with fail
          go_ret
          exact ⟨by rw [HNE.out]; rfl, HB3.out⟩
      · obtain rfl : k = l.length := by omega
        have HE : Hid (decide (l = m) = true) := by
          have := HT.out
          rw [List.take_length, HL.out, List.take_length] at this
          exact decide_eq_true this
        go_wp2_with fail
        go_ret
        exact ⟨by rw [HE.out]; rfl, HW.out⟩
  · have HNE : Hid (decide (l = m) = false) := decide_eq_false (fun e => hl (by rw [e]))
    have hb : ((l.length : Int) != (m.length : Int)) = true := by simp; omega
    clear hl
    go_enter Tryz.func87, Tryz.ntmps87
    go_wp2_with fail
    go_ret
    exact ⟨by rw [HNE.out]; rfl, Below.refl _ _⟩

theorem same_Port {v1 v2 : Value} {l m : List PortV} {w : World} (h1 : RowsOf PortR 11 w v1 l) (h2 : RowsOf PortR 11 w v2 m) : Calls Tryz.prog 36 #[v1, v2] w (GotEq (decide (l = m)) w) := by
  have HE := Lib.hid (eqf_Port h1 h2)
  obtain ⟨a, cap, b, off, rfl, -⟩ := rows_open h1
  obtain ⟨a2, cap2, b2, off2, rfl, -⟩ := rows_open h2
  unfold GotEq at HE ⊢
  clear h1 h2
  go_enter Tryz.func36, Tryz.ntmps36
  go_wp2_with fail
  refine HE.out.mono ?_
  rintro e w3 ⟨rfl, hb⟩
  have HB := Lib.hid hb
  clear hb
  go_wp2_with fail
  go_ret
  exact ⟨rfl, HB.out⟩

theorem cmp_TableI {p q : TableV} {c d : List Value} {w : World} (h1 : TableR w p c) (h2 : TableR w q d) : Calls Tryz.prog 104 #[.agg c.toArray, .agg d.toArray] w (GotEq (decide (p = q)) w) := by
  unfold GotEq
  have H1 := Lib.hid h1
  have H2 := Lib.hid h2
  obtain ⟨pid, pna, pm, pwr, pcf, pmx, pfe⟩ := p
  obtain ⟨qid, qna, qm, qwr, qcf, qmx, qfe⟩ := q
  obtain ⟨xna, xfe, rfl, hxna, hxfe⟩ := h1
  obtain ⟨yna, yfe, rfl, hyna, hyfe⟩ := h2
  dsimp only at *
  obtain ⟨xfeA, xfeC, xfeB, xfeO, rfl, -⟩ := rows_open hxfe
  obtain ⟨yfeA, yfeC, yfeB, yfeO, rfl, -⟩ := rows_open hyfe
  have hb0 := below_alloc2 (w := w) (.cells #[.int .u64 pid, .string xna, .int .u64 pm, .int .u64 pwr, .int .u64 pcf, .int .u64 pmx, .slice xfeA pfe.length xfeC] 143)
  have hb1 := below_alloc2 (w := w.alloc (.cells #[.int .u64 pid, .string xna, .int .u64 pm, .int .u64 pwr, .int .u64 pcf, .int .u64 pmx, .slice xfeA pfe.length xfeC] 143)) (.cells #[.int .u64 qid, .string yna, .int .u64 qm, .int .u64 qwr, .int .u64 qcf, .int .u64 qmx, .slice yfeA qfe.length yfeC] 143)
  have HB0 := Lib.hid (hb0.trans (hb1.mono (by simp)))
  have HP0 := Lib.hid (row_below hb1 (heap_alloc_new w (.cells #[.int .u64 pid, .string xna, .int .u64 pm, .int .u64 pwr, .int .u64 pcf, .int .u64 pmx, .slice xfeA pfe.length xfeC] 143)))
  have HQ0 := heap_alloc_new (w.alloc (.cells #[.int .u64 pid, .string xna, .int .u64 pm, .int .u64 pwr, .int .u64 pcf, .int .u64 pmx, .slice xfeA pfe.length xfeC] 143)) (.cells #[.int .u64 qid, .string yna, .int .u64 qm, .int .u64 qwr, .int .u64 qcf, .int .u64 qmx, .slice yfeA qfe.length yfeC] 143)
  rw [World.size_alloc] at HQ0
  have HQ0 := Lib.hid HQ0
  have HC6 := Lib.hid (fun (W : World) (hb : Below w.heap.size w W) => eqf_Feat (hxfe.below FeatR.lasts hb) (hyfe.below FeatR.lasts hb))
  have Hxna := Lib.hid hxna
  have Hyna := Lib.hid hyna
  clear H1 H2 hb0 hb1 hxna hxfe hyna hyfe
  by_cases h0 : pid = qid
  · subst h0
    have e0 : (pid == pid) = true := by simp
    have f0 : (pid != pid) = false := by simp
    by_cases h1 : pna = qna
    · subst h1
      have e1 : (xna.toList == yna.toList) = true := by rw [Hxna.out, Hyna.out]; simp
      have f1 : (xna.toList != yna.toList) = false := by rw [Hxna.out, Hyna.out]; simp
      by_cases h2 : pm = qm
      · subst h2
        have e2 : (pm == pm) = true := by simp
        have f2 : (pm != pm) = false := by simp
        by_cases h3 : pwr = qwr
        · subst h3
          have e3 : (pwr == pwr) = true := by simp
          have f3 : (pwr != pwr) = false := by simp
          by_cases h4 : pcf = qcf
          · subst h4
            have e4 : (pcf == pcf) = true := by simp
            have f4 : (pcf != pcf) = false := by simp
            by_cases h5 : pmx = qmx
            · subst h5
              have e5 : (pmx == pmx) = true := by simp
              have f5 : (pmx != pmx) = false := by simp
              by_cases h6 : pfe = qfe
              · subst h6
                rw [decide_eq_true (Eq.refl _)] at HC6
                have HEQ : Hid (decide (((pid, pna, pm, pwr, pcf, pmx, pfe) : TableV) = (pid, pna, pm, pwr, pcf, pmx, pfe)) = true) := decide_eq_true rfl
                go_enter Tryz.func104, Tryz.ntmps104
                go_wp2_with fail
                refine (HC6.out _ HB0.out).mono ?_
                rintro e w1 ⟨rfl, hb⟩
                have HB1 := Lib.hid (HB0.out.trans (hb.mono HB0.out.size))
                have HP1 := Lib.hid (row_below hb HP0.out)
                have HQ1 := Lib.hid (row_below hb HQ0.out)
                have c0 := cell_row HP1.out 0
                have d0 := cell_row HQ1.out 0
                have c1 := cell_row HP1.out 1
                have d1 := cell_row HQ1.out 1
                have c2 := cell_row HP1.out 2
                have d2 := cell_row HQ1.out 2
                have c3 := cell_row HP1.out 3
                have d3 := cell_row HQ1.out 3
                have c4 := cell_row HP1.out 4
                have d4 := cell_row HQ1.out 4
                have c5 := cell_row HP1.out 5
                have d5 := cell_row HQ1.out 5
                have c6 := cell_row HP1.out 6
                have d6 := cell_row HQ1.out 6
                clear hb
                go_wp2_with fail
                go_ret
                exact ⟨by first | (rw [HEQ.out]; rfl) | simp, HB1.out⟩
              · have HNE : Hid (decide (((pid, pna, pm, pwr, pcf, pmx, pfe) : TableV) = (pid, pna, pm, pwr, pcf, pmx, qfe)) = false) := decide_eq_false (fun e => h6 (congrArg (fun z : TableV => z.2.2.2.2.2.2) e))
                rw [decide_eq_false h6] at HC6
                clear h6
                go_enter Tryz.func104, Tryz.ntmps104
                go_wp2_with fail
                refine (HC6.out _ HB0.out).mono ?_
                rintro e w1 ⟨rfl, hb⟩
                have HB1 := Lib.hid (HB0.out.trans (hb.mono HB0.out.size))
                have HP1 := Lib.hid (row_below hb HP0.out)
                have HQ1 := Lib.hid (row_below hb HQ0.out)
                have c0 := cell_row HP1.out 0
                have d0 := cell_row HQ1.out 0
                have c1 := cell_row HP1.out 1
                have d1 := cell_row HQ1.out 1
                have c2 := cell_row HP1.out 2
                have d2 := cell_row HQ1.out 2
                have c3 := cell_row HP1.out 3
                have d3 := cell_row HQ1.out 3
                have c4 := cell_row HP1.out 4
                have d4 := cell_row HQ1.out 4
                have c5 := cell_row HP1.out 5
                have d5 := cell_row HQ1.out 5
                have c6 := cell_row HP1.out 6
                have d6 := cell_row HQ1.out 6
                clear hb
                go_wp2_with fail
                go_ret
                exact ⟨by rw [HNE.out]; rfl, HB1.out⟩
            · have HNE : Hid (decide (((pid, pna, pm, pwr, pcf, pmx, pfe) : TableV) = (pid, pna, pm, pwr, pcf, qmx, qfe)) = false) := decide_eq_false (fun e => h5 (congrArg (fun z : TableV => z.2.2.2.2.2.1) e))
              have e5 : (pmx == qmx) = false := by simpa using h5
              have f5 : (pmx != qmx) = true := by simpa using h5
              clear h5
              go_enter Tryz.func104, Tryz.ntmps104
              go_wp2_with fail
              go_ret
              exact ⟨by rw [HNE.out]; rfl, HB0.out⟩
          · have HNE : Hid (decide (((pid, pna, pm, pwr, pcf, pmx, pfe) : TableV) = (pid, pna, pm, pwr, qcf, qmx, qfe)) = false) := decide_eq_false (fun e => h4 (congrArg (fun z : TableV => z.2.2.2.2.1) e))
            have e4 : (pcf == qcf) = false := by simpa using h4
            have f4 : (pcf != qcf) = true := by simpa using h4
            clear h4
            go_enter Tryz.func104, Tryz.ntmps104
            go_wp2_with fail
            go_ret
            exact ⟨by rw [HNE.out]; rfl, HB0.out⟩
        · have HNE : Hid (decide (((pid, pna, pm, pwr, pcf, pmx, pfe) : TableV) = (pid, pna, pm, qwr, qcf, qmx, qfe)) = false) := decide_eq_false (fun e => h3 (congrArg (fun z : TableV => z.2.2.2.1) e))
          have e3 : (pwr == qwr) = false := by simpa using h3
          have f3 : (pwr != qwr) = true := by simpa using h3
          clear h3
          go_enter Tryz.func104, Tryz.ntmps104
          go_wp2_with fail
          go_ret
          exact ⟨by rw [HNE.out]; rfl, HB0.out⟩
      · have HNE : Hid (decide (((pid, pna, pm, pwr, pcf, pmx, pfe) : TableV) = (pid, pna, qm, qwr, qcf, qmx, qfe)) = false) := decide_eq_false (fun e => h2 (congrArg (fun z : TableV => z.2.2.1) e))
        have e2 : (pm == qm) = false := by simpa using h2
        have f2 : (pm != qm) = true := by simpa using h2
        clear h2
        go_enter Tryz.func104, Tryz.ntmps104
        go_wp2_with fail
        go_ret
        exact ⟨by rw [HNE.out]; rfl, HB0.out⟩
    · have HNE : Hid (decide (((pid, pna, pm, pwr, pcf, pmx, pfe) : TableV) = (pid, qna, qm, qwr, qcf, qmx, qfe)) = false) := decide_eq_false (fun e => h1 (congrArg (fun z : TableV => z.2.1) e))
      have e1 : (xna.toList == yna.toList) = false := by rw [Hxna.out, Hyna.out]; simpa using h1
      have f1 : (xna.toList != yna.toList) = true := by rw [Hxna.out, Hyna.out]; simpa using h1
      clear h1
      go_enter Tryz.func104, Tryz.ntmps104
      go_wp2_with fail
      go_ret
      exact ⟨by rw [HNE.out]; rfl, HB0.out⟩
  · have HNE : Hid (decide (((pid, pna, pm, pwr, pcf, pmx, pfe) : TableV) = (qid, qna, qm, qwr, qcf, qmx, qfe)) = false) := decide_eq_false (fun e => h0 (congrArg (fun z : TableV => z.1) e))
    have e0 : (pid == qid) = false := by simpa using h0
    have f0 : (pid != qid) = true := by simpa using h0
    clear h0
    go_enter Tryz.func104, Tryz.ntmps104
    go_wp2_with fail
    go_ret
    exact ⟨by rw [HNE.out]; rfl, HB0.out⟩

theorem cmp_Table {p q : TableV} {c d : List Value} {w : World} (h1 : TableR w p c) (h2 : TableR w q d) : Calls Tryz.prog 103 #[.agg c.toArray, .agg d.toArray] w (GotEq (decide (p = q)) w) := by
  unfold GotEq
  have H1 := Lib.hid h1
  have H2 := Lib.hid h2
  obtain ⟨xna, xfe, rfl, hxna, hxfe⟩ := h1
  obtain ⟨yna, yfe, rfl, hyna, hyfe⟩ := h2
  obtain ⟨xfeA, xfeC, xfeB, xfeO, rfl, -⟩ := rows_open hxfe
  obtain ⟨yfeA, yfeC, yfeB, yfeO, rfl, -⟩ := rows_open hyfe
  have hb0 := below_alloc2 (w := w) (.cells #[.int .u64 p.1, .string xna, .int .u64 p.2.2.1, .int .u64 p.2.2.2.1, .int .u64 p.2.2.2.2.1, .int .u64 p.2.2.2.2.2.1, .slice xfeA p.2.2.2.2.2.2.length xfeC] 143)
  have hb1 := below_alloc2 (w := w.alloc (.cells #[.int .u64 p.1, .string xna, .int .u64 p.2.2.1, .int .u64 p.2.2.2.1, .int .u64 p.2.2.2.2.1, .int .u64 p.2.2.2.2.2.1, .slice xfeA p.2.2.2.2.2.2.length xfeC] 143)) (.cells #[.int .u64 q.1, .string yna, .int .u64 q.2.2.1, .int .u64 q.2.2.2.1, .int .u64 q.2.2.2.2.1, .int .u64 q.2.2.2.2.2.1, .slice yfeA q.2.2.2.2.2.2.length yfeC] 143)
  have HB0 := Lib.hid (hb0.trans (hb1.mono (by simp)))
  have HE := Lib.hid (cmp_TableI (TableR.lasts _ _ _ _ HB0.out H1.out) (TableR.lasts _ _ _ _ HB0.out H2.out))
  unfold GotEq at HE
  clear H1 H2 hb0 hb1 hxna hxfe hyna hyfe
  go_enter Tryz.func103, Tryz.ntmps103
  go_wp2_with fail
  refine HE.out.mono ?_
  rintro e w3 ⟨rfl, hb⟩
  have HB := Lib.hid (HB0.out.trans (hb.mono HB0.out.size))
  clear hb
  go_wp2_with fail
  go_ret
  exact ⟨rfl, HB.out⟩

theorem eqf_Table {v1 v2 : Value} {l m : List TableV} {w : World} (h1 : RowsOf TableR 7 w v1 l) (h2 : RowsOf TableR 7 w v2 m) :
    Calls Tryz.prog 102 #[v1, v2, .func (.func 103) #[] #[]] w (GotEq (decide (l = m)) w) := by
  unfold GotEq
  obtain ⟨a, cap, b, off, rfl, hmx, ha, hit⟩ := rows_open h1
  obtain ⟨a2, cap2, b2, off2, rfl, hmx2, ha2, hit2⟩ := rows_open h2
  unfold maxLen at hmx hmx2
  have A := Lib.hid ha
  have A2 := Lib.hid ha2
  have HIt := Lib.hid hit
  have HIt2 := Lib.hid hit2
  clear h1 h2 ha ha2 hit hit2
  by_cases hl : l.length = m.length
  · have e1 : ((l.length : Int) != (l.length : Int)) = false := by simp
    have HL := Lib.hid hl
    rw [← hl]
    clear hl
    go_enter Tryz.func102, Tryz.ntmps102
    go_wp2_with fail
    go_loopw [17] (fun i wr => ∃ k : Nat, k ≤ l.length ∧ i = .int .i64 k ∧ Hid (Below w.heap.size w wr) ∧ Hid (l.take k = m.take k)) (fun i _ => l.length - (intOf i).toNat)
    case atStart => exact ⟨0, by omega, rfl, Below.refl _ _, rfl⟩
    case round =>
      obtain ⟨k, hk, rfl, HW, HT⟩ := hrel
      by_cases hlt : k < l.length
      · obtain rfl := A.out (by omega)
        obtain rfl := A2.out (by have := HL.out; omega)
        obtain ⟨x, hx⟩ : ∃ x, l[k]? = some x := ⟨_, List.getElem?_eq_getElem hlt⟩
        obtain ⟨y, hy⟩ : ∃ x, m[k]? = some x := ⟨_, List.getElem?_eq_getElem (by have := HL.out; omega)⟩
        obtain ⟨c1, hr1, hc1⟩ := HIt.out k x hx
        obtain ⟨c2, hr2, hc2⟩ := HIt2.out k y hy
        have HX := Lib.hid hx
        have HY := Lib.hid hy
        have HR1 := Lib.hid hr1
        have HR2 := Lib.hid hr2
        obtain ⟨xna, xfe, rfl, hxna, hxfe⟩ := hr1
        obtain ⟨yna, yfe, rfl, hyna, hyfe⟩ := hr2
        obtain ⟨xfeA, xfeC, xfeB, xfeO, rfl, -⟩ := rows_open hxfe
        obtain ⟨yfeA, yfeC, yfeB, yfeO, rfl, -⟩ := rows_open hyfe
        have e3 : decide ((k : Int) < (l.length : Int)) = true := decide_eq_true (by omega)
        have hlt2 : k < m.length := by have := HL.out; omega
        have hbw := HW.out
        have x0 : w.cell? ⟨b, off + k * 7, none⟩ = some (.int .u64 x.1) := hc1 0 _ rfl
        have x1 : w.cell? ⟨b, off + k * 7 + 1, none⟩ = some (.string xna) := hc1 1 _ rfl
        have x2 : w.cell? ⟨b, off + k * 7 + 2, none⟩ = some (.int .u64 x.2.2.1) := hc1 2 _ rfl
        have x3 : w.cell? ⟨b, off + k * 7 + 3, none⟩ = some (.int .u64 x.2.2.2.1) := hc1 3 _ rfl
        have x4 : w.cell? ⟨b, off + k * 7 + 4, none⟩ = some (.int .u64 x.2.2.2.2.1) := hc1 4 _ rfl
        have x5 : w.cell? ⟨b, off + k * 7 + 5, none⟩ = some (.int .u64 x.2.2.2.2.2.1) := hc1 5 _ rfl
        have x6 : w.cell? ⟨b, off + k * 7 + 6, none⟩ = some (.slice xfeA x.2.2.2.2.2.2.length xfeC) := hc1 6 _ rfl
        have y0 : w.cell? ⟨b2, off2 + k * 7, none⟩ = some (.int .u64 y.1) := hc2 0 _ rfl
        have y1 : w.cell? ⟨b2, off2 + k * 7 + 1, none⟩ = some (.string yna) := hc2 1 _ rfl
        have y2 : w.cell? ⟨b2, off2 + k * 7 + 2, none⟩ = some (.int .u64 y.2.2.1) := hc2 2 _ rfl
        have y3 : w.cell? ⟨b2, off2 + k * 7 + 3, none⟩ = some (.int .u64 y.2.2.2.1) := hc2 3 _ rfl
        have y4 : w.cell? ⟨b2, off2 + k * 7 + 4, none⟩ = some (.int .u64 y.2.2.2.2.1) := hc2 4 _ rfl
        have y5 : w.cell? ⟨b2, off2 + k * 7 + 5, none⟩ = some (.int .u64 y.2.2.2.2.2.1) := hc2 5 _ rfl
        have y6 : w.cell? ⟨b2, off2 + k * 7 + 6, none⟩ = some (.slice yfeA y.2.2.2.2.2.2.length yfeC) := hc2 6 _ rfl
        have x0 := (hbw.cell (World.block_lt_of_cell? _ _ x0)).trans x0
        have x1 := (hbw.cell (World.block_lt_of_cell? _ _ x1)).trans x1
        have x2 := (hbw.cell (World.block_lt_of_cell? _ _ x2)).trans x2
        have x3 := (hbw.cell (World.block_lt_of_cell? _ _ x3)).trans x3
        have x4 := (hbw.cell (World.block_lt_of_cell? _ _ x4)).trans x4
        have x5 := (hbw.cell (World.block_lt_of_cell? _ _ x5)).trans x5
        have x6 := (hbw.cell (World.block_lt_of_cell? _ _ x6)).trans x6
        have HB1 := below_alloc2 (w := wr) (.cells #[.int .u64 x.1, .string xna, .int .u64 x.2.2.1, .int .u64 x.2.2.2.1, .int .u64 x.2.2.2.2.1, .int .u64 x.2.2.2.2.2.1, .slice xfeA x.2.2.2.2.2.2.length xfeC] 143)
        have HB2 := HB1.trans ((below_alloc2 (w := wr.alloc (.cells #[.int .u64 x.1, .string xna, .int .u64 x.2.2.1, .int .u64 x.2.2.2.1, .int .u64 x.2.2.2.2.1, .int .u64 x.2.2.2.2.2.1, .slice xfeA x.2.2.2.2.2.2.length xfeC] 143)) (.cells #[.int .u64 y.1, .string yna, .int .u64 y.2.2.1, .int .u64 y.2.2.2.1, .int .u64 y.2.2.2.2.1, .int .u64 y.2.2.2.2.2.1, .slice yfeA y.2.2.2.2.2.2.length yfeC] 143)).mono (by simp))
        have hbw1 := hbw.trans (HB1.mono hbw.size)
        have y0 := (hbw1.cell (World.block_lt_of_cell? _ _ y0)).trans y0
        have y1 := (hbw1.cell (World.block_lt_of_cell? _ _ y1)).trans y1
        have y2 := (hbw1.cell (World.block_lt_of_cell? _ _ y2)).trans y2
        have y3 := (hbw1.cell (World.block_lt_of_cell? _ _ y3)).trans y3
        have y4 := (hbw1.cell (World.block_lt_of_cell? _ _ y4)).trans y4
        have y5 := (hbw1.cell (World.block_lt_of_cell? _ _ y5)).trans y5
        have y6 := (hbw1.cell (World.block_lt_of_cell? _ _ y6)).trans y6
        have HBw2 := Lib.hid (hbw.trans (HB2.mono hbw.size))
        have HEq := Lib.hid (cmp_Table (TableR.lasts _ _ _ _ HBw2.out HR1.out) (TableR.lasts _ _ _ _ HBw2.out HR2.out))
        clear HB1 HB2 hbw1
        unfold GotEq at HEq
        clear hbw hx hy hc1 hc2 HR1 HR2 hxna hxfe hyna hyfe
        by_cases hpq : x = y
        · have HY : Hid (m[k]? = some x) := Lib.hid (HY.out.trans (by rw [hpq]))
          rw [decide_eq_true hpq] at HEq
          clear hpq
          go_wp2_with fail
          refine HEq.out.mono ?_
          rintro e w3 ⟨rfl, hb⟩
          have HB3 := Lib.hid (HBw2.out.trans (hb.mono HBw2.out.size))
          clear hb
          go_wp2_with fail
          go_roundw
          case rel => exact ⟨k + 1, by omega, by go_num, HB3.out, take_both HX.out HY.out HT.out⟩
          case measure => simp [intOf]; omega
        · have HNE : Hid (decide (l = m) = false) := decide_eq_false (get_ne HX.out HY.out hpq)
          rw [decide_eq_false hpq] at HEq
          clear hpq
          go_wp2_with fail
          refine HEq.out.mono ?_
          rintro e w3 ⟨rfl, hb⟩
          have HB3 := Lib.hid (HBw2.out.trans (hb.mono HBw2.out.size))
          clear hb
          go_wp2_with fail
          go_ret
          exact ⟨by rw [HNE.out]; rfl, HB3.out⟩
      · obtain rfl : k = l.length := by omega
        have HE : Hid (decide (l = m) = true) := by
          have := HT.out
          rw [List.take_length, HL.out, List.take_length] at this
          exact decide_eq_true this
        go_wp2_with fail
        go_ret
        exact ⟨by rw [HE.out]; rfl, HW.out⟩
  · have HNE : Hid (decide (l = m) = false) := decide_eq_false (fun e => hl (by rw [e]))
    have hb : ((l.length : Int) != (m.length : Int)) = true := by simp; omega
    clear hl
    go_enter Tryz.func102, Tryz.ntmps102
    go_wp2_with fail
    go_ret
    exact ⟨by rw [HNE.out]; rfl, Below.refl _ _⟩

theorem same_Table {v1 v2 : Value} {l m : List TableV} {w : World} (h1 : RowsOf TableR 7 w v1 l) (h2 : RowsOf TableR 7 w v2 m) : Calls Tryz.prog 72 #[v1, v2] w (GotEq (decide (l = m)) w) := by
  have HE := Lib.hid (eqf_Table h1 h2)
  obtain ⟨a, cap, b, off, rfl, -⟩ := rows_open h1
  obtain ⟨a2, cap2, b2, off2, rfl, -⟩ := rows_open h2
  unfold GotEq at HE ⊢
  clear h1 h2
  go_enter Tryz.func72, Tryz.ntmps72
  go_wp2_with fail
  refine HE.out.mono ?_
  rintro e w3 ⟨rfl, hb⟩
  have HB := Lib.hid hb
  clear hb
  go_wp2_with fail
  go_ret
  exact ⟨rfl, HB.out⟩
end Go.Proofs.YtcebcncpbedkmaaGreat
