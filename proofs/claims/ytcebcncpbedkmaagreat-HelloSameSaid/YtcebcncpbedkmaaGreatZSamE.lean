/- Whether two lists of bands, of queues, of features are the same: the walks of the program. Conditions: none. -/
import Derived.Test.YtcebcncpbedkmaaGreatZSamT
namespace Go.Proofs.YtcebcncpbedkmaaGreat
open Go Go.RowKit
set_option maxRecDepth 100000
set_option maxHeartbeats 8000000

theorem cmp_Band {p q : BandV} {c d : List Value} {w : World} (h1 : BandR w p c) (h2 : BandR w q d) : Calls Tryz.prog 82 #[.agg c.toArray, .agg d.toArray] w (GotEq (decide (p = q)) w) := by
  unfold GotEq
  have H1 := Lib.hid h1
  have H2 := Lib.hid h2
  obtain ⟨pty, pra, pbu, pa, pda⟩ := p
  obtain ⟨qty, qra, qbu, qa, qda⟩ := q
  obtain ⟨xda, rfl, hxda⟩ := h1
  obtain ⟨yda, rfl, hyda⟩ := h2
  dsimp only at *
  obtain ⟨xdaA, xdaC, xdaB, xdaO, rfl, -⟩ := hxda.open
  obtain ⟨ydaA, ydaC, ydaB, ydaO, rfl, -⟩ := hyda.open
  have hb0 := below_alloc2 (w := w) (.cells #[.int .i64 pty, .int .u64 pra, .int .u64 pbu, .int .u64 pa, .slice xdaA pda.length xdaC] 91)
  have hb1 := below_alloc2 (w := w.alloc (.cells #[.int .i64 pty, .int .u64 pra, .int .u64 pbu, .int .u64 pa, .slice xdaA pda.length xdaC] 91)) (.cells #[.int .i64 qty, .int .u64 qra, .int .u64 qbu, .int .u64 qa, .slice ydaA qda.length ydaC] 91)
  have HB0 := Lib.hid (hb0.trans (hb1.mono (by simp)))
  have HP0 := Lib.hid (row_below hb1 (heap_alloc_new w (.cells #[.int .i64 pty, .int .u64 pra, .int .u64 pbu, .int .u64 pa, .slice xdaA pda.length xdaC] 91)))
  have HQ0 := heap_alloc_new (w.alloc (.cells #[.int .i64 pty, .int .u64 pra, .int .u64 pbu, .int .u64 pa, .slice xdaA pda.length xdaC] 91)) (.cells #[.int .i64 qty, .int .u64 qra, .int .u64 qbu, .int .u64 qa, .slice ydaA qda.length ydaC] 91)
  rw [World.size_alloc] at HQ0
  have HQ0 := Lib.hid HQ0
  have HC4 := Lib.hid (fun (W : World) (hb : Below w.heap.size w W) => bytes_eq (hxda.below hb) (hyda.below hb))
  clear H1 H2 hb0 hb1 hxda hyda
  by_cases h0 : pty = qty
  · subst h0
    have e0 : (pty == pty) = true := by simp
    have f0 : (pty != pty) = false := by simp
    by_cases h1 : pra = qra
    · subst h1
      have e1 : (pra == pra) = true := by simp
      have f1 : (pra != pra) = false := by simp
      by_cases h2 : pbu = qbu
      · subst h2
        have e2 : (pbu == pbu) = true := by simp
        have f2 : (pbu != pbu) = false := by simp
        by_cases h3 : pa = qa
        · subst h3
          have e3 : (pa == pa) = true := by simp
          have f3 : (pa != pa) = false := by simp
          by_cases h4 : pda = qda
          · subst h4
            rw [decide_eq_true (Eq.refl _)] at HC4
            have HEQ : Hid (decide (((pty, pra, pbu, pa, pda) : BandV) = (pty, pra, pbu, pa, pda)) = true) := decide_eq_true rfl
            go_enter Tryz.func82, Tryz.ntmps82
            go_wp2_with fail
            refine (HC4.out _ HB0.out).mono ?_
            rintro e w1 ⟨rfl, hb⟩
            have HB1 := Lib.hid (HB0.out.trans (hb.mono HB0.out.size))
            have HP1 := Lib.hid (row_below hb HP0.out)
            have HQ1 := Lib.hid (row_below hb HQ0.out)
            have c0 := cell_row HP1.out 0
            have d0 := cell_row HQ1.out 0
            have c1 := cell_row HP1.out 1
            have d1 := cell_row HQ1.out 1
            have c2 := cell_row HP1.out 2
            have d2 := cell_row HQ1.out 2
            have c3 := cell_row HP1.out 3
            have d3 := cell_row HQ1.out 3
            have c4 := cell_row HP1.out 4
            have d4 := cell_row HQ1.out 4
            clear hb
            go_wp2_with fail
            go_ret
            exact ⟨by first | (rw [HEQ.out]; rfl) | simp, HB1.out⟩
          · have HNE : Hid (decide (((pty, pra, pbu, pa, pda) : BandV) = (pty, pra, pbu, pa, qda)) = false) := decide_eq_false (fun e => h4 (congrArg (fun z : BandV => z.2.2.2.2) e))
            rw [decide_eq_false h4] at HC4
            clear h4
            go_enter Tryz.func82, Tryz.ntmps82
            go_wp2_with fail
            refine (HC4.out _ HB0.out).mono ?_
            rintro e w1 ⟨rfl, hb⟩
            have HB1 := Lib.hid (HB0.out.trans (hb.mono HB0.out.size))
            have HP1 := Lib.hid (row_below hb HP0.out)
            have HQ1 := Lib.hid (row_below hb HQ0.out)
            have c0 := cell_row HP1.out 0
            have d0 := cell_row HQ1.out 0
            have c1 := cell_row HP1.out 1
            have d1 := cell_row HQ1.out 1
            have c2 := cell_row HP1.out 2
            have d2 := cell_row HQ1.out 2
            have c3 := cell_row HP1.out 3
            have d3 := cell_row HQ1.out 3
            have c4 := cell_row HP1.out 4
            have d4 := cell_row HQ1.out 4
            clear hb
            go_wp2_with fail
            go_ret
            exact ⟨by rw [HNE.out]; rfl, HB1.out⟩
        · have HNE : Hid (decide (((pty, pra, pbu, pa, pda) : BandV) = (pty, pra, pbu, qa, qda)) = false) := decide_eq_false (fun e => h3 (congrArg (fun z : BandV => z.2.2.2.1) e))
          have e3 : (pa == qa) = false := by simpa using h3
          have f3 : (pa != qa) = true := by simpa using h3
          clear h3
          go_enter Tryz.func82, Tryz.ntmps82
          go_wp2_with fail
          go_ret
          exact ⟨by rw [HNE.out]; rfl, HB0.out⟩
      · have HNE : Hid (decide (((pty, pra, pbu, pa, pda) : BandV) = (pty, pra, qbu, qa, qda)) = false) := decide_eq_false (fun e => h2 (congrArg (fun z : BandV => z.2.2.1) e))
        have e2 : (pbu == qbu) = false := by simpa using h2
        have f2 : (pbu != qbu) = true := by simpa using h2
        clear h2
        go_enter Tryz.func82, Tryz.ntmps82
        go_wp2_with fail
        go_ret
        exact ⟨by rw [HNE.out]; rfl, HB0.out⟩
    · have HNE : Hid (decide (((pty, pra, pbu, pa, pda) : BandV) = (pty, qra, qbu, qa, qda)) = false) := decide_eq_false (fun e => h1 (congrArg (fun z : BandV => z.2.1) e))
      have e1 : (pra == qra) = false := by simpa using h1
      have f1 : (pra != qra) = true := by simpa using h1
      clear h1
      go_enter Tryz.func82, Tryz.ntmps82
      go_wp2_with fail
      go_ret
      exact ⟨by rw [HNE.out]; rfl, HB0.out⟩
  · have HNE : Hid (decide (((pty, pra, pbu, pa, pda) : BandV) = (qty, qra, qbu, qa, qda)) = false) := decide_eq_false (fun e => h0 (congrArg (fun z : BandV => z.1) e))
    have e0 : (pty == qty) = false := by simpa using h0
    have f0 : (pty != qty) = true := by simpa using h0
    clear h0
    go_enter Tryz.func82, Tryz.ntmps82
    go_wp2_with fail
    go_ret
    exact ⟨by rw [HNE.out]; rfl, HB0.out⟩

theorem eqf_Band {v1 v2 : Value} {l m : List BandV} {w : World} (h1 : RowsOf BandR 5 w v1 l) (h2 : RowsOf BandR 5 w v2 m) :
    Calls Tryz.prog 81 #[v1, v2, .func (.func 82) #[] #[]] w (GotEq (decide (l = m)) w) := by
  unfold GotEq
  obtain ⟨a, cap, b, off, rfl, hmx, ha, hit⟩ := rows_open h1
  obtain ⟨a2, cap2, b2, off2, rfl, hmx2, ha2, hit2⟩ := rows_open h2
  unfold maxLen at hmx hmx2
  have A := Lib.hid ha
  have A2 := Lib.hid ha2
  have HIt := Lib.hid hit
  have HIt2 := Lib.hid hit2
  clear h1 h2 ha ha2 hit hit2
  by_cases hl : l.length = m.length
  · have e1 : ((l.length : Int) != (l.length : Int)) = false := by simp
    have HL := Lib.hid hl
    rw [← hl]
    clear hl
    go_enter Tryz.func81, Tryz.ntmps81
    go_wp2_with fail
    go_loopw [17] (fun i wr => ∃ k : Nat, k ≤ l.length ∧ i = .int .i64 k ∧ Hid (Below w.heap.size w wr) ∧ Hid (l.take k = m.take k)) (fun i _ => l.length - (intOf i).toNat)
    case atStart => exact ⟨0, by omega, rfl, Below.refl _ _, rfl⟩
    case round =>
      obtain ⟨k, hk, rfl, HW, HT⟩ := hrel
      by_cases hlt : k < l.length
      · obtain rfl := A.out (by omega)
        obtain rfl := A2.out (by have := HL.out; omega)
        obtain ⟨x, hx⟩ : ∃ x, l[k]? = some x := ⟨_, List.getElem?_eq_getElem hlt⟩
        obtain ⟨y, hy⟩ : ∃ x, m[k]? = some x := ⟨_, List.getElem?_eq_getElem (by have := HL.out; omega)⟩
        obtain ⟨c1, hr1, hc1⟩ := HIt.out k x hx
        obtain ⟨c2, hr2, hc2⟩ := HIt2.out k y hy
        have HX := Lib.hid hx
        have HY := Lib.hid hy
        have HR1 := Lib.hid hr1
        have HR2 := Lib.hid hr2
        obtain ⟨xda, rfl, hxda⟩ := hr1
        obtain ⟨yda, rfl, hyda⟩ := hr2
        obtain ⟨xdaA, xdaC, xdaB, xdaO, rfl, -⟩ := hxda.open
        obtain ⟨ydaA, ydaC, ydaB, ydaO, rfl, -⟩ := hyda.open
        have e3 : decide ((k : Int) < (l.length : Int)) = true := decide_eq_true (by omega)
        have hlt2 : k < m.length := by have := HL.out; omega
        have hbw := HW.out
        have x0 : w.cell? ⟨b, off + k * 5, none⟩ = some (.int .i64 x.1) := hc1 0 _ rfl
        have x1 : w.cell? ⟨b, off + k * 5 + 1, none⟩ = some (.int .u64 x.2.1) := hc1 1 _ rfl
        have x2 : w.cell? ⟨b, off + k * 5 + 2, none⟩ = some (.int .u64 x.2.2.1) := hc1 2 _ rfl
        have x3 : w.cell? ⟨b, off + k * 5 + 3, none⟩ = some (.int .u64 x.2.2.2.1) := hc1 3 _ rfl
        have x4 : w.cell? ⟨b, off + k * 5 + 4, none⟩ = some (.slice xdaA x.2.2.2.2.length xdaC) := hc1 4 _ rfl
        have y0 : w.cell? ⟨b2, off2 + k * 5, none⟩ = some (.int .i64 y.1) := hc2 0 _ rfl
        have y1 : w.cell? ⟨b2, off2 + k * 5 + 1, none⟩ = some (.int .u64 y.2.1) := hc2 1 _ rfl
        have y2 : w.cell? ⟨b2, off2 + k * 5 + 2, none⟩ = some (.int .u64 y.2.2.1) := hc2 2 _ rfl
        have y3 : w.cell? ⟨b2, off2 + k * 5 + 3, none⟩ = some (.int .u64 y.2.2.2.1) := hc2 3 _ rfl
        have y4 : w.cell? ⟨b2, off2 + k * 5 + 4, none⟩ = some (.slice ydaA y.2.2.2.2.length ydaC) := hc2 4 _ rfl
        have x0 := (hbw.cell (World.block_lt_of_cell? _ _ x0)).trans x0
        have x1 := (hbw.cell (World.block_lt_of_cell? _ _ x1)).trans x1
        have x2 := (hbw.cell (World.block_lt_of_cell? _ _ x2)).trans x2
        have x3 := (hbw.cell (World.block_lt_of_cell? _ _ x3)).trans x3
        have x4 := (hbw.cell (World.block_lt_of_cell? _ _ x4)).trans x4
        have HB1 := below_alloc2 (w := wr) (.cells #[.int .i64 x.1, .int .u64 x.2.1, .int .u64 x.2.2.1, .int .u64 x.2.2.2.1, .slice xdaA x.2.2.2.2.length xdaC] 91)
        have HB2 := HB1.trans ((below_alloc2 (w := wr.alloc (.cells #[.int .i64 x.1, .int .u64 x.2.1, .int .u64 x.2.2.1, .int .u64 x.2.2.2.1, .slice xdaA x.2.2.2.2.length xdaC] 91)) (.cells #[.int .i64 y.1, .int .u64 y.2.1, .int .u64 y.2.2.1, .int .u64 y.2.2.2.1, .slice ydaA y.2.2.2.2.length ydaC] 91)).mono (by simp))
        have hbw1 := hbw.trans (HB1.mono hbw.size)
        have y0 := (hbw1.cell (World.block_lt_of_cell? _ _ y0)).trans y0
        have y1 := (hbw1.cell (World.block_lt_of_cell? _ _ y1)).trans y1
        have y2 := (hbw1.cell (World.block_lt_of_cell? _ _ y2)).trans y2
        have y3 := (hbw1.cell (World.block_lt_of_cell? _ _ y3)).trans y3
        have y4 := (hbw1.cell (World.block_lt_of_cell? _ _ y4)).trans y4
        have HBw2 := Lib.hid (hbw.trans (HB2.mono hbw.size))
        have HEq := Lib.hid (cmp_Band (BandR.lasts _ _ _ _ HBw2.out HR1.out) (BandR.lasts _ _ _ _ HBw2.out HR2.out))
        clear HB1 HB2 hbw1
        unfold GotEq at HEq
        clear hbw hx hy hc1 hc2 HR1 HR2 hxda hyda
        by_cases hpq : x = y
        · have HY : Hid (m[k]? = some x) := Lib.hid (HY.out.trans (by rw [hpq]))
          rw [decide_eq_true hpq] at HEq
          clear hpq
          go_wp2_with fail
          refine HEq.out.mono ?_
          rintro e w3 ⟨rfl, hb⟩
          have HB3 := Lib.hid (HBw2.out.trans (hb.mono HBw2.out.size))
          clear hb
          go_wp2_with fail
          go_roundw
          case rel => exact ⟨k + 1, by omega, by go_num, HB3.out, take_both HX.out HY.out HT.out⟩
          case measure => simp [intOf]; omega
        · have HNE : Hid (decide (l = m) = false) := decide_eq_false (get_ne HX.out HY.out hpq)
          rw [decide_eq_false hpq] at HEq
          clear hpq
          go_wp2_with fail
          refine HEq.out.mono ?_
          rintro e w3 ⟨rfl, hb⟩
          have HB3 := Lib.hid (HBw2.out.trans (hb.mono HBw2.out.size))
          clear hb
          go_wp2_with fail
          go_ret
          exact ⟨by rw [HNE.out]; rfl, HB3.out⟩
      · obtain rfl : k = l.length := by omega
        have HE : Hid (decide (l = m) = true) := by
          have := HT.out
          rw [List.take_length, HL.out, List.take_length] at this
          exact decide_eq_true this
        go_wp2_with fail
        go_ret
        exact ⟨by rw [HE.out]; rfl, HW.out⟩
  · have HNE : Hid (decide (l = m) = false) := decide_eq_false (fun e => hl (by rw [e]))
    have hb : ((l.length : Int) != (m.length : Int)) = true := by simp; omega
    clear hl
    go_enter Tryz.func81, Tryz.ntmps81
    go_wp2_with fail
    go_ret
    exact ⟨by rw [HNE.out]; rfl, Below.refl _ _⟩

theorem same_Band {v1 v2 : Value} {l m : List BandV} {w : World} (h1 : RowsOf BandR 5 w v1 l) (h2 : RowsOf BandR 5 w v2 m) : Calls Tryz.prog 34 #[v1, v2] w (GotEq (decide (l = m)) w) := by
  have HE := Lib.hid (eqf_Band h1 h2)
  obtain ⟨a, cap, b, off, rfl, -⟩ := rows_open h1
  obtain ⟨a2, cap2, b2, off2, rfl, -⟩ := rows_open h2
  unfold GotEq at HE ⊢
  clear h1 h2
  go_enter Tryz.func34, Tryz.ntmps34
  go_wp2_with fail
  refine HE.out.mono ?_
  rintro e w3 ⟨rfl, hb⟩
  have HB := Lib.hid hb
  clear hb
  go_wp2_with fail
  go_ret
  exact ⟨rfl, HB.out⟩

theorem cmp_Prop {p q : PropV} {c d : List Value} {w : World} (h1 : PropR w p c) (h2 : PropR w q d) : Calls Tryz.prog 86 #[.agg c.toArray, .agg d.toArray] w (GotEq (decide (p = q)) w) := by
  unfold GotEq
  have H1 := Lib.hid h1
  have H2 := Lib.hid h2
  obtain ⟨pty, pa, pda⟩ := p
  obtain ⟨qty, qa, qda⟩ := q
  obtain ⟨xda, rfl, hxda⟩ := h1
  obtain ⟨yda, rfl, hyda⟩ := h2
  dsimp only at *
  obtain ⟨xdaA, xdaC, xdaB, xdaO, rfl, -⟩ := hxda.open
  obtain ⟨ydaA, ydaC, ydaB, ydaO, rfl, -⟩ := hyda.open
  have hb0 := below_alloc2 (w := w) (.cells #[.int .i64 pty, .int .u64 pa, .slice xdaA pda.length xdaC] 105)
  have hb1 := below_alloc2 (w := w.alloc (.cells #[.int .i64 pty, .int .u64 pa, .slice xdaA pda.length xdaC] 105)) (.cells #[.int .i64 qty, .int .u64 qa, .slice ydaA qda.length ydaC] 105)
  have HB0 := Lib.hid (hb0.trans (hb1.mono (by simp)))
  have HP0 := Lib.hid (row_below hb1 (heap_alloc_new w (.cells #[.int .i64 pty, .int .u64 pa, .slice xdaA pda.length xdaC] 105)))
  have HQ0 := heap_alloc_new (w.alloc (.cells #[.int .i64 pty, .int .u64 pa, .slice xdaA pda.length xdaC] 105)) (.cells #[.int .i64 qty, .int .u64 qa, .slice ydaA qda.length ydaC] 105)
  rw [World.size_alloc] at HQ0
  have HQ0 := Lib.hid HQ0
  have HC2 := Lib.hid (fun (W : World) (hb : Below w.heap.size w W) => bytes_eq (hxda.below hb) (hyda.below hb))
  clear H1 H2 hb0 hb1 hxda hyda
  by_cases h0 : pty = qty
  · subst h0
    have e0 : (pty == pty) = true := by simp
    have f0 : (pty != pty) = false := by simp
    by_cases h1 : pa = qa
    · subst h1
      have e1 : (pa == pa) = true := by simp
      have f1 : (pa != pa) = false := by simp
      by_cases h2 : pda = qda
      · subst h2
        rw [decide_eq_true (Eq.refl _)] at HC2
        have HEQ : Hid (decide (((pty, pa, pda) : PropV) = (pty, pa, pda)) = true) := decide_eq_true rfl
        go_enter Tryz.func86, Tryz.ntmps86
        go_wp2_with fail
        refine (HC2.out _ HB0.out).mono ?_
        rintro e w1 ⟨rfl, hb⟩
        have HB1 := Lib.hid (HB0.out.trans (hb.mono HB0.out.size))
        have HP1 := Lib.hid (row_below hb HP0.out)
        have HQ1 := Lib.hid (row_below hb HQ0.out)
        have c0 := cell_row HP1.out 0
        have d0 := cell_row HQ1.out 0
        have c1 := cell_row HP1.out 1
        have d1 := cell_row HQ1.out 1
        have c2 := cell_row HP1.out 2
        have d2 := cell_row HQ1.out 2
        clear hb
        go_wp2_with fail
        go_ret
        exact ⟨by first | (rw [HEQ.out]; rfl) | simp, HB1.out⟩
      · have HNE : Hid (decide (((pty, pa, pda) : PropV) = (pty, pa, qda)) = false) := decide_eq_false (fun e => h2 (congrArg (fun z : PropV => z.2.2) e))
        rw [decide_eq_false h2] at HC2
        clear h2
        go_enter Tryz.func86, Tryz.ntmps86
        go_wp2_with fail
        refine (HC2.out _ HB0.out).mono ?_
        rintro e w1 ⟨rfl, hb⟩
        have HB1 := Lib.hid (HB0.out.trans (hb.mono HB0.out.size))
        have HP1 := Lib.hid (row_below hb HP0.out)
        have HQ1 := Lib.hid (row_below hb HQ0.out)
        have c0 := cell_row HP1.out 0
        have d0 := cell_row HQ1.out 0
        have c1 := cell_row HP1.out 1
        have d1 := cell_row HQ1.out 1
        have c2 := cell_row HP1.out 2
        have d2 := cell_row HQ1.out 2
        clear hb
        go_wp2_with fail
        go_ret
        exact ⟨by rw [HNE.out]; rfl, HB1.out⟩
    · have HNE : Hid (decide (((pty, pa, pda) : PropV) = (pty, qa, qda)) = false) := decide_eq_false (fun e => h1 (congrArg (fun z : PropV => z.2.1) e))
      have e1 : (pa == qa) = false := by simpa using h1
      have f1 : (pa != qa) = true := by simpa using h1
      clear h1
      go_enter Tryz.func86, Tryz.ntmps86
      go_wp2_with fail
      go_ret
      exact ⟨by rw [HNE.out]; rfl, HB0.out⟩
  · have HNE : Hid (decide (((pty, pa, pda) : PropV) = (qty, qa, qda)) = false) := decide_eq_false (fun e => h0 (congrArg (fun z : PropV => z.1) e))
    have e0 : (pty == qty) = false := by simpa using h0
    have f0 : (pty != qty) = true := by simpa using h0
    clear h0
    go_enter Tryz.func86, Tryz.ntmps86
    go_wp2_with fail
    go_ret
    exact ⟨by rw [HNE.out]; rfl, HB0.out⟩

theorem eqf_Prop {v1 v2 : Value} {l m : List PropV} {w : World} (h1 : RowsOf PropR 3 w v1 l) (h2 : RowsOf PropR 3 w v2 m) :
    Calls Tryz.prog 85 #[v1, v2, .func (.func 86) #[] #[]] w (GotEq (decide (l = m)) w) := by
  unfold GotEq
  obtain ⟨a, cap, b, off, rfl, hmx, ha, hit⟩ := rows_open h1
  obtain ⟨a2, cap2, b2, off2, rfl, hmx2, ha2, hit2⟩ := rows_open h2
  unfold maxLen at hmx hmx2
  have A := Lib.hid ha
  have A2 := Lib.hid ha2
  have HIt := Lib.hid hit
  have HIt2 := Lib.hid hit2
  clear h1 h2 ha ha2 hit hit2
  by_cases hl : l.length = m.length
  · have e1 : ((l.length : Int) != (l.length : Int)) = false := by simp
    have HL := Lib.hid hl
    rw [← hl]
    clear hl
    go_enter Tryz.func85, Tryz.ntmps85
    go_wp2_with fail
    go_loopw [17] (fun i wr => ∃ k : Nat, k ≤ l.length ∧ i = .int .i64 k ∧ Hid (Below w.heap.size w wr) ∧ Hid (l.take k = m.take k)) (fun i _ => l.length - (intOf i).toNat)
    case atStart => exact ⟨0, by omega, rfl, Below.refl _ _, rfl⟩
    case round =>
      obtain ⟨k, hk, rfl, HW, HT⟩ := hrel
      by_cases hlt : k < l.length
      · obtain rfl := A.out (by omega)
        obtain rfl := A2.out (by have := HL.out; omega)
        obtain ⟨x, hx⟩ : ∃ x, l[k]? = some x := ⟨_, List.getElem?_eq_getElem hlt⟩
        obtain ⟨y, hy⟩ : ∃ x, m[k]? = some x := ⟨_, List.getElem?_eq_getElem (by have := HL.out; omega)⟩
        obtain ⟨c1, hr1, hc1⟩ := HIt.out k x hx
        obtain ⟨c2, hr2, hc2⟩ := HIt2.out k y hy
        have HX := Lib.hid hx
        have HY := Lib.hid hy
        have HR1 := Lib.hid hr1
        have HR2 := Lib.hid hr2
        obtain ⟨xda, rfl, hxda⟩ := hr1
        obtain ⟨yda, rfl, hyda⟩ := hr2
        obtain ⟨xdaA, xdaC, xdaB, xdaO, rfl, -⟩ := hxda.open
        obtain ⟨ydaA, ydaC, ydaB, ydaO, rfl, -⟩ := hyda.open
        have e3 : decide ((k : Int) < (l.length : Int)) = true := decide_eq_true (by omega)
        have hlt2 : k < m.length := by have := HL.out; omega
        have hbw := HW.out
        have x0 : w.cell? ⟨b, off + k * 3, none⟩ = some (.int .i64 x.1) := hc1 0 _ rfl
        have x1 : w.cell? ⟨b, off + k * 3 + 1, none⟩ = some (.int .u64 x.2.1) := hc1 1 _ rfl
        have x2 : w.cell? ⟨b, off + k * 3 + 2, none⟩ = some (.slice xdaA x.2.2.length xdaC) := hc1 2 _ rfl
        have y0 : w.cell? ⟨b2, off2 + k * 3, none⟩ = some (.int .i64 y.1) := hc2 0 _ rfl
        have y1 : w.cell? ⟨b2, off2 + k * 3 + 1, none⟩ = some (.int .u64 y.2.1) := hc2 1 _ rfl
        have y2 : w.cell? ⟨b2, off2 + k * 3 + 2, none⟩ = some (.slice ydaA y.2.2.length ydaC) := hc2 2 _ rfl
        have x0 := (hbw.cell (World.block_lt_of_cell? _ _ x0)).trans x0
        have x1 := (hbw.cell (World.block_lt_of_cell? _ _ x1)).trans x1
        have x2 := (hbw.cell (World.block_lt_of_cell? _ _ x2)).trans x2
        have HB1 := below_alloc2 (w := wr) (.cells #[.int .i64 x.1, .int .u64 x.2.1, .slice xdaA x.2.2.length xdaC] 105)
        have HB2 := HB1.trans ((below_alloc2 (w := wr.alloc (.cells #[.int .i64 x.1, .int .u64 x.2.1, .slice xdaA x.2.2.length xdaC] 105)) (.cells #[.int .i64 y.1, .int .u64 y.2.1, .slice ydaA y.2.2.length ydaC] 105)).mono (by simp))
        have hbw1 := hbw.trans (HB1.mono hbw.size)
        have y0 := (hbw1.cell (World.block_lt_of_cell? _ _ y0)).trans y0
        have y1 := (hbw1.cell (World.block_lt_of_cell? _ _ y1)).trans y1
        have y2 := (hbw1.cell (World.block_lt_of_cell? _ _ y2)).trans y2
        have HBw2 := Lib.hid (hbw.trans (HB2.mono hbw.size))
        have HEq := Lib.hid (cmp_Prop (PropR.lasts _ _ _ _ HBw2.out HR1.out) (PropR.lasts _ _ _ _ HBw2.out HR2.out))
        clear HB1 HB2 hbw1
        unfold GotEq at HEq
        clear hbw hx hy hc1 hc2 HR1 HR2 hxda hyda
        by_cases hpq : x = y
        · have HY : Hid (m[k]? = some x) := Lib.hid (HY.out.trans (by rw [hpq]))
          rw [decide_eq_true hpq] at HEq
          clear hpq
          go_wp2_with fail
          refine HEq.out.mono ?_
          rintro e w3 ⟨rfl, hb⟩
          have HB3 := Lib.hid (HBw2.out.trans (hb.mono HBw2.out.size))
          clear hb
          go_wp2_with fail
          go_roundw
          case rel => exact ⟨k + 1, by omega, by go_num, HB3.out, take_both HX.out HY.out HT.out⟩
          case measure => simp [intOf]; omega
        · have HNE : Hid (decide (l = m) = false) := decide_eq_false (get_ne HX.out HY.out hpq)
          rw [decide_eq_false hpq] at HEq
          clear hpq
          go_wp2_with fail
          refine HEq.out.mono ?_
          rintro e w3 ⟨rfl, hb⟩
          have HB3 := Lib.hid (HBw2.out.trans (hb.mono HBw2.out.size))
          clear hb
          go_wp2_with fail
          go_ret
          exact ⟨by rw [HNE.out]; rfl, HB3.out⟩
      · obtain rfl : k = l.length := by omega
        have HE : Hid (decide (l = m) = true) := by
          have := HT.out
          rw [List.take_length, HL.out, List.take_length] at this
          exact decide_eq_true this
        go_wp2_with fail
        go_ret
        exact ⟨by rw [HE.out]; rfl, HW.out⟩
  · have HNE : Hid (decide (l = m) = false) := decide_eq_false (fun e => hl (by rw [e]))
    have hb : ((l.length : Int) != (m.length : Int)) = true := by simp; omega
    clear hl
    go_enter Tryz.func85, Tryz.ntmps85
    go_wp2_with fail
    go_ret
    exact ⟨by rw [HNE.out]; rfl, Below.refl _ _⟩

theorem cmp_Queue {p q : QueueV} {c d : List Value} {w : World} (h1 : QueueR w p c) (h2 : QueueR w q d) : Calls Tryz.prog 84 #[.agg c.toArray, .agg d.toArray] w (GotEq (decide (p = q)) w) := by
  unfold GotEq
  have H1 := Lib.hid h1
  have H2 := Lib.hid h2
  obtain ⟨pid, ppo, ppr⟩ := p
  obtain ⟨qid, qpo, qpr⟩ := q
  obtain ⟨xpr, rfl, hxpr⟩ := h1
  obtain ⟨ypr, rfl, hypr⟩ := h2
  dsimp only at *
  obtain ⟨xprA, xprC, xprB, xprO, rfl, -⟩ := rows_open hxpr
  obtain ⟨yprA, yprC, yprB, yprO, rfl, -⟩ := rows_open hypr
  have hb0 := below_alloc2 (w := w) (.cells #[.int .u64 pid, .int .u64 ppo, .slice xprA ppr.length xprC] 94)
  have hb1 := below_alloc2 (w := w.alloc (.cells #[.int .u64 pid, .int .u64 ppo, .slice xprA ppr.length xprC] 94)) (.cells #[.int .u64 qid, .int .u64 qpo, .slice yprA qpr.length yprC] 94)
  have HB0 := Lib.hid (hb0.trans (hb1.mono (by simp)))
  have HP0 := Lib.hid (row_below hb1 (heap_alloc_new w (.cells #[.int .u64 pid, .int .u64 ppo, .slice xprA ppr.length xprC] 94)))
  have HQ0 := heap_alloc_new (w.alloc (.cells #[.int .u64 pid, .int .u64 ppo, .slice xprA ppr.length xprC] 94)) (.cells #[.int .u64 qid, .int .u64 qpo, .slice yprA qpr.length yprC] 94)
  rw [World.size_alloc] at HQ0
  have HQ0 := Lib.hid HQ0
  have HC2 := Lib.hid (fun (W : World) (hb : Below w.heap.size w W) => eqf_Prop (hxpr.below PropR.lasts hb) (hypr.below PropR.lasts hb))
  clear H1 H2 hb0 hb1 hxpr hypr
  by_cases h0 : pid = qid
  · subst h0
    have e0 : (pid == pid) = true := by simp
    have f0 : (pid != pid) = false := by simp
    by_cases h1 : ppo = qpo
    · subst h1
      have e1 : (ppo == ppo) = true := by simp
      have f1 : (ppo != ppo) = false := by simp
      by_cases h2 : ppr = qpr
      · subst h2
        rw [decide_eq_true (Eq.refl _)] at HC2
        have HEQ : Hid (decide (((pid, ppo, ppr) : QueueV) = (pid, ppo, ppr)) = true) := decide_eq_true rfl
        go_enter Tryz.func84, Tryz.ntmps84
        go_wp2_with fail
        refine (HC2.out _ HB0.out).mono ?_
        rintro e w1 ⟨rfl, hb⟩
        have HB1 := Lib.hid (HB0.out.trans (hb.mono HB0.out.size))
        have HP1 := Lib.hid (row_below hb HP0.out)
        have HQ1 := Lib.hid (row_below hb HQ0.out)
        have c0 := cell_row HP1.out 0
        have d0 := cell_row HQ1.out 0
        have c1 := cell_row HP1.out 1
        have d1 := cell_row HQ1.out 1
        have c2 := cell_row HP1.out 2
        have d2 := cell_row HQ1.out 2
        clear hb
        go_wp2_with fail
        go_ret
        exact ⟨by first | (rw [HEQ.out]; rfl) | simp, HB1.out⟩
      · have HNE : Hid (decide (((pid, ppo, ppr) : QueueV) = (pid, ppo, qpr)) = false) := decide_eq_false (fun e => h2 (congrArg (fun z : QueueV => z.2.2) e))
        rw [decide_eq_false h2] at HC2
        clear h2
        go_enter Tryz.func84, Tryz.ntmps84
        go_wp2_with fail
        refine (HC2.out _ HB0.out).mono ?_
        rintro e w1 ⟨rfl, hb⟩
        have HB1 := Lib.hid (HB0.out.trans (hb.mono HB0.out.size))
        have HP1 := Lib.hid (row_below hb HP0.out)
        have HQ1 := Lib.hid (row_below hb HQ0.out)
        have c0 := cell_row HP1.out 0
        have d0 := cell_row HQ1.out 0
        have c1 := cell_row HP1.out 1
        have d1 := cell_row HQ1.out 1
        have c2 := cell_row HP1.out 2
        have d2 := cell_row HQ1.out 2
        clear hb
        go_wp2_with fail
        go_ret
        exact ⟨by rw [HNE.out]; rfl, HB1.out⟩
    · have HNE : Hid (decide (((pid, ppo, ppr) : QueueV) = (pid, qpo, qpr)) = false) := decide_eq_false (fun e => h1 (congrArg (fun z : QueueV => z.2.1) e))
      have e1 : (ppo == qpo) = false := by simpa using h1
      have f1 : (ppo != qpo) = true := by simpa using h1
      clear h1
      go_enter Tryz.func84, Tryz.ntmps84
      go_wp2_with fail
      go_ret
      exact ⟨by rw [HNE.out]; rfl, HB0.out⟩
  · have HNE : Hid (decide (((pid, ppo, ppr) : QueueV) = (qid, qpo, qpr)) = false) := decide_eq_false (fun e => h0 (congrArg (fun z : QueueV => z.1) e))
    have e0 : (pid == qid) = false := by simpa using h0
    have f0 : (pid != qid) = true := by simpa using h0
    clear h0
    go_enter Tryz.func84, Tryz.ntmps84
    go_wp2_with fail
    go_ret
    exact ⟨by rw [HNE.out]; rfl, HB0.out⟩

theorem eqf_Queue {v1 v2 : Value} {l m : List QueueV} {w : World} (h1 : RowsOf QueueR 3 w v1 l) (h2 : RowsOf QueueR 3 w v2 m) :
    Calls Tryz.prog 83 #[v1, v2, .func (.func 84) #[] #[]] w (GotEq (decide (l = m)) w) := by
  unfold GotEq
  obtain ⟨a, cap, b, off, rfl, hmx, ha, hit⟩ := rows_open h1
  obtain ⟨a2, cap2, b2, off2, rfl, hmx2, ha2, hit2⟩ := rows_open h2
  unfold maxLen at hmx hmx2
  have A := Lib.hid ha
  have A2 := Lib.hid ha2
  have HIt := Lib.hid hit
  have HIt2 := Lib.hid hit2
  clear h1 h2 ha ha2 hit hit2
  by_cases hl : l.length = m.length
  · have e1 : ((l.length : Int) != (l.length : Int)) = false := by simp
    have HL := Lib.hid hl
    rw [← hl]
    clear hl
    go_enter Tryz.func83, Tryz.ntmps83
    go_wp2_with fail
    go_loopw [17] (fun i wr => ∃ k : Nat, k ≤ l.length ∧ i = .int .i64 k ∧ Hid (Below w.heap.size w wr) ∧ Hid (l.take k = m.take k)) (fun i _ => l.length - (intOf i).toNat)
    case atStart => exact ⟨0, by omega, rfl, Below.refl _ _, rfl⟩
    case round =>
      obtain ⟨k, hk, rfl, HW, HT⟩ := hrel
      by_cases hlt : k < l.length
      · obtain rfl := A.out (by omega)
        obtain rfl := A2.out (by have := HL.out; omega)
        obtain ⟨x, hx⟩ : ∃ x, l[k]? = some x := ⟨_, List.getElem?_eq_getElem hlt⟩
        obtain ⟨y, hy⟩ : ∃ x, m[k]? = some x := ⟨_, List.getElem?_eq_getElem (by have := HL.out; omega)⟩
        obtain ⟨c1, hr1, hc1⟩ := HIt.out k x hx
        obtain ⟨c2, hr2, hc2⟩ := HIt2.out k y hy
        have HX := Lib.hid hx
        have HY := Lib.hid hy
        have HR1 := Lib.hid hr1
        have HR2 := Lib.hid hr2
        obtain ⟨xpr, rfl, hxpr⟩ := hr1
        obtain ⟨ypr, rfl, hypr⟩ := hr2
        obtain ⟨xprA, xprC, xprB, xprO, rfl, -⟩ := rows_open hxpr
        obtain ⟨yprA, yprC, yprB, yprO, rfl, -⟩ := rows_open hypr
        have e3 : decide ((k : Int) < (l.length : Int)) = true := decide_eq_true (by omega)
        have hlt2 : k < m.length := by have := HL.out; omega
        have hbw := HW.out
        have x0 : w.cell? ⟨b, off + k * 3, none⟩ = some (.int .u64 x.1) := hc1 0 _ rfl
        have x1 : w.cell? ⟨b, off + k * 3 + 1, none⟩ = some (.int .u64 x.2.1) := hc1 1 _ rfl
        have x2 : w.cell? ⟨b, off + k * 3 + 2, none⟩ = some (.slice xprA x.2.2.length xprC) := hc1 2 _ rfl
        have y0 : w.cell? ⟨b2, off2 + k * 3, none⟩ = some (.int .u64 y.1) := hc2 0 _ rfl
        have y1 : w.cell? ⟨b2, off2 + k * 3 + 1, none⟩ = some (.int .u64 y.2.1) := hc2 1 _ rfl
        have y2 : w.cell? ⟨b2, off2 + k * 3 + 2, none⟩ = some (.slice yprA y.2.2.length yprC) := hc2 2 _ rfl
        have x0 := (hbw.cell (World.block_lt_of_cell? _ _ x0)).trans x0
        have x1 := (hbw.cell (World.block_lt_of_cell? _ _ x1)).trans x1
        have x2 := (hbw.cell (World.block_lt_of_cell? _ _ x2)).trans x2
        have HB1 := below_alloc2 (w := wr) (.cells #[.int .u64 x.1, .int .u64 x.2.1, .slice xprA x.2.2.length xprC] 94)
        have HB2 := HB1.trans ((below_alloc2 (w := wr.alloc (.cells #[.int .u64 x.1, .int .u64 x.2.1, .slice xprA x.2.2.length xprC] 94)) (.cells #[.int .u64 y.1, .int .u64 y.2.1, .slice yprA y.2.2.length yprC] 94)).mono (by simp))
        have hbw1 := hbw.trans (HB1.mono hbw.size)
        have y0 := (hbw1.cell (World.block_lt_of_cell? _ _ y0)).trans y0
        have y1 := (hbw1.cell (World.block_lt_of_cell? _ _ y1)).trans y1
        have y2 := (hbw1.cell (World.block_lt_of_cell? _ _ y2)).trans y2
        have HBw2 := Lib.hid (hbw.trans (HB2.mono hbw.size))
        have HEq := Lib.hid (cmp_Queue (QueueR.lasts _ _ _ _ HBw2.out HR1.out) (QueueR.lasts _ _ _ _ HBw2.out HR2.out))
        clear HB1 HB2 hbw1
        unfold GotEq at HEq
        clear hbw hx hy hc1 hc2 HR1 HR2 hxpr hypr
        by_cases hpq : x = y
        · have HY : Hid (m[k]? = some x) := Lib.hid (HY.out.trans (by rw [hpq]))
          rw [decide_eq_true hpq] at HEq
          clear hpq
          go_wp2_with fail
          refine HEq.out.mono ?_
          rintro e w3 ⟨rfl, hb⟩
          have HB3 := Lib.hid (HBw2.out.trans (hb.mono HBw2.out.size))
          clear hb
          go_wp2_with fail
          go_roundw
          case rel => exact ⟨k + 1, by omega, by go_num, HB3.out, take_both HX.out HY.out HT.out⟩
          case measure => simp [intOf]; omega
        · have HNE : Hid (decide (l = m) = false) := decide_eq_false (get_ne HX.out HY.out hpq)
          rw [decide_eq_false hpq] at HEq
          clear hpq
          go_wp2_with fail
          refine HEq.out.mono ?_
          rintro e w3 ⟨rfl, hb⟩
          have HB3 := Lib.hid (HBw2.out.trans (hb.mono HBw2.out.size))
          clear hb
          go_wp2_with fail
          go_ret
          exact ⟨by rw [HNE.out]; rfl, HB3.out⟩
      · obtain rfl : k = l.length := by omega
        have HE : Hid (decide (l = m) = true) := by
          have := HT.out
          rw [List.take_length, HL.out, List.take_length] at this
          exact decide_eq_true this
        go_wp2_with fail
        go_ret
        exact ⟨by rw [HE.out]; rfl, HW.out⟩
  · have HNE : Hid (decide (l = m) = false) := decide_eq_false (fun e => hl (by rw [e]))
    have hb : ((l.length : Int) != (m.length : Int)) = true := by simp; omega
    clear hl
    go_enter Tryz.func83, Tryz.ntmps83
    go_wp2_with fail
    go_ret
    exact ⟨by rw [HNE.out]; rfl, Below.refl _ _⟩

theorem same_Queue {v1 v2 : Value} {l m : List QueueV} {w : World} (h1 : RowsOf QueueR 3 w v1 l) (h2 : RowsOf QueueR 3 w v2 m) : Calls Tryz.prog 35 #[v1, v2] w (GotEq (decide (l = m)) w) := by
  have HE := Lib.hid (eqf_Queue h1 h2)
  obtain ⟨a, cap, b, off, rfl, -⟩ := rows_open h1
  obtain ⟨a2, cap2, b2, off2, rfl, -⟩ := rows_open h2
  unfold GotEq at HE ⊢
  clear h1 h2
  go_enter Tryz.func35, Tryz.ntmps35
  go_wp2_with fail
  refine HE.out.mono ?_
  rintro e w3 ⟨rfl, hb⟩
  have HB := Lib.hid hb
  clear hb
  go_wp2_with fail
  go_ret
  exact ⟨rfl, HB.out⟩

theorem cmp_Feat {p q : FeatV} {c d : List Value} {w : World} (h1 : FeatR w p c) (h2 : FeatR w q d) : Calls Tryz.prog 115 #[.agg c.toArray, .agg d.toArray] w (GotEq (decide (p = q)) w) := by
  unfold GotEq
  have H1 := Lib.hid h1
  have H2 := Lib.hid h2
  obtain ⟨pty, pnu, pda⟩ := p
  obtain ⟨qty, qnu, qda⟩ := q
  obtain ⟨xnu, xda, rfl, hxnu, hxda⟩ := h1
  obtain ⟨ynu, yda, rfl, hynu, hyda⟩ := h2
  dsimp only at *
  obtain ⟨xnuA, xnuC, xnuB, xnuO, rfl, -⟩ := hxnu.open
  obtain ⟨xdaA, xdaC, xdaB, xdaO, rfl, -⟩ := hxda.open
  obtain ⟨ynuA, ynuC, ynuB, ynuO, rfl, -⟩ := hynu.open
  obtain ⟨ydaA, ydaC, ydaB, ydaO, rfl, -⟩ := hyda.open
  have hb0 := below_alloc2 (w := w) (.cells #[.int .i64 pty, .slice xnuA pnu.length xnuC, .slice xdaA pda.length xdaC] 145)
  have hb1 := below_alloc2 (w := w.alloc (.cells #[.int .i64 pty, .slice xnuA pnu.length xnuC, .slice xdaA pda.length xdaC] 145)) (.cells #[.int .i64 qty, .slice ynuA qnu.length ynuC, .slice ydaA qda.length ydaC] 145)
  have HB0 := Lib.hid (hb0.trans (hb1.mono (by simp)))
  have HP0 := Lib.hid (row_below hb1 (heap_alloc_new w (.cells #[.int .i64 pty, .slice xnuA pnu.length xnuC, .slice xdaA pda.length xdaC] 145)))
  have HQ0 := heap_alloc_new (w.alloc (.cells #[.int .i64 pty, .slice xnuA pnu.length xnuC, .slice xdaA pda.length xdaC] 145)) (.cells #[.int .i64 qty, .slice ynuA qnu.length ynuC, .slice ydaA qda.length ydaC] 145)
  rw [World.size_alloc] at HQ0
  have HQ0 := Lib.hid HQ0
  have HC1 := Lib.hid (fun (W : World) (hb : Below w.heap.size w W) => nums_eq (hxnu.below hb) (hynu.below hb))
  have HC2 := Lib.hid (fun (W : World) (hb : Below w.heap.size w W) => bytes_eq (hxda.below hb) (hyda.below hb))
  clear H1 H2 hb0 hb1 hxnu hxda hynu hyda
  by_cases h0 : pty = qty
  · subst h0
    have e0 : (pty == pty) = true := by simp
    have f0 : (pty != pty) = false := by simp
    by_cases h1 : pnu = qnu
    · subst h1
      rw [decide_eq_true (Eq.refl _)] at HC1
      by_cases h2 : pda = qda
      · subst h2
        rw [decide_eq_true (Eq.refl _)] at HC2
        have HEQ : Hid (decide (((pty, pnu, pda) : FeatV) = (pty, pnu, pda)) = true) := decide_eq_true rfl
        go_enter Tryz.func115, Tryz.ntmps115
        go_wp2_with fail
        refine (HC1.out _ HB0.out).mono ?_
        rintro e w1 ⟨rfl, hb⟩
        have HB1 := Lib.hid (HB0.out.trans (hb.mono HB0.out.size))
        have HP1 := Lib.hid (row_below hb HP0.out)
        have HQ1 := Lib.hid (row_below hb HQ0.out)
        have c0 := cell_row HP1.out 0
        have d0 := cell_row HQ1.out 0
        have c1 := cell_row HP1.out 1
        have d1 := cell_row HQ1.out 1
        have c2 := cell_row HP1.out 2
        have d2 := cell_row HQ1.out 2
        clear hb
        go_wp2_with fail
        refine (HC2.out _ HB1.out).mono ?_
        rintro e w2 ⟨rfl, hb⟩
        have HB2 := Lib.hid (HB1.out.trans (hb.mono HB1.out.size))
        have HP2 := Lib.hid (row_below hb HP1.out)
        have HQ2 := Lib.hid (row_below hb HQ1.out)
        clear c0 d0 c1 d1 c2 d2
        have c0 := cell_row HP2.out 0
        have d0 := cell_row HQ2.out 0
        have c1 := cell_row HP2.out 1
        have d1 := cell_row HQ2.out 1
        have c2 := cell_row HP2.out 2
        have d2 := cell_row HQ2.out 2
        clear hb
        go_wp2_with fail
        go_ret
        exact ⟨by first | (rw [HEQ.out]; rfl) | simp, HB2.out⟩
      · have HNE : Hid (decide (((pty, pnu, pda) : FeatV) = (pty, pnu, qda)) = false) := decide_eq_false (fun e => h2 (congrArg (fun z : FeatV => z.2.2) e))
        rw [decide_eq_false h2] at HC2
        clear h2
        go_enter Tryz.func115, Tryz.ntmps115
        go_wp2_with fail
        refine (HC1.out _ HB0.out).mono ?_
        rintro e w1 ⟨rfl, hb⟩
        have HB1 := Lib.hid (HB0.out.trans (hb.mono HB0.out.size))
        have HP1 := Lib.hid (row_below hb HP0.out)
        have HQ1 := Lib.hid (row_below hb HQ0.out)
        have c0 := cell_row HP1.out 0
        have d0 := cell_row HQ1.out 0
        have c1 := cell_row HP1.out 1
        have d1 := cell_row HQ1.out 1
        have c2 := cell_row HP1.out 2
        have d2 := cell_row HQ1.out 2
        clear hb
        go_wp2_with fail
        refine (HC2.out _ HB1.out).mono ?_
        rintro e w2 ⟨rfl, hb⟩
        have HB2 := Lib.hid (HB1.out.trans (hb.mono HB1.out.size))
        have HP2 := Lib.hid (row_below hb HP1.out)
        have HQ2 := Lib.hid (row_below hb HQ1.out)
        clear c0 d0 c1 d1 c2 d2
        have c0 := cell_row HP2.out 0
        have d0 := cell_row HQ2.out 0
        have c1 := cell_row HP2.out 1
        have d1 := cell_row HQ2.out 1
        have c2 := cell_row HP2.out 2
        have d2 := cell_row HQ2.out 2
        clear hb
        go_wp2_with fail
        go_ret
        exact ⟨by rw [HNE.out]; rfl, HB2.out⟩
    · have HNE : Hid (decide (((pty, pnu, pda) : FeatV) = (pty, qnu, qda)) = false) := decide_eq_false (fun e => h1 (congrArg (fun z : FeatV => z.2.1) e))
      rw [decide_eq_false h1] at HC1
      clear h1
      go_enter Tryz.func115, Tryz.ntmps115
      go_wp2_with fail
      refine (HC1.out _ HB0.out).mono ?_
      rintro e w1 ⟨rfl, hb⟩
      have HB1 := Lib.hid (HB0.out.trans (hb.mono HB0.out.size))
      have HP1 := Lib.hid (row_below hb HP0.out)
      have HQ1 := Lib.hid (row_below hb HQ0.out)
      have c0 := cell_row HP1.out 0
      have d0 := cell_row HQ1.out 0
      have c1 := cell_row HP1.out 1
      have d1 := cell_row HQ1.out 1
      have c2 := cell_row HP1.out 2
      have d2 := cell_row HQ1.out 2
      clear hb
      go_wp2_with fail
      go_ret
      exact ⟨by rw [HNE.out]; rfl, HB1.out⟩
  · have HNE : Hid (decide (((pty, pnu, pda) : FeatV) = (qty, qnu, qda)) = false) := decide_eq_false (fun e => h0 (congrArg (fun z : FeatV => z.1) e))
    have e0 : (pty == qty) = false := by simpa using h0
    have f0 : (pty != qty) = true := by simpa using h0
    clear h0
    go_enter Tryz.func115, Tryz.ntmps115
    go_wp2_with fail
    go_ret
    exact ⟨by rw [HNE.out]; rfl, HB0.out⟩

theorem eqf_Feat {v1 v2 : Value} {l m : List FeatV} {w : World} (h1 : RowsOf FeatR 3 w v1 l) (h2 : RowsOf FeatR 3 w v2 m) :
    Calls Tryz.prog 114 #[v1, v2, .func (.func 115) #[] #[]] w (GotEq (decide (l = m)) w) := by
  unfold GotEq
  obtain ⟨a, cap, b, off, rfl, hmx, ha, hit⟩ := rows_open h1
  obtain ⟨a2, cap2, b2, off2, rfl, hmx2, ha2, hit2⟩ := rows_open h2
  unfold maxLen at hmx hmx2
  have A := Lib.hid ha
  have A2 := Lib.hid ha2
  have HIt := Lib.hid hit
  have HIt2 := Lib.hid hit2
  clear h1 h2 ha ha2 hit hit2
  by_cases hl : l.length = m.length
  · have e1 : ((l.length : Int) != (l.length : Int)) = false := by simp
    have HL := Lib.hid hl
    rw [← hl]
    clear hl
    go_enter Tryz.func114, Tryz.ntmps114
    go_wp2_with fail
    go_loopw [17] (fun i wr => ∃ k : Nat, k ≤ l.length ∧ i = .int .i64 k ∧ Hid (Below w.heap.size w wr) ∧ Hid (l.take k = m.take k)) (fun i _ => l.length - (intOf i).toNat)
    case atStart => exact ⟨0, by omega, rfl, Below.refl _ _, rfl⟩
    case round =>
      obtain ⟨k, hk, rfl, HW, HT⟩ := hrel
      by_cases hlt : k < l.length
      · obtain rfl := A.out (by omega)
        obtain rfl := A2.out (by have := HL.out; omega)
        obtain ⟨x, hx⟩ : ∃ x, l[k]? = some x := ⟨_, List.getElem?_eq_getElem hlt⟩
        obtain ⟨y, hy⟩ : ∃ x, m[k]? = some x := ⟨_, List.getElem?_eq_getElem (by have := HL.out; omega)⟩
        obtain ⟨c1, hr1, hc1⟩ := HIt.out k x hx
        obtain ⟨c2, hr2, hc2⟩ := HIt2.out k y hy
        have HX := Lib.hid hx
        have HY := Lib.hid hy
        have HR1 := Lib.hid hr1
        have HR2 := Lib.hid hr2
        obtain ⟨xnu, xda, rfl, hxnu, hxda⟩ := hr1
        obtain ⟨ynu, yda, rfl, hynu, hyda⟩ := hr2
        obtain ⟨xnuA, xnuC, xnuB, xnuO, rfl, -⟩ := hxnu.open
        obtain ⟨xdaA, xdaC, xdaB, xdaO, rfl, -⟩ := hxda.open
        obtain ⟨ynuA, ynuC, ynuB, ynuO, rfl, -⟩ := hynu.open
        obtain ⟨ydaA, ydaC, ydaB, ydaO, rfl, -⟩ := hyda.open
        have e3 : decide ((k : Int) < (l.length : Int)) = true := decide_eq_true (by omega)
        have hlt2 : k < m.length := by have := HL.out; omega
        have hbw := HW.out
        have x0 : w.cell? ⟨b, off + k * 3, none⟩ = some (.int .i64 x.1) := hc1 0 _ rfl
        have x1 : w.cell? ⟨b, off + k * 3 + 1, none⟩ = some (.slice xnuA x.2.1.length xnuC) := hc1 1 _ rfl
        have x2 : w.cell? ⟨b, off + k * 3 + 2, none⟩ = some (.slice xdaA x.2.2.length xdaC) := hc1 2 _ rfl
        have y0 : w.cell? ⟨b2, off2 + k * 3, none⟩ = some (.int .i64 y.1) := hc2 0 _ rfl
        have y1 : w.cell? ⟨b2, off2 + k * 3 + 1, none⟩ = some (.slice ynuA y.2.1.length ynuC) := hc2 1 _ rfl
        have y2 : w.cell? ⟨b2, off2 + k * 3 + 2, none⟩ = some (.slice ydaA y.2.2.length ydaC) := hc2 2 _ rfl
        have x0 := (hbw.cell (World.block_lt_of_cell? _ _ x0)).trans x0
        have x1 := (hbw.cell (World.block_lt_of_cell? _ _ x1)).trans x1
        have x2 := (hbw.cell (World.block_lt_of_cell? _ _ x2)).trans x2
        have HB1 := below_alloc2 (w := wr) (.cells #[.int .i64 x.1, .slice xnuA x.2.1.length xnuC, .slice xdaA x.2.2.length xdaC] 145)
        have HB2 := HB1.trans ((below_alloc2 (w := wr.alloc (.cells #[.int .i64 x.1, .slice xnuA x.2.1.length xnuC, .slice xdaA x.2.2.length xdaC] 145)) (.cells #[.int .i64 y.1, .slice ynuA y.2.1.length ynuC, .slice ydaA y.2.2.length ydaC] 145)).mono (by simp))
        have hbw1 := hbw.trans (HB1.mono hbw.size)
        have y0 := (hbw1.cell (World.block_lt_of_cell? _ _ y0)).trans y0
        have y1 := (hbw1.cell (World.block_lt_of_cell? _ _ y1)).trans y1
        have y2 := (hbw1.cell (World.block_lt_of_cell? _ _ y2)).trans y2
        have HBw2 := Lib.hid (hbw.trans (HB2.mono hbw.size))
        have HEq := Lib.hid (cmp_Feat (FeatR.lasts _ _ _ _ HBw2.out HR1.out) (FeatR.lasts _ _ _ _ HBw2.out HR2.out))
        clear HB1 HB2 hbw1
        unfold GotEq at HEq
        clear hbw hx hy hc1 hc2 HR1 HR2 hxnu hxda hynu hyda
        by_cases hpq : x = y
        · have HY : Hid (m[k]? = some x) := Lib.hid (HY.out.trans (by rw [hpq]))
          rw [decide_eq_true hpq] at HEq
          clear hpq
          go_wp2_with fail
          refine HEq.out.mono ?_
          rintro e w3 ⟨rfl, hb⟩
          have HB3 := Lib.hid (HBw2.out.trans (hb.mono HBw2.out.size))
          clear hb
          go_wp2_with fail
          go_roundw
          case rel => exact ⟨k + 1, by omega, by go_num, HB3.out, take_both HX.out HY.out HT.out⟩
          case measure => simp [intOf]; omega
        · have HNE : Hid (decide (l = m) = false) := decide_eq_false (get_ne HX.out HY.out hpq)
          rw [decide_eq_false hpq] at HEq
          clear hpq
          go_wp2_with fail
          refine HEq.out.mono ?_
          rintro e w3 ⟨rfl, hb⟩
          have HB3 := Lib.hid (HBw2.out.trans (hb.mono HBw2.out.size))
          clear hb
          go_wp2_with fail
          go_ret
          exact ⟨by rw [HNE.out]; rfl, HB3.out⟩
      · obtain rfl : k = l.length := by omega
        have HE : Hid (decide (l = m) = true) := by
          have := HT.out
          rw [List.take_length, HL.out, List.take_length] at this
          exact decide_eq_true this
        go_wp2_with fail
        go_ret
        exact ⟨by rw [HE.out]; rfl, HW.out⟩
  · have HNE : Hid (decide (l = m) = false) := decide_eq_false (fun e => hl (by rw [e]))
    have hb : ((l.length : Int) != (m.length : Int)) = true := by simp; omega
    clear hl
    go_enter Tryz.func114, Tryz.ntmps114
    go_wp2_with fail
    go_ret
    exact ⟨by rw [HNE.out]; rfl, Below.refl _ _⟩
end Go.Proofs.YtcebcncpbedkmaaGreat
