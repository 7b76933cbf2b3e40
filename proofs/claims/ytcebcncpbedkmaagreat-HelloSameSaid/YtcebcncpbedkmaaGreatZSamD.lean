/- Whether two lists of instructions, of buckets are the same: the walks of the program. Conditions: none. -/
import Derived.Test.YtcebcncpbedkmaaGreatZSamB
namespace Go.Proofs.YtcebcncpbedkmaaGreat
open Go Go.RowKit
set_option maxRecDepth 100000
set_option maxHeartbeats 8000000

theorem cmp_Ins {p q : InsV} {c d : List Value} {w : World} (h1 : InsR w p c) (h2 : InsR w q d) : Calls Tryz.prog 78 #[.agg c.toArray, .agg d.toArray] w (GotEq (decide (p = q)) w) := by
  unfold GotEq
  have H1 := Lib.hid h1
  have H2 := Lib.hid h2
  obtain ⟨pty, pa, pb, pac, pda⟩ := p
  obtain ⟨qty, qa, qb, qac, qda⟩ := q
  obtain ⟨xac, xda, rfl, hxac, hxda⟩ := h1
  obtain ⟨yac, yda, rfl, hyac, hyda⟩ := h2
  dsimp only at *
  obtain ⟨xacA, xacC, xacB, xacO, rfl, -⟩ := rows_open hxac
  obtain ⟨xdaA, xdaC, xdaB, xdaO, rfl, -⟩ := hxda.open
  obtain ⟨yacA, yacC, yacB, yacO, rfl, -⟩ := rows_open hyac
  obtain ⟨ydaA, ydaC, ydaB, ydaO, rfl, -⟩ := hyda.open
  have hb0 := below_alloc2 (w := w) (.cells #[.int .i64 pty, .int .u64 pa, .int .u64 pb, .slice xacA pac.length xacC, .slice xdaA pda.length xdaC] 87)
  have hb1 := below_alloc2 (w := w.alloc (.cells #[.int .i64 pty, .int .u64 pa, .int .u64 pb, .slice xacA pac.length xacC, .slice xdaA pda.length xdaC] 87)) (.cells #[.int .i64 qty, .int .u64 qa, .int .u64 qb, .slice yacA qac.length yacC, .slice ydaA qda.length ydaC] 87)
  have HB0 := Lib.hid (hb0.trans (hb1.mono (by simp)))
  have HP0 := Lib.hid (row_below hb1 (heap_alloc_new w (.cells #[.int .i64 pty, .int .u64 pa, .int .u64 pb, .slice xacA pac.length xacC, .slice xdaA pda.length xdaC] 87)))
  have HQ0 := heap_alloc_new (w.alloc (.cells #[.int .i64 pty, .int .u64 pa, .int .u64 pb, .slice xacA pac.length xacC, .slice xdaA pda.length xdaC] 87)) (.cells #[.int .i64 qty, .int .u64 qa, .int .u64 qb, .slice yacA qac.length yacC, .slice ydaA qda.length ydaC] 87)
  rw [World.size_alloc] at HQ0
  have HQ0 := Lib.hid HQ0
  have HC3 := Lib.hid (fun (W : World) (hb : Below w.heap.size w W) => same_Act (hxac.below ActR.lasts hb) (hyac.below ActR.lasts hb))
  have HC4 := Lib.hid (fun (W : World) (hb : Below w.heap.size w W) => bytes_eq (hxda.below hb) (hyda.below hb))
  clear H1 H2 hb0 hb1 hxac hxda hyac hyda
  by_cases h0 : pty = qty
  · subst h0
    have e0 : (pty == pty) = true := by simp
    have f0 : (pty != pty) = false := by simp
    by_cases h1 : pa = qa
    · subst h1
      have e1 : (pa == pa) = true := by simp
      have f1 : (pa != pa) = false := by simp
      by_cases h2 : pb = qb
      · subst h2
        have e2 : (pb == pb) = true := by simp
        have f2 : (pb != pb) = false := by simp
        by_cases h3 : pac = qac
        · subst h3
          rw [decide_eq_true (Eq.refl _)] at HC3
          by_cases h4 : pda = qda
          · subst h4
            rw [decide_eq_true (Eq.refl _)] at HC4
            have HEQ : Hid (decide (((pty, pa, pb, pac, pda) : InsV) = (pty, pa, pb, pac, pda)) = true) := decide_eq_true rfl
            go_enter Tryz.func78, Tryz.ntmps78
            go_wp2_with fail
            refine (HC3.out _ HB0.out).mono ?_
            rintro e w1 ⟨rfl, hb⟩
            have HB1 := Lib.hid (HB0.out.trans (hb.mono HB0.out.size))
            have HP1 := Lib.hid (row_below hb HP0.out)
            have HQ1 := Lib.hid (row_below hb HQ0.out)
            have c0 := cell_row HP1.out 0
            have d0 := cell_row HQ1.out 0
            have c1 := cell_row HP1.out 1
            have d1 := cell_row HQ1.out 1
            have c2 := cell_row HP1.out 2
            have d2 := cell_row HQ1.out 2
            have c3 := cell_row HP1.out 3
            have d3 := cell_row HQ1.out 3
            have c4 := cell_row HP1.out 4
            have d4 := cell_row HQ1.out 4
            clear hb
            go_wp2_with fail
            refine (HC4.out _ HB1.out).mono ?_
            rintro e w2 ⟨rfl, hb⟩
            have HB2 := Lib.hid (HB1.out.trans (hb.mono HB1.out.size))
            have HP2 := Lib.hid (row_below hb HP1.out)
            have HQ2 := Lib.hid (row_below hb HQ1.out)
            clear c0 d0 c1 d1 c2 d2 c3 d3 c4 d4
            have c0 := cell_row HP2.out 0
            have d0 := cell_row HQ2.out 0
            have c1 := cell_row HP2.out 1
            have d1 := cell_row HQ2.out 1
            have c2 := cell_row HP2.out 2
            have d2 := cell_row HQ2.out 2
            have c3 := cell_row HP2.out 3
            have d3 := cell_row HQ2.out 3
            have c4 := cell_row HP2.out 4
            have d4 := cell_row HQ2.out 4
            clear hb
            go_wp2_with fail
            go_ret
            exact ⟨by first | (rw [HEQ.out]; rfl) | simp, HB2.out⟩
          · have HNE : Hid (decide (((pty, pa, pb, pac, pda) : InsV) = (pty, pa, pb, pac, qda)) = false) := decide_eq_false (fun e => h4 (congrArg (fun z : InsV => z.2.2.2.2) e))
            rw [decide_eq_false h4] at HC4
            clear h4
            go_enter Tryz.func78, Tryz.ntmps78
            go_wp2_with fail
            refine (HC3.out _ HB0.out).mono ?_
            rintro e w1 ⟨rfl, hb⟩
            have HB1 := Lib.hid (HB0.out.trans (hb.mono HB0.out.size))
            have HP1 := Lib.hid (row_below hb HP0.out)
            have HQ1 := Lib.hid (row_below hb HQ0.out)
            have c0 := cell_row HP1.out 0
            have d0 := cell_row HQ1.out 0
            have c1 := cell_row HP1.out 1
            have d1 := cell_row HQ1.out 1
            have c2 := cell_row HP1.out 2
            have d2 := cell_row HQ1.out 2
            have c3 := cell_row HP1.out 3
            have d3 := cell_row HQ1.out 3
            have c4 := cell_row HP1.out 4
            have d4 := cell_row HQ1.out 4
            clear hb
            go_wp2_with fail
            refine (HC4.out _ HB1.out).mono ?_
            rintro e w2 ⟨rfl, hb⟩
            have HB2 := Lib.hid (HB1.out.trans (hb.mono HB1.out.size))
            have HP2 := Lib.hid (row_below hb HP1.out)
            have HQ2 := Lib.hid (row_below hb HQ1.out)
            clear c0 d0 c1 d1 c2 d2 c3 d3 c4 d4
            have c0 := cell_row HP2.out 0
            have d0 := cell_row HQ2.out 0
            have c1 := cell_row HP2.out 1
            have d1 := cell_row HQ2.out 1
            have c2 := cell_row HP2.out 2
            have d2 := cell_row HQ2.out 2
            have c3 := cell_row HP2.out 3
            have d3 := cell_row HQ2.out 3
            have c4 := cell_row HP2.out 4
            have d4 := cell_row HQ2.out 4
            clear hb
            go_wp2_with fail
            go_ret
            exact ⟨by rw [HNE.out]; rfl, HB2.out⟩
        · have HNE : Hid (decide (((pty, pa, pb, pac, pda) : InsV) = (pty, pa, pb, qac, qda)) = false) := decide_eq_false (fun e => h3 (congrArg (fun z : InsV => z.2.2.2.1) e))
          rw [decide_eq_false h3] at HC3
          clear h3
          go_enter Tryz.func78, Tryz.ntmps78
          go_wp2_with fail
          refine (HC3.out _ HB0.out).mono ?_
          rintro e w1 ⟨rfl, hb⟩
          have HB1 := Lib.hid (HB0.out.trans (hb.mono HB0.out.size))
          have HP1 := Lib.hid (row_below hb HP0.out)
          have HQ1 := Lib.hid (row_below hb HQ0.out)
          have c0 := cell_row HP1.out 0
          have d0 := cell_row HQ1.out 0
          have c1 := cell_row HP1.out 1
          have d1 := cell_row HQ1.out 1
          have c2 := cell_row HP1.out 2
          have d2 := cell_row HQ1.out 2
          have c3 := cell_row HP1.out 3
          have d3 := cell_row HQ1.out 3
          have c4 := cell_row HP1.out 4
          have d4 := cell_row HQ1.out 4
          clear hb
          go_wp2_with fail
          go_ret
          exact ⟨by rw [HNE.out]; rfl, HB1.out⟩
      · have HNE : Hid (decide (((pty, pa, pb, pac, pda) : InsV) = (pty, pa, qb, qac, qda)) = false) := decide_eq_false (fun e => h2 (congrArg (fun z : InsV => z.2.2.1) e))
        have e2 : (pb == qb) = false := by simpa using h2
        have f2 : (pb != qb) = true := by simpa using h2
        clear h2
        go_enter Tryz.func78, Tryz.ntmps78
        go_wp2_with fail
        go_ret
        exact ⟨by rw [HNE.out]; rfl, HB0.out⟩
    · have HNE : Hid (decide (((pty, pa, pb, pac, pda) : InsV) = (pty, qa, qb, qac, qda)) = false) := decide_eq_false (fun e => h1 (congrArg (fun z : InsV => z.2.1) e))
      have e1 : (pa == qa) = false := by simpa using h1
      have f1 : (pa != qa) = true := by simpa using h1
      clear h1
      go_enter Tryz.func78, Tryz.ntmps78
      go_wp2_with fail
      go_ret
      exact ⟨by rw [HNE.out]; rfl, HB0.out⟩
  · have HNE : Hid (decide (((pty, pa, pb, pac, pda) : InsV) = (qty, qa, qb, qac, qda)) = false) := decide_eq_false (fun e => h0 (congrArg (fun z : InsV => z.1) e))
    have e0 : (pty == qty) = false := by simpa using h0
    have f0 : (pty != qty) = true := by simpa using h0
    clear h0
    go_enter Tryz.func78, Tryz.ntmps78
    go_wp2_with fail
    go_ret
    exact ⟨by rw [HNE.out]; rfl, HB0.out⟩

theorem eqf_Ins {v1 v2 : Value} {l m : List InsV} {w : World} (h1 : RowsOf InsR 5 w v1 l) (h2 : RowsOf InsR 5 w v2 m) :
    Calls Tryz.prog 77 #[v1, v2, .func (.func 78) #[] #[]] w (GotEq (decide (l = m)) w) := by
  unfold GotEq
  obtain ⟨a, cap, b, off, rfl, hmx, ha, hit⟩ := rows_open h1
  obtain ⟨a2, cap2, b2, off2, rfl, hmx2, ha2, hit2⟩ := rows_open h2
  unfold maxLen at hmx hmx2
  have A := Lib.hid ha
  have A2 := Lib.hid ha2
  have HIt := Lib.hid hit
  have HIt2 := Lib.hid hit2
  clear h1 h2 ha ha2 hit hit2
  by_cases hl : l.length = m.length
  · have e1 : ((l.length : Int) != (l.length : Int)) = false := by simp
    have HL := Lib.hid hl
    rw [← hl]
    clear hl
    go_enter Tryz.func77, Tryz.ntmps77
    go_wp2_with fail
    go_loopw [17] (fun i wr => ∃ k : Nat, k ≤ l.length ∧ i = .int .i64 k ∧ Hid (Below w.heap.size w wr) ∧ Hid (l.take k = m.take k)) (fun i _ => l.length - (intOf i).toNat)
    case atStart => exact ⟨0, by omega, rfl, Below.refl _ _, rfl⟩
    case round =>
      obtain ⟨k, hk, rfl, HW, HT⟩ := hrel
      by_cases hlt : k < l.length
      · obtain rfl := A.out (by omega)
        obtain rfl := A2.out (by have := HL.out; omega)
        obtain ⟨x, hx⟩ : ∃ x, l[k]? = some x := ⟨_, List.getElem?_eq_getElem hlt⟩
        obtain ⟨y, hy⟩ : ∃ x, m[k]? = some x := ⟨_, List.getElem?_eq_getElem (by have := HL.out; omega)⟩
        obtain ⟨c1, hr1, hc1⟩ := HIt.out k x hx
        obtain ⟨c2, hr2, hc2⟩ := HIt2.out k y hy
        have HX := Lib.hid hx
        have HY := Lib.hid hy
        have HR1 := Lib.hid hr1
        have HR2 := Lib.hid hr2
        obtain ⟨xac, xda, rfl, hxac, hxda⟩ := hr1
        obtain ⟨yac, yda, rfl, hyac, hyda⟩ := hr2
        obtain ⟨xacA, xacC, xacB, xacO, rfl, -⟩ := rows_open hxac
        obtain ⟨xdaA, xdaC, xdaB, xdaO, rfl, -⟩ := hxda.open
        obtain ⟨yacA, yacC, yacB, yacO, rfl, -⟩ := rows_open hyac
        obtain ⟨ydaA, ydaC, ydaB, ydaO, rfl, -⟩ := hyda.open
        have e3 : decide ((k : Int) < (l.length : Int)) = true := decide_eq_true (by omega)
        have hlt2 : k < m.length := by have := HL.out; omega
        have hbw := HW.out
        have x0 : w.cell? ⟨b, off + k * 5, none⟩ = some (.int .i64 x.1) := hc1 0 _ rfl
        have x1 : w.cell? ⟨b, off + k * 5 + 1, none⟩ = some (.int .u64 x.2.1) := hc1 1 _ rfl
        have x2 : w.cell? ⟨b, off + k * 5 + 2, none⟩ = some (.int .u64 x.2.2.1) := hc1 2 _ rfl
        have x3 : w.cell? ⟨b, off + k * 5 + 3, none⟩ = some (.slice xacA x.2.2.2.1.length xacC) := hc1 3 _ rfl
        have x4 : w.cell? ⟨b, off + k * 5 + 4, none⟩ = some (.slice xdaA x.2.2.2.2.length xdaC) := hc1 4 _ rfl
        have y0 : w.cell? ⟨b2, off2 + k * 5, none⟩ = some (.int .i64 y.1) := hc2 0 _ rfl
        have y1 : w.cell? ⟨b2, off2 + k * 5 + 1, none⟩ = some (.int .u64 y.2.1) := hc2 1 _ rfl
        have y2 : w.cell? ⟨b2, off2 + k * 5 + 2, none⟩ = some (.int .u64 y.2.2.1) := hc2 2 _ rfl
        have y3 : w.cell? ⟨b2, off2 + k * 5 + 3, none⟩ = some (.slice yacA y.2.2.2.1.length yacC) := hc2 3 _ rfl
        have y4 : w.cell? ⟨b2, off2 + k * 5 + 4, none⟩ = some (.slice ydaA y.2.2.2.2.length ydaC) := hc2 4 _ rfl
        have x0 := (hbw.cell (World.block_lt_of_cell? _ _ x0)).trans x0
        have x1 := (hbw.cell (World.block_lt_of_cell? _ _ x1)).trans x1
        have x2 := (hbw.cell (World.block_lt_of_cell? _ _ x2)).trans x2
        have x3 := (hbw.cell (World.block_lt_of_cell? _ _ x3)).trans x3
        have x4 := (hbw.cell (World.block_lt_of_cell? _ _ x4)).trans x4
        have HB1 := below_alloc2 (w := wr) (.cells #[.int .i64 x.1, .int .u64 x.2.1, .int .u64 x.2.2.1, .slice xacA x.2.2.2.1.length xacC, .slice xdaA x.2.2.2.2.length xdaC] 87)
        have HB2 := HB1.trans ((below_alloc2 (w := wr.alloc (.cells #[.int .i64 x.1, .int .u64 x.2.1, .int .u64 x.2.2.1, .slice xacA x.2.2.2.1.length xacC, .slice xdaA x.2.2.2.2.length xdaC] 87)) (.cells #[.int .i64 y.1, .int .u64 y.2.1, .int .u64 y.2.2.1, .slice yacA y.2.2.2.1.length yacC, .slice ydaA y.2.2.2.2.length ydaC] 87)).mono (by simp))
        have hbw1 := hbw.trans (HB1.mono hbw.size)
        have y0 := (hbw1.cell (World.block_lt_of_cell? _ _ y0)).trans y0
        have y1 := (hbw1.cell (World.block_lt_of_cell? _ _ y1)).trans y1
        have y2 := (hbw1.cell (World.block_lt_of_cell? _ _ y2)).trans y2
        have y3 := (hbw1.cell (World.block_lt_of_cell? _ _ y3)).trans y3
        have y4 := (hbw1.cell (World.block_lt_of_cell? _ _ y4)).trans y4
        have HBw2 := Lib.hid (hbw.trans (HB2.mono hbw.size))
        have HEq := Lib.hid (cmp_Ins (InsR.lasts _ _ _ _ HBw2.out HR1.out) (InsR.lasts _ _ _ _ HBw2.out HR2.out))
        clear HB1 HB2 hbw1
        unfold GotEq at HEq
        clear hbw hx hy hc1 hc2 HR1 HR2 hxac hxda hyac hyda
        by_cases hpq : x = y
        · have HY : Hid (m[k]? = some x) := Lib.hid (HY.out.trans (by rw [hpq]))
          rw [decide_eq_true hpq] at HEq
          clear hpq
          go_wp2_with fail
          refine HEq.out.mono ?_
          rintro e w3 ⟨rfl, hb⟩
          have HB3 := Lib.hid (HBw2.out.trans (hb.mono HBw2.out.size))
          clear hb
          go_wp2_with fail
          go_roundw
          case rel => exact ⟨k + 1, by omega, by go_num, HB3.out, take_both HX.out HY.out HT.out⟩
          case measure => simp [intOf]; omega
        · have HNE : Hid (decide (l = m) = false) := decide_eq_false (get_ne HX.out HY.out hpq)
          rw [decide_eq_false hpq] at HEq
          clear hpq
          go_wp2_with fail
          refine HEq.out.mono ?_
          rintro e w3 ⟨rfl, hb⟩
          have HB3 := Lib.hid (HBw2.out.trans (hb.mono HBw2.out.size))
          clear hb
          go_wp2_with fail
          go_ret
          exact ⟨by rw [HNE.out]; rfl, HB3.out⟩
      · obtain rfl : k = l.length := by omega
        have HE : Hid (decide (l = m) = true) := by
          have := HT.out
          rw [List.take_length, HL.out, List.take_length] at this
          exact decide_eq_true this
        go_wp2_with fail
        go_ret
        exact ⟨by rw [HE.out]; rfl, HW.out⟩
  · have HNE : Hid (decide (l = m) = false) := decide_eq_false (fun e => hl (by rw [e]))
    have hb : ((l.length : Int) != (m.length : Int)) = true := by simp; omega
    clear hl
    go_enter Tryz.func77, Tryz.ntmps77
    go_wp2_with fail
    go_ret
    exact ⟨by rw [HNE.out]; rfl, Below.refl _ _⟩

theorem same_Ins {v1 v2 : Value} {l m : List InsV} {w : World} (h1 : RowsOf InsR 5 w v1 l) (h2 : RowsOf InsR 5 w v2 m) : Calls Tryz.prog 32 #[v1, v2] w (GotEq (decide (l = m)) w) := by
  have HE := Lib.hid (eqf_Ins h1 h2)
  obtain ⟨a, cap, b, off, rfl, -⟩ := rows_open h1
  obtain ⟨a2, cap2, b2, off2, rfl, -⟩ := rows_open h2
  unfold GotEq at HE ⊢
  clear h1 h2
  go_enter Tryz.func32, Tryz.ntmps32
  go_wp2_with fail
  refine HE.out.mono ?_
  rintro e w3 ⟨rfl, hb⟩
  have HB := Lib.hid hb
  clear hb
  go_wp2_with fail
  go_ret
  exact ⟨rfl, HB.out⟩

theorem cmp_Bucket {p q : BucketV} {c d : List Value} {w : World} (h1 : BucketR w p c) (h2 : BucketR w q d) : Calls Tryz.prog 80 #[.agg c.toArray, .agg d.toArray] w (GotEq (decide (p = q)) w) := by
  unfold GotEq
  have H1 := Lib.hid h1
  have H2 := Lib.hid h2
  obtain ⟨pwe, ppo, pgr, pac⟩ := p
  obtain ⟨qwe, qpo, qgr, qac⟩ := q
  obtain ⟨xac, rfl, hxac⟩ := h1
  obtain ⟨yac, rfl, hyac⟩ := h2
  dsimp only at *
  obtain ⟨xacA, xacC, xacB, xacO, rfl, -⟩ := rows_open hxac
  obtain ⟨yacA, yacC, yacB, yacO, rfl, -⟩ := rows_open hyac
  have hb0 := below_alloc2 (w := w) (.cells #[.int .u64 pwe, .int .u64 ppo, .int .u64 pgr, .slice xacA pac.length xacC] 89)
  have hb1 := below_alloc2 (w := w.alloc (.cells #[.int .u64 pwe, .int .u64 ppo, .int .u64 pgr, .slice xacA pac.length xacC] 89)) (.cells #[.int .u64 qwe, .int .u64 qpo, .int .u64 qgr, .slice yacA qac.length yacC] 89)
  have HB0 := Lib.hid (hb0.trans (hb1.mono (by simp)))
  have HP0 := Lib.hid (row_below hb1 (heap_alloc_new w (.cells #[.int .u64 pwe, .int .u64 ppo, .int .u64 pgr, .slice xacA pac.length xacC] 89)))
  have HQ0 := heap_alloc_new (w.alloc (.cells #[.int .u64 pwe, .int .u64 ppo, .int .u64 pgr, .slice xacA pac.length xacC] 89)) (.cells #[.int .u64 qwe, .int .u64 qpo, .int .u64 qgr, .slice yacA qac.length yacC] 89)
  rw [World.size_alloc] at HQ0
  have HQ0 := Lib.hid HQ0
  have HC3 := Lib.hid (fun (W : World) (hb : Below w.heap.size w W) => same_Act (hxac.below ActR.lasts hb) (hyac.below ActR.lasts hb))
  clear H1 H2 hb0 hb1 hxac hyac
  by_cases h0 : pwe = qwe
  · subst h0
    have e0 : (pwe == pwe) = true := by simp
    have f0 : (pwe != pwe) = false := by simp
    by_cases h1 : ppo = qpo
    · subst h1
      have e1 : (ppo == ppo) = true := by simp
      have f1 : (ppo != ppo) = false := by simp
      by_cases h2 : pgr = qgr
      · subst h2
        have e2 : (pgr == pgr) = true := by simp
        have f2 : (pgr != pgr) = false := by simp
        by_cases h3 : pac = qac
        · subst h3
          rw [decide_eq_true (Eq.refl _)] at HC3
          have HEQ : Hid (decide (((pwe, ppo, pgr, pac) : BucketV) = (pwe, ppo, pgr, pac)) = true) := decide_eq_true rfl
          go_enter Tryz.func80, Tryz.ntmps80
          go_wp2_with fail
          refine (HC3.out _ HB0.out).mono ?_
          rintro e w1 ⟨rfl, hb⟩
          have HB1 := Lib.hid (HB0.out.trans (hb.mono HB0.out.size))
          have HP1 := Lib.hid (row_below hb HP0.out)
          have HQ1 := Lib.hid (row_below hb HQ0.out)
          have c0 := cell_row HP1.out 0
          have d0 := cell_row HQ1.out 0
          have c1 := cell_row HP1.out 1
          have d1 := cell_row HQ1.out 1
          have c2 := cell_row HP1.out 2
          have d2 := cell_row HQ1.out 2
          have c3 := cell_row HP1.out 3
          have d3 := cell_row HQ1.out 3
          clear hb
          go_wp2_with fail
          go_ret
          exact ⟨by first | (rw [HEQ.out]; rfl) | simp, HB1.out⟩
        · have HNE : Hid (decide (((pwe, ppo, pgr, pac) : BucketV) = (pwe, ppo, pgr, qac)) = false) := decide_eq_false (fun e => h3 (congrArg (fun z : BucketV => z.2.2.2) e))
          rw [decide_eq_false h3] at HC3
          clear h3
          go_enter Tryz.func80, Tryz.ntmps80
          go_wp2_with fail
          refine (HC3.out _ HB0.out).mono ?_
          rintro e w1 ⟨rfl, hb⟩
          have HB1 := Lib.hid (HB0.out.trans (hb.mono HB0.out.size))
          have HP1 := Lib.hid (row_below hb HP0.out)
          have HQ1 := Lib.hid (row_below hb HQ0.out)
          have c0 := cell_row HP1.out 0
          have d0 := cell_row HQ1.out 0
          have c1 := cell_row HP1.out 1
          have d1 := cell_row HQ1.out 1
          have c2 := cell_row HP1.out 2
          have d2 := cell_row HQ1.out 2
          have c3 := cell_row HP1.out 3
          have d3 := cell_row HQ1.out 3
          clear hb
          go_wp2_with fail
          go_ret
          exact ⟨by rw [HNE.out]; rfl, HB1.out⟩
      · have HNE : Hid (decide (((pwe, ppo, pgr, pac) : BucketV) = (pwe, ppo, qgr, qac)) = false) := decide_eq_false (fun e => h2 (congrArg (fun z : BucketV => z.2.2.1) e))
        have e2 : (pgr == qgr) = false := by simpa using h2
        have f2 : (pgr != qgr) = true := by simpa using h2
        clear h2
        go_enter Tryz.func80, Tryz.ntmps80
        go_wp2_with fail
        go_ret
        exact ⟨by rw [HNE.out]; rfl, HB0.out⟩
    · have HNE : Hid (decide (((pwe, ppo, pgr, pac) : BucketV) = (pwe, qpo, qgr, qac)) = false) := decide_eq_false (fun e => h1 (congrArg (fun z : BucketV => z.2.1) e))
      have e1 : (ppo == qpo) = false := by simpa using h1
      have f1 : (ppo != qpo) = true := by simpa using h1
      clear h1
      go_enter Tryz.func80, Tryz.ntmps80
      go_wp2_with fail
      go_ret
      exact ⟨by rw [HNE.out]; rfl, HB0.out⟩
  · have HNE : Hid (decide (((pwe, ppo, pgr, pac) : BucketV) = (qwe, qpo, qgr, qac)) = false) := decide_eq_false (fun e => h0 (congrArg (fun z : BucketV => z.1) e))
    have e0 : (pwe == qwe) = false := by simpa using h0
    have f0 : (pwe != qwe) = true := by simpa using h0
    clear h0
    go_enter Tryz.func80, Tryz.ntmps80
    go_wp2_with fail
    go_ret
    exact ⟨by rw [HNE.out]; rfl, HB0.out⟩

theorem eqf_Bucket {v1 v2 : Value} {l m : List BucketV} {w : World} (h1 : RowsOf BucketR 4 w v1 l) (h2 : RowsOf BucketR 4 w v2 m) :
    Calls Tryz.prog 79 #[v1, v2, .func (.func 80) #[] #[]] w (GotEq (decide (l = m)) w) := by
  unfold GotEq
  obtain ⟨a, cap, b, off, rfl, hmx, ha, hit⟩ := rows_open h1
  obtain ⟨a2, cap2, b2, off2, rfl, hmx2, ha2, hit2⟩ := rows_open h2
  unfold maxLen at hmx hmx2
  have A := Lib.hid ha
  have A2 := Lib.hid ha2
  have HIt := Lib.hid hit
  have HIt2 := Lib.hid hit2
  clear h1 h2 ha ha2 hit hit2
  by_cases hl : l.length = m.length
  · have e1 : ((l.length : Int) != (l.length : Int)) = false := by simp
    have HL := Lib.hid hl
    rw [← hl]
    clear hl
    go_enter Tryz.func79, Tryz.ntmps79
    go_wp2_with fail
    go_loopw [17] (fun i wr => ∃ k : Nat, k ≤ l.length ∧ i = .int .i64 k ∧ Hid (Below w.heap.size w wr) ∧ Hid (l.take k = m.take k)) (fun i _ => l.length - (intOf i).toNat)
    case atStart => exact ⟨0, by omega, rfl, Below.refl _ _, rfl⟩
    case round =>
      obtain ⟨k, hk, rfl, HW, HT⟩ := hrel
      by_cases hlt : k < l.length
      · obtain rfl := A.out (by omega)
        obtain rfl := A2.out (by have := HL.out; omega)
        obtain ⟨x, hx⟩ : ∃ x, l[k]? = some x := ⟨_, List.getElem?_eq_getElem hlt⟩
        obtain ⟨y, hy⟩ : ∃ x, m[k]? = some x := ⟨_, List.getElem?_eq_getElem (by have := HL.out; omega)⟩
        obtain ⟨c1, hr1, hc1⟩ := HIt.out k x hx
        obtain ⟨c2, hr2, hc2⟩ := HIt2.out k y hy
        have HX := Lib.hid hx
        have HY := Lib.hid hy
        have HR1 := Lib.hid hr1
        have HR2 := Lib.hid hr2
        obtain ⟨xac, rfl, hxac⟩ := hr1
        obtain ⟨yac, rfl, hyac⟩ := hr2
        obtain ⟨xacA, xacC, xacB, xacO, rfl, -⟩ := rows_open hxac
        obtain ⟨yacA, yacC, yacB, yacO, rfl, -⟩ := rows_open hyac
        have e3 : decide ((k : Int) < (l.length : Int)) = true := decide_eq_true (by omega)
        have hlt2 : k < m.length := by have := HL.out; omega
        have hbw := HW.out
        have x0 : w.cell? ⟨b, off + k * 4, none⟩ = some (.int .u64 x.1) := hc1 0 _ rfl
        have x1 : w.cell? ⟨b, off + k * 4 + 1, none⟩ = some (.int .u64 x.2.1) := hc1 1 _ rfl
        have x2 : w.cell? ⟨b, off + k * 4 + 2, none⟩ = some (.int .u64 x.2.2.1) := hc1 2 _ rfl
        have x3 : w.cell? ⟨b, off + k * 4 + 3, none⟩ = some (.slice xacA x.2.2.2.length xacC) := hc1 3 _ rfl
        have y0 : w.cell? ⟨b2, off2 + k * 4, none⟩ = some (.int .u64 y.1) := hc2 0 _ rfl
        have y1 : w.cell? ⟨b2, off2 + k * 4 + 1, none⟩ = some (.int .u64 y.2.1) := hc2 1 _ rfl
        have y2 : w.cell? ⟨b2, off2 + k * 4 + 2, none⟩ = some (.int .u64 y.2.2.1) := hc2 2 _ rfl
        have y3 : w.cell? ⟨b2, off2 + k * 4 + 3, none⟩ = some (.slice yacA y.2.2.2.length yacC) := hc2 3 _ rfl
        have x0 := (hbw.cell (World.block_lt_of_cell? _ _ x0)).trans x0
        have x1 := (hbw.cell (World.block_lt_of_cell? _ _ x1)).trans x1
        have x2 := (hbw.cell (World.block_lt_of_cell? _ _ x2)).trans x2
        have x3 := (hbw.cell (World.block_lt_of_cell? _ _ x3)).trans x3
        have HB1 := below_alloc2 (w := wr) (.cells #[.int .u64 x.1, .int .u64 x.2.1, .int .u64 x.2.2.1, .slice xacA x.2.2.2.length xacC] 89)
        have HB2 := HB1.trans ((below_alloc2 (w := wr.alloc (.cells #[.int .u64 x.1, .int .u64 x.2.1, .int .u64 x.2.2.1, .slice xacA x.2.2.2.length xacC] 89)) (.cells #[.int .u64 y.1, .int .u64 y.2.1, .int .u64 y.2.2.1, .slice yacA y.2.2.2.length yacC] 89)).mono (by simp))
        have hbw1 := hbw.trans (HB1.mono hbw.size)
        have y0 := (hbw1.cell (World.block_lt_of_cell? _ _ y0)).trans y0
        have y1 := (hbw1.cell (World.block_lt_of_cell? _ _ y1)).trans y1
        have y2 := (hbw1.cell (World.block_lt_of_cell? _ _ y2)).trans y2
        have y3 := (hbw1.cell (World.block_lt_of_cell? _ _ y3)).trans y3
        have HBw2 := Lib.hid (hbw.trans (HB2.mono hbw.size))
        have HEq := Lib.hid (cmp_Bucket (BucketR.lasts _ _ _ _ HBw2.out HR1.out) (BucketR.lasts _ _ _ _ HBw2.out HR2.out))
        clear HB1 HB2 hbw1
        unfold GotEq at HEq
        clear hbw hx hy hc1 hc2 HR1 HR2 hxac hyac
        by_cases hpq : x = y
        · have HY : Hid (m[k]? = some x) := Lib.hid (HY.out.trans (by rw [hpq]))
          rw [decide_eq_true hpq] at HEq
          clear hpq
          go_wp2_with fail
          refine HEq.out.mono ?_
          rintro e w3 ⟨rfl, hb⟩
          have HB3 := Lib.hid (HBw2.out.trans (hb.mono HBw2.out.size))
          clear hb
          go_wp2_with fail
          go_roundw
          case rel => exact ⟨k + 1, by omega, by go_num, HB3.out, take_both HX.out HY.out HT.out⟩
          case measure => simp [intOf]; omega
        · have HNE : Hid (decide (l = m) = false) := decide_eq_false (get_ne HX.out HY.out hpq)
          rw [decide_eq_false hpq] at HEq
          clear hpq
          go_wp2_with fail
          refine HEq.out.mono ?_
          rintro e w3 ⟨rfl, hb⟩
          have HB3 := Lib.hid (HBw2.out.trans (hb.mono HBw2.out.size))
          clear hb
          go_wp2_with fail
          go_ret
          exact ⟨by rw [HNE.out]; rfl, HB3.out⟩
      · obtain rfl : k = l.length := by omega
        have HE : Hid (decide (l = m) = true) := by
          have := HT.out
          rw [List.take_length, HL.out, List.take_length] at this
          exact decide_eq_true this
        go_wp2_with fail
        go_ret
        exact ⟨by rw [HE.out]; rfl, HW.out⟩
  · have HNE : Hid (decide (l = m) = false) := decide_eq_false (fun e => hl (by rw [e]))
    have hb : ((l.length : Int) != (m.length : Int)) = true := by simp; omega
    clear hl
    go_enter Tryz.func79, Tryz.ntmps79
    go_wp2_with fail
    go_ret
    exact ⟨by rw [HNE.out]; rfl, Below.refl _ _⟩

theorem same_Bucket {v1 v2 : Value} {l m : List BucketV} {w : World} (h1 : RowsOf BucketR 4 w v1 l) (h2 : RowsOf BucketR 4 w v2 m) : Calls Tryz.prog 33 #[v1, v2] w (GotEq (decide (l = m)) w) := by
  have HE := Lib.hid (eqf_Bucket h1 h2)
  obtain ⟨a, cap, b, off, rfl, -⟩ := rows_open h1
  obtain ⟨a2, cap2, b2, off2, rfl, -⟩ := rows_open h2
  unfold GotEq at HE ⊢
  clear h1 h2
  go_enter Tryz.func33, Tryz.ntmps33
  go_wp2_with fail
  refine HE.out.mono ?_
  rintro e w3 ⟨rfl, hb⟩
  have HB := Lib.hid hb
  clear hb
  go_wp2_with fail
  go_ret
  exact ⟨rfl, HB.out⟩
end Go.Proofs.YtcebcncpbedkmaaGreat
