/- Whether two messages are the same: the walk of the program's Same. Conditions: none. -/
import Derived.Test.YtcebcncpbedkmaaGreatZSamG
namespace Go.Proofs.YtcebcncpbedkmaaGreat
open Go Go.RowKit
set_option maxRecDepth 100000
set_option maxHeartbeats 8000000

abbrev ElemV := Elt
abbrev ElemR := ItemR
theorem ElemR.lasts : Lasts ElemR := ItemR.lasts

theorem cmp_Elem {p q : ElemV} {c d : List Value} {w : World} (h1 : ElemR w p c) (h2 : ElemR w q d) : Calls Tryz.prog 27 #[.agg c.toArray, .agg d.toArray] w (GotEq (decide (p = q)) w) := by
  unfold GotEq
  have H1 := Lib.hid h1
  have H2 := Lib.hid h2
  obtain ⟨pty, pda⟩ := p
  obtain ⟨qty, qda⟩ := q
  obtain ⟨xda, rfl, ⟨hxda, -⟩⟩ := h1
  obtain ⟨yda, rfl, ⟨hyda, -⟩⟩ := h2
  dsimp only at *
  obtain ⟨xdaA, xdaC, xdaB, xdaO, rfl, -⟩ := hxda.open
  obtain ⟨ydaA, ydaC, ydaB, ydaO, rfl, -⟩ := hyda.open
  have hb0 := below_alloc2 (w := w) (.cells #[.int .i64 pty, .slice xdaA pda.length xdaC] 40)
  have hb1 := below_alloc2 (w := w.alloc (.cells #[.int .i64 pty, .slice xdaA pda.length xdaC] 40)) (.cells #[.int .i64 qty, .slice ydaA qda.length ydaC] 40)
  have HB0 := Lib.hid (hb0.trans (hb1.mono (by simp)))
  have HP0 := Lib.hid (row_below hb1 (heap_alloc_new w (.cells #[.int .i64 pty, .slice xdaA pda.length xdaC] 40)))
  have HQ0 := heap_alloc_new (w.alloc (.cells #[.int .i64 pty, .slice xdaA pda.length xdaC] 40)) (.cells #[.int .i64 qty, .slice ydaA qda.length ydaC] 40)
  rw [World.size_alloc] at HQ0
  have HQ0 := Lib.hid HQ0
  have HC1 := Lib.hid (fun (W : World) (hb : Below w.heap.size w W) => bytes_eq (hxda.below hb) (hyda.below hb))
  clear H1 H2 hb0 hb1 hxda hyda
  by_cases h0 : pty = qty
  · subst h0
    have e0 : (pty == pty) = true := by simp
    have f0 : (pty != pty) = false := by simp
    by_cases h1 : pda = qda
    · subst h1
      rw [decide_eq_true (Eq.refl _)] at HC1
      have HEQ : Hid (decide (((pty, pda) : ElemV) = (pty, pda)) = true) := decide_eq_true rfl
      go_enter Tryz.func27, Tryz.ntmps27
      go_wp2_with fail
      refine (HC1.out _ HB0.out).mono ?_
      rintro e w1 ⟨rfl, hb⟩
      have HB1 := Lib.hid (HB0.out.trans (hb.mono HB0.out.size))
      have HP1 := Lib.hid (row_below hb HP0.out)
      have HQ1 := Lib.hid (row_below hb HQ0.out)
      have c0 := cell_row HP1.out 0
      have d0 := cell_row HQ1.out 0
      have c1 := cell_row HP1.out 1
      have d1 := cell_row HQ1.out 1
      clear hb
      go_wp2_with fail
      go_ret
      exact ⟨by first | (rw [HEQ.out]; rfl) | simp, HB1.out⟩
    · have HNE : Hid (decide (((pty, pda) : ElemV) = (pty, qda)) = false) := decide_eq_false (fun e => h1 (congrArg (fun z : ElemV => z.2) e))
      rw [decide_eq_false h1] at HC1
      clear h1
      go_enter Tryz.func27, Tryz.ntmps27
      go_wp2_with fail
      refine (HC1.out _ HB0.out).mono ?_
      rintro e w1 ⟨rfl, hb⟩
      have HB1 := Lib.hid (HB0.out.trans (hb.mono HB0.out.size))
      have HP1 := Lib.hid (row_below hb HP0.out)
      have HQ1 := Lib.hid (row_below hb HQ0.out)
      have c0 := cell_row HP1.out 0
      have d0 := cell_row HQ1.out 0
      have c1 := cell_row HP1.out 1
      have d1 := cell_row HQ1.out 1
      clear hb
      go_wp2_with fail
      go_ret
      exact ⟨by rw [HNE.out]; rfl, HB1.out⟩
  · have HNE : Hid (decide (((pty, pda) : ElemV) = (qty, qda)) = false) := decide_eq_false (fun e => h0 (congrArg (fun z : ElemV => z.1) e))
    have e0 : (pty == qty) = false := by simpa using h0
    have f0 : (pty != qty) = true := by simpa using h0
    clear h0
    go_enter Tryz.func27, Tryz.ntmps27
    go_wp2_with fail
    go_ret
    exact ⟨by rw [HNE.out]; rfl, HB0.out⟩

theorem eqf_Elem {v1 v2 : Value} {l m : List Elt} {w : World} (h1 : RowsOf ItemR 2 w v1 l) (h2 : RowsOf ItemR 2 w v2 m) :
    Calls Tryz.prog 26 #[v1, v2, .func (.func 27) #[] #[]] w (GotEq (decide (l = m)) w) := by
  unfold GotEq
  obtain ⟨a, cap, b, off, rfl, hmx, ha, hit⟩ := rows_open h1
  obtain ⟨a2, cap2, b2, off2, rfl, hmx2, ha2, hit2⟩ := rows_open h2
  unfold maxLen at hmx hmx2
  have A := Lib.hid ha
  have A2 := Lib.hid ha2
  have HIt := Lib.hid hit
  have HIt2 := Lib.hid hit2
  clear h1 h2 ha ha2 hit hit2
  by_cases hl : l.length = m.length
  · have e1 : ((l.length : Int) != (l.length : Int)) = false := by simp
    have HL := Lib.hid hl
    rw [← hl]
    clear hl
    go_enter Tryz.func26, Tryz.ntmps26
    go_wp2_with fail
    go_loopw [17] (fun i wr => ∃ k : Nat, k ≤ l.length ∧ i = .int .i64 k ∧ Hid (Below w.heap.size w wr) ∧ Hid (l.take k = m.take k)) (fun i _ => l.length - (intOf i).toNat)
    case atStart => exact ⟨0, by omega, rfl, Below.refl _ _, rfl⟩
    case round =>
      obtain ⟨k, hk, rfl, HW, HT⟩ := hrel
      by_cases hlt : k < l.length
      · obtain rfl := A.out (by omega)
        obtain rfl := A2.out (by have := HL.out; omega)
        obtain ⟨x, hx⟩ : ∃ x, l[k]? = some x := ⟨_, List.getElem?_eq_getElem hlt⟩
        obtain ⟨y, hy⟩ : ∃ x, m[k]? = some x := ⟨_, List.getElem?_eq_getElem (by have := HL.out; omega)⟩
        obtain ⟨c1, hr1, hc1⟩ := HIt.out k x hx
        obtain ⟨c2, hr2, hc2⟩ := HIt2.out k y hy
        have HX := Lib.hid hx
        have HY := Lib.hid hy
        have HR1 := Lib.hid hr1
        have HR2 := Lib.hid hr2
        obtain ⟨xda, rfl, hxda, -⟩ := hr1
        obtain ⟨yda, rfl, hyda, -⟩ := hr2
        obtain ⟨xdaA, xdaC, xdaB, xdaO, rfl, -⟩ := hxda.open
        obtain ⟨ydaA, ydaC, ydaB, ydaO, rfl, -⟩ := hyda.open
        have e3 : decide ((k : Int) < (l.length : Int)) = true := decide_eq_true (by omega)
        have hlt2 : k < m.length := by have := HL.out; omega
        have hbw := HW.out
        have x0 : w.cell? ⟨b, off + k * 2, none⟩ = some (.int .i64 x.1) := hc1 0 _ rfl
        have x1 : w.cell? ⟨b, off + k * 2 + 1, none⟩ = some (.slice xdaA x.2.length xdaC) := hc1 1 _ rfl
        have y0 : w.cell? ⟨b2, off2 + k * 2, none⟩ = some (.int .i64 y.1) := hc2 0 _ rfl
        have y1 : w.cell? ⟨b2, off2 + k * 2 + 1, none⟩ = some (.slice ydaA y.2.length ydaC) := hc2 1 _ rfl
        have x0 := (hbw.cell (World.block_lt_of_cell? _ _ x0)).trans x0
        have x1 := (hbw.cell (World.block_lt_of_cell? _ _ x1)).trans x1
        have HB1 := below_alloc2 (w := wr) (.cells #[.int .i64 x.1, .slice xdaA x.2.length xdaC] 40)
        have HB2 := HB1.trans ((below_alloc2 (w := wr.alloc (.cells #[.int .i64 x.1, .slice xdaA x.2.length xdaC] 40)) (.cells #[.int .i64 y.1, .slice ydaA y.2.length ydaC] 40)).mono (by simp))
        have hbw1 := hbw.trans (HB1.mono hbw.size)
        have y0 := (hbw1.cell (World.block_lt_of_cell? _ _ y0)).trans y0
        have y1 := (hbw1.cell (World.block_lt_of_cell? _ _ y1)).trans y1
        have HBw2 := Lib.hid (hbw.trans (HB2.mono hbw.size))
        have HEq := Lib.hid (cmp_Elem (ItemR.lasts _ _ _ _ HBw2.out HR1.out) (ItemR.lasts _ _ _ _ HBw2.out HR2.out))
        clear HB1 HB2 hbw1
        unfold GotEq at HEq
        clear hbw hx hy hc1 hc2 HR1 HR2 hxda hyda
        by_cases hpq : x = y
        · have HY : Hid (m[k]? = some x) := Lib.hid (HY.out.trans (by rw [hpq]))
          rw [decide_eq_true hpq] at HEq
          clear hpq
          go_wp2_with fail
          refine HEq.out.mono ?_
          rintro e w3 ⟨rfl, hb⟩
          have HB3 := Lib.hid (HBw2.out.trans (hb.mono HBw2.out.size))
          clear hb
          go_wp2_with fail
          go_roundw
          case rel => exact ⟨k + 1, by omega, by go_num, HB3.out, take_both HX.out HY.out HT.out⟩
          case measure => simp [intOf]; omega
        · have HNE : Hid (decide (l = m) = false) := decide_eq_false (get_ne HX.out HY.out hpq)
          rw [decide_eq_false hpq] at HEq
          clear hpq
          go_wp2_with fail
          refine HEq.out.mono ?_
          rintro e w3 ⟨rfl, hb⟩
          have HB3 := Lib.hid (HBw2.out.trans (hb.mono HBw2.out.size))
          clear hb
          go_wp2_with fail
          go_ret
          exact ⟨by rw [HNE.out]; rfl, HB3.out⟩
      · obtain rfl : k = l.length := by omega
        have HE : Hid (decide (l = m) = true) := by
          have := HT.out
          rw [List.take_length, HL.out, List.take_length] at this
          exact decide_eq_true this
        go_wp2_with fail
        go_ret
        exact ⟨by rw [HE.out]; rfl, HW.out⟩
  · have HNE : Hid (decide (l = m) = false) := decide_eq_false (fun e => hl (by rw [e]))
    have hb : ((l.length : Int) != (m.length : Int)) = true := by simp; omega
    clear hl
    go_enter Tryz.func26, Tryz.ntmps26
    go_wp2_with fail
    go_ret
    exact ⟨by rw [HNE.out]; rfl, Below.refl _ _⟩

/-- Whether two messages are the same. -/
def sameM (m n : MsgV) (r s : RestV) : Bool := decide (m.ty = n.ty) && decide (m.xid = n.xid) && decide (m.L.kind = n.L.kind) && decide (m.L.flags = n.L.flags) && decide (m.nums = n.nums) && decide (m.ds = n.ds) && decide (m.els = n.els) && decide (r.parts = s.parts) && decide (r.oxms = s.oxms) && decide (r.acts = s.acts) && decide (r.inss = s.inss) && decide (r.bucks = s.bucks) && decide (r.bands = s.bands) && decide (r.ques = s.ques) && decide (r.ports = s.ports)
theorem sameM_self (m : MsgV) (r : RestV) : sameM m m r r = true := by simp [sameM]

theorem go_same {v v2 : Value} {m n : MsgV} {r s : RestV} {w : World} (h1 : MsgOk w v m) (g1 : RestR w m.L r) (h2 : MsgOk w v2 n) (g2 : RestR w n.L s) : Calls Tryz.prog 6 #[v, v2] w (GotEq (sameM m n r s) w) := by
  unfold GotEq
  obtain ⟨an, cn, ad, cd, rfl, hn1, hd1⟩ := h1.cut
  obtain ⟨an2, cn2, ad2, cd2, rfl, hn2, hd2⟩ := h2.cut
  have hb0 := below_alloc2 (w := w) (.cells (msgL m.ty m.xid (.slice an m.nums.length cn) (.slice ad m.ds.length cd) m.L) 35)
  have hb1 := below_alloc2 (w := w.alloc (.cells (msgL m.ty m.xid (.slice an m.nums.length cn) (.slice ad m.ds.length cd) m.L) 35)) (.cells (msgL n.ty n.xid (.slice an2 n.nums.length cn2) (.slice ad2 n.ds.length cd2) n.L) 35)
  have HB0 := Lib.hid (hb0.trans (hb1.mono (by simp)))
  have HP0 := Lib.hid (row_below hb1 (heap_alloc_new w (.cells (msgL m.ty m.xid (.slice an m.nums.length cn) (.slice ad m.ds.length cd) m.L) 35)))
  have HQ0 := heap_alloc_new (w.alloc (.cells (msgL m.ty m.xid (.slice an m.nums.length cn) (.slice ad m.ds.length cd) m.L) 35)) (.cells (msgL n.ty n.xid (.slice an2 n.nums.length cn2) (.slice ad2 n.ds.length cd2) n.L) 35)
  rw [World.size_alloc] at HQ0
  have HQ0 := Lib.hid HQ0
  have HC4 := Lib.hid (fun (W : World) (hb : Below w.heap.size w W) => nums_eq (hn1.below hb) (hn2.below hb))
  have HC5 := Lib.hid (fun (W : World) (hb : Below w.heap.size w W) => bytes_eq (hd1.below hb) (hd2.below hb))
  have HC6 := Lib.hid (fun (W : World) (hb : Below w.heap.size w W) => eqf_Elem (h1.elems.below ItemR.lasts hb) (h2.elems.below ItemR.lasts hb))
  have HC7 := Lib.hid (fun (W : World) (hb : Below w.heap.size w W) => eqf_Part (g1.h14.below PartR.lasts hb) (g2.h14.below PartR.lasts hb))
  have HC8 := Lib.hid (fun (W : World) (hb : Below w.heap.size w W) => same_Oxm (g1.h5.below OxmR.lasts hb) (g2.h5.below OxmR.lasts hb))
  have HC9 := Lib.hid (fun (W : World) (hb : Below w.heap.size w W) => same_Act (g1.h6.below ActR.lasts hb) (g2.h6.below ActR.lasts hb))
  have HC10 := Lib.hid (fun (W : World) (hb : Below w.heap.size w W) => same_Ins (g1.h7.below InsR.lasts hb) (g2.h7.below InsR.lasts hb))
  have HC11 := Lib.hid (fun (W : World) (hb : Below w.heap.size w W) => same_Bucket (g1.h8.below BucketR.lasts hb) (g2.h8.below BucketR.lasts hb))
  have HC12 := Lib.hid (fun (W : World) (hb : Below w.heap.size w W) => same_Band (g1.h9.below BandR.lasts hb) (g2.h9.below BandR.lasts hb))
  have HC13 := Lib.hid (fun (W : World) (hb : Below w.heap.size w W) => same_Queue (g1.h10.below QueueR.lasts hb) (g2.h10.below QueueR.lasts hb))
  have HC14 := Lib.hid (fun (W : World) (hb : Below w.heap.size w W) => same_Port (g1.h11.below PortR.lasts hb) (g2.h11.below PortR.lasts hb))
  clear h1 g1 h2 g2 hn1 hn2 hd1 hd2 hb0 hb1
  by_cases h0 : m.ty = n.ty
  · have K0 := Lib.hid h0
    have e0 : (m.ty == n.ty) = true := by simp [h0]
    have f0 : (m.ty != n.ty) = false := by simp [h0]
    clear h0
    by_cases h1 : m.xid = n.xid
    · have K1 := Lib.hid h1
      have e1 : (m.xid == n.xid) = true := by simp [h1]
      have f1 : (m.xid != n.xid) = false := by simp [h1]
      clear h1
      by_cases h2 : m.L.kind = n.L.kind
      · have K2 := Lib.hid h2
        have e2 : (m.L.kind == n.L.kind) = true := by simp [h2]
        have f2 : (m.L.kind != n.L.kind) = false := by simp [h2]
        clear h2
        by_cases h3 : m.L.flags = n.L.flags
        · have K3 := Lib.hid h3
          have e3 : (m.L.flags == n.L.flags) = true := by simp [h3]
          have f3 : (m.L.flags != n.L.flags) = false := by simp [h3]
          clear h3
          by_cases h4 : m.nums = n.nums
          · have K4 := Lib.hid h4
            rw [decide_eq_true h4] at HC4
            clear h4
            by_cases h5 : m.ds = n.ds
            · have K5 := Lib.hid h5
              rw [decide_eq_true h5] at HC5
              clear h5
              by_cases h6 : m.els = n.els
              · have K6 := Lib.hid h6
                rw [decide_eq_true h6] at HC6
                clear h6
                by_cases h7 : r.parts = s.parts
                · have K7 := Lib.hid h7
                  rw [decide_eq_true h7] at HC7
                  clear h7
                  by_cases h8 : r.oxms = s.oxms
                  · have K8 := Lib.hid h8
                    rw [decide_eq_true h8] at HC8
                    clear h8
                    by_cases h9 : r.acts = s.acts
                    · have K9 := Lib.hid h9
                      rw [decide_eq_true h9] at HC9
                      clear h9
                      by_cases h10 : r.inss = s.inss
                      · have K10 := Lib.hid h10
                        rw [decide_eq_true h10] at HC10
                        clear h10
                        by_cases h11 : r.bucks = s.bucks
                        · have K11 := Lib.hid h11
                          rw [decide_eq_true h11] at HC11
                          clear h11
                          by_cases h12 : r.bands = s.bands
                          · have K12 := Lib.hid h12
                            rw [decide_eq_true h12] at HC12
                            clear h12
                            by_cases h13 : r.ques = s.ques
                            · have K13 := Lib.hid h13
                              rw [decide_eq_true h13] at HC13
                              clear h13
                              by_cases h14 : r.ports = s.ports
                              · have K14 := Lib.hid h14
                                rw [decide_eq_true h14] at HC14
                                clear h14
                                have HEQ : Hid (sameM m n r s = true) := Lib.hid (by simp [sameM, K0.out, K1.out, K2.out, K3.out, K4.out, K5.out, K6.out, K7.out, K8.out, K9.out, K10.out, K11.out, K12.out, K13.out, K14.out])
                                go_enter Tryz.func6, Tryz.ntmps6
                                go_wp2_with fail
                                refine (HC4.out _ HB0.out).mono ?_
                                rintro e w1 ⟨rfl, hb⟩
                                have HB1 := Lib.hid (HB0.out.trans (hb.mono HB0.out.size))
                                have HP1 := Lib.hid (row_below hb HP0.out)
                                have HQ1 := Lib.hid (row_below hb HQ0.out)
                                have c0 := cell_row HP1.out 0
                                have d0 := cell_row HQ1.out 0
                                have c1 := cell_row HP1.out 1
                                have d1 := cell_row HQ1.out 1
                                have c2 := cell_row HP1.out 2
                                have d2 := cell_row HQ1.out 2
                                have c3 := cell_row HP1.out 3
                                have d3 := cell_row HQ1.out 3
                                have c4 := cell_row HP1.out 4
                                have d4 := cell_row HQ1.out 4
                                have c5 := cell_row HP1.out 5
                                have d5 := cell_row HQ1.out 5
                                have c6 := cell_row HP1.out 6
                                have d6 := cell_row HQ1.out 6
                                have c7 := cell_row HP1.out 7
                                have d7 := cell_row HQ1.out 7
                                have c8 := cell_row HP1.out 8
                                have d8 := cell_row HQ1.out 8
                                have c9 := cell_row HP1.out 9
                                have d9 := cell_row HQ1.out 9
                                have c10 := cell_row HP1.out 10
                                have d10 := cell_row HQ1.out 10
                                have c11 := cell_row HP1.out 11
                                have d11 := cell_row HQ1.out 11
                                have c12 := cell_row HP1.out 12
                                have d12 := cell_row HQ1.out 12
                                have c13 := cell_row HP1.out 13
                                have d13 := cell_row HQ1.out 13
                                have c14 := cell_row HP1.out 14
                                have d14 := cell_row HQ1.out 14
                                clear hb
                                go_wp2_with fail
                                refine (HC5.out _ HB1.out).mono ?_
                                rintro e w2 ⟨rfl, hb⟩
                                have HB2 := Lib.hid (HB1.out.trans (hb.mono HB1.out.size))
                                have HP2 := Lib.hid (row_below hb HP1.out)
                                have HQ2 := Lib.hid (row_below hb HQ1.out)
                                clear c0 d0 c1 d1 c2 d2 c3 d3 c4 d4 c5 d5 c6 d6 c7 d7 c8 d8 c9 d9 c10 d10 c11 d11 c12 d12 c13 d13 c14 d14
                                have c0 := cell_row HP2.out 0
                                have d0 := cell_row HQ2.out 0
                                have c1 := cell_row HP2.out 1
                                have d1 := cell_row HQ2.out 1
                                have c2 := cell_row HP2.out 2
                                have d2 := cell_row HQ2.out 2
                                have c3 := cell_row HP2.out 3
                                have d3 := cell_row HQ2.out 3
                                have c4 := cell_row HP2.out 4
                                have d4 := cell_row HQ2.out 4
                                have c5 := cell_row HP2.out 5
                                have d5 := cell_row HQ2.out 5
                                have c6 := cell_row HP2.out 6
                                have d6 := cell_row HQ2.out 6
                                have c7 := cell_row HP2.out 7
                                have d7 := cell_row HQ2.out 7
                                have c8 := cell_row HP2.out 8
                                have d8 := cell_row HQ2.out 8
                                have c9 := cell_row HP2.out 9
                                have d9 := cell_row HQ2.out 9
                                have c10 := cell_row HP2.out 10
                                have d10 := cell_row HQ2.out 10
                                have c11 := cell_row HP2.out 11
                                have d11 := cell_row HQ2.out 11
                                have c12 := cell_row HP2.out 12
                                have d12 := cell_row HQ2.out 12
                                have c13 := cell_row HP2.out 13
                                have d13 := cell_row HQ2.out 13
                                have c14 := cell_row HP2.out 14
                                have d14 := cell_row HQ2.out 14
                                clear hb
                                go_wp2_with fail
                                refine (HC6.out _ HB2.out).mono ?_
                                rintro e w3 ⟨rfl, hb⟩
                                have HB3 := Lib.hid (HB2.out.trans (hb.mono HB2.out.size))
                                have HP3 := Lib.hid (row_below hb HP2.out)
                                have HQ3 := Lib.hid (row_below hb HQ2.out)
                                clear c0 d0 c1 d1 c2 d2 c3 d3 c4 d4 c5 d5 c6 d6 c7 d7 c8 d8 c9 d9 c10 d10 c11 d11 c12 d12 c13 d13 c14 d14
                                have c0 := cell_row HP3.out 0
                                have d0 := cell_row HQ3.out 0
                                have c1 := cell_row HP3.out 1
                                have d1 := cell_row HQ3.out 1
                                have c2 := cell_row HP3.out 2
                                have d2 := cell_row HQ3.out 2
                                have c3 := cell_row HP3.out 3
                                have d3 := cell_row HQ3.out 3
                                have c4 := cell_row HP3.out 4
                                have d4 := cell_row HQ3.out 4
                                have c5 := cell_row HP3.out 5
                                have d5 := cell_row HQ3.out 5
                                have c6 := cell_row HP3.out 6
                                have d6 := cell_row HQ3.out 6
                                have c7 := cell_row HP3.out 7
                                have d7 := cell_row HQ3.out 7
                                have c8 := cell_row HP3.out 8
                                have d8 := cell_row HQ3.out 8
                                have c9 := cell_row HP3.out 9
                                have d9 := cell_row HQ3.out 9
                                have c10 := cell_row HP3.out 10
                                have d10 := cell_row HQ3.out 10
                                have c11 := cell_row HP3.out 11
                                have d11 := cell_row HQ3.out 11
                                have c12 := cell_row HP3.out 12
                                have d12 := cell_row HQ3.out 12
                                have c13 := cell_row HP3.out 13
                                have d13 := cell_row HQ3.out 13
                                have c14 := cell_row HP3.out 14
                                have d14 := cell_row HQ3.out 14
                                clear hb
                                go_wp2_with fail
                                refine (HC7.out _ HB3.out).mono ?_
                                rintro e w4 ⟨rfl, hb⟩
                                have HB4 := Lib.hid (HB3.out.trans (hb.mono HB3.out.size))
                                have HP4 := Lib.hid (row_below hb HP3.out)
                                have HQ4 := Lib.hid (row_below hb HQ3.out)
                                clear c0 d0 c1 d1 c2 d2 c3 d3 c4 d4 c5 d5 c6 d6 c7 d7 c8 d8 c9 d9 c10 d10 c11 d11 c12 d12 c13 d13 c14 d14
                                have c0 := cell_row HP4.out 0
                                have d0 := cell_row HQ4.out 0
                                have c1 := cell_row HP4.out 1
                                have d1 := cell_row HQ4.out 1
                                have c2 := cell_row HP4.out 2
                                have d2 := cell_row HQ4.out 2
                                have c3 := cell_row HP4.out 3
                                have d3 := cell_row HQ4.out 3
                                have c4 := cell_row HP4.out 4
                                have d4 := cell_row HQ4.out 4
                                have c5 := cell_row HP4.out 5
                                have d5 := cell_row HQ4.out 5
                                have c6 := cell_row HP4.out 6
                                have d6 := cell_row HQ4.out 6
                                have c7 := cell_row HP4.out 7
                                have d7 := cell_row HQ4.out 7
                                have c8 := cell_row HP4.out 8
                                have d8 := cell_row HQ4.out 8
                                have c9 := cell_row HP4.out 9
                                have d9 := cell_row HQ4.out 9
                                have c10 := cell_row HP4.out 10
                                have d10 := cell_row HQ4.out 10
                                have c11 := cell_row HP4.out 11
                                have d11 := cell_row HQ4.out 11
                                have c12 := cell_row HP4.out 12
                                have d12 := cell_row HQ4.out 12
                                have c13 := cell_row HP4.out 13
                                have d13 := cell_row HQ4.out 13
                                have c14 := cell_row HP4.out 14
                                have d14 := cell_row HQ4.out 14
                                clear hb
                                go_wp2_with fail
                                refine (HC8.out _ HB4.out).mono ?_
                                rintro e w5 ⟨rfl, hb⟩
                                have HB5 := Lib.hid (HB4.out.trans (hb.mono HB4.out.size))
                                have HP5 := Lib.hid (row_below hb HP4.out)
                                have HQ5 := Lib.hid (row_below hb HQ4.out)
                                clear c0 d0 c1 d1 c2 d2 c3 d3 c4 d4 c5 d5 c6 d6 c7 d7 c8 d8 c9 d9 c10 d10 c11 d11 c12 d12 c13 d13 c14 d14
                                have c0 := cell_row HP5.out 0
                                have d0 := cell_row HQ5.out 0
                                have c1 := cell_row HP5.out 1
                                have d1 := cell_row HQ5.out 1
                                have c2 := cell_row HP5.out 2
                                have d2 := cell_row HQ5.out 2
                                have c3 := cell_row HP5.out 3
                                have d3 := cell_row HQ5.out 3
                                have c4 := cell_row HP5.out 4
                                have d4 := cell_row HQ5.out 4
                                have c5 := cell_row HP5.out 5
                                have d5 := cell_row HQ5.out 5
                                have c6 := cell_row HP5.out 6
                                have d6 := cell_row HQ5.out 6
                                have c7 := cell_row HP5.out 7
                                have d7 := cell_row HQ5.out 7
                                have c8 := cell_row HP5.out 8
                                have d8 := cell_row HQ5.out 8
                                have c9 := cell_row HP5.out 9
                                have d9 := cell_row HQ5.out 9
                                have c10 := cell_row HP5.out 10
                                have d10 := cell_row HQ5.out 10
                                have c11 := cell_row HP5.out 11
                                have d11 := cell_row HQ5.out 11
                                have c12 := cell_row HP5.out 12
                                have d12 := cell_row HQ5.out 12
                                have c13 := cell_row HP5.out 13
                                have d13 := cell_row HQ5.out 13
                                have c14 := cell_row HP5.out 14
                                have d14 := cell_row HQ5.out 14
                                clear hb
                                go_wp2_with fail
                                refine (HC9.out _ HB5.out).mono ?_
                                rintro e w6 ⟨rfl, hb⟩
                                have HB6 := Lib.hid (HB5.out.trans (hb.mono HB5.out.size))
                                have HP6 := Lib.hid (row_below hb HP5.out)
                                have HQ6 := Lib.hid (row_below hb HQ5.out)
                                clear c0 d0 c1 d1 c2 d2 c3 d3 c4 d4 c5 d5 c6 d6 c7 d7 c8 d8 c9 d9 c10 d10 c11 d11 c12 d12 c13 d13 c14 d14
                                have c0 := cell_row HP6.out 0
                                have d0 := cell_row HQ6.out 0
                                have c1 := cell_row HP6.out 1
                                have d1 := cell_row HQ6.out 1
                                have c2 := cell_row HP6.out 2
                                have d2 := cell_row HQ6.out 2
                                have c3 := cell_row HP6.out 3
                                have d3 := cell_row HQ6.out 3
                                have c4 := cell_row HP6.out 4
                                have d4 := cell_row HQ6.out 4
                                have c5 := cell_row HP6.out 5
                                have d5 := cell_row HQ6.out 5
                                have c6 := cell_row HP6.out 6
                                have d6 := cell_row HQ6.out 6
                                have c7 := cell_row HP6.out 7
                                have d7 := cell_row HQ6.out 7
                                have c8 := cell_row HP6.out 8
                                have d8 := cell_row HQ6.out 8
                                have c9 := cell_row HP6.out 9
                                have d9 := cell_row HQ6.out 9
                                have c10 := cell_row HP6.out 10
                                have d10 := cell_row HQ6.out 10
                                have c11 := cell_row HP6.out 11
                                have d11 := cell_row HQ6.out 11
                                have c12 := cell_row HP6.out 12
                                have d12 := cell_row HQ6.out 12
                                have c13 := cell_row HP6.out 13
                                have d13 := cell_row HQ6.out 13
                                have c14 := cell_row HP6.out 14
                                have d14 := cell_row HQ6.out 14
                                clear hb
                                go_wp2_with fail
                                refine (HC10.out _ HB6.out).mono ?_
                                rintro e w7 ⟨rfl, hb⟩
                                have HB7 := Lib.hid (HB6.out.trans (hb.mono HB6.out.size))
                                have HP7 := Lib.hid (row_below hb HP6.out)
                                have HQ7 := Lib.hid (row_below hb HQ6.out)
                                clear c0 d0 c1 d1 c2 d2 c3 d3 c4 d4 c5 d5 c6 d6 c7 d7 c8 d8 c9 d9 c10 d10 c11 d11 c12 d12 c13 d13 c14 d14
                                have c0 := cell_row HP7.out 0
                                have d0 := cell_row HQ7.out 0
                                have c1 := cell_row HP7.out 1
                                have d1 := cell_row HQ7.out 1
                                have c2 := cell_row HP7.out 2
                                have d2 := cell_row HQ7.out 2
                                have c3 := cell_row HP7.out 3
                                have d3 := cell_row HQ7.out 3
                                have c4 := cell_row HP7.out 4
                                have d4 := cell_row HQ7.out 4
                                have c5 := cell_row HP7.out 5
                                have d5 := cell_row HQ7.out 5
                                have c6 := cell_row HP7.out 6
                                have d6 := cell_row HQ7.out 6
                                have c7 := cell_row HP7.out 7
                                have d7 := cell_row HQ7.out 7
                                have c8 := cell_row HP7.out 8
                                have d8 := cell_row HQ7.out 8
                                have c9 := cell_row HP7.out 9
                                have d9 := cell_row HQ7.out 9
                                have c10 := cell_row HP7.out 10
                                have d10 := cell_row HQ7.out 10
                                have c11 := cell_row HP7.out 11
                                have d11 := cell_row HQ7.out 11
                                have c12 := cell_row HP7.out 12
                                have d12 := cell_row HQ7.out 12
                                have c13 := cell_row HP7.out 13
                                have d13 := cell_row HQ7.out 13
                                have c14 := cell_row HP7.out 14
                                have d14 := cell_row HQ7.out 14
                                clear hb
                                go_wp2_with fail
                                refine (HC11.out _ HB7.out).mono ?_
                                rintro e w8 ⟨rfl, hb⟩
                                have HB8 := Lib.hid (HB7.out.trans (hb.mono HB7.out.size))
                                have HP8 := Lib.hid (row_below hb HP7.out)
                                have HQ8 := Lib.hid (row_below hb HQ7.out)
                                clear c0 d0 c1 d1 c2 d2 c3 d3 c4 d4 c5 d5 c6 d6 c7 d7 c8 d8 c9 d9 c10 d10 c11 d11 c12 d12 c13 d13 c14 d14
                                have c0 := cell_row HP8.out 0
                                have d0 := cell_row HQ8.out 0
                                have c1 := cell_row HP8.out 1
                                have d1 := cell_row HQ8.out 1
                                have c2 := cell_row HP8.out 2
                                have d2 := cell_row HQ8.out 2
                                have c3 := cell_row HP8.out 3
                                have d3 := cell_row HQ8.out 3
                                have c4 := cell_row HP8.out 4
                                have d4 := cell_row HQ8.out 4
                                have c5 := cell_row HP8.out 5
                                have d5 := cell_row HQ8.out 5
                                have c6 := cell_row HP8.out 6
                                have d6 := cell_row HQ8.out 6
                                have c7 := cell_row HP8.out 7
                                have d7 := cell_row HQ8.out 7
                                have c8 := cell_row HP8.out 8
                                have d8 := cell_row HQ8.out 8
                                have c9 := cell_row HP8.out 9
                                have d9 := cell_row HQ8.out 9
                                have c10 := cell_row HP8.out 10
                                have d10 := cell_row HQ8.out 10
                                have c11 := cell_row HP8.out 11
                                have d11 := cell_row HQ8.out 11
                                have c12 := cell_row HP8.out 12
                                have d12 := cell_row HQ8.out 12
                                have c13 := cell_row HP8.out 13
                                have d13 := cell_row HQ8.out 13
                                have c14 := cell_row HP8.out 14
                                have d14 := cell_row HQ8.out 14
                                clear hb
                                go_wp2_with fail
                                refine (HC12.out _ HB8.out).mono ?_
                                rintro e w9 ⟨rfl, hb⟩
                                have HB9 := Lib.hid (HB8.out.trans (hb.mono HB8.out.size))
                                have HP9 := Lib.hid (row_below hb HP8.out)
                                have HQ9 := Lib.hid (row_below hb HQ8.out)
                                clear c0 d0 c1 d1 c2 d2 c3 d3 c4 d4 c5 d5 c6 d6 c7 d7 c8 d8 c9 d9 c10 d10 c11 d11 c12 d12 c13 d13 c14 d14
                                have c0 := cell_row HP9.out 0
                                have d0 := cell_row HQ9.out 0
                                have c1 := cell_row HP9.out 1
                                have d1 := cell_row HQ9.out 1
                                have c2 := cell_row HP9.out 2
                                have d2 := cell_row HQ9.out 2
                                have c3 := cell_row HP9.out 3
                                have d3 := cell_row HQ9.out 3
                                have c4 := cell_row HP9.out 4
                                have d4 := cell_row HQ9.out 4
                                have c5 := cell_row HP9.out 5
                                have d5 := cell_row HQ9.out 5
                                have c6 := cell_row HP9.out 6
                                have d6 := cell_row HQ9.out 6
                                have c7 := cell_row HP9.out 7
                                have d7 := cell_row HQ9.out 7
                                have c8 := cell_row HP9.out 8
                                have d8 := cell_row HQ9.out 8
                                have c9 := cell_row HP9.out 9
                                have d9 := cell_row HQ9.out 9
                                have c10 := cell_row HP9.out 10
                                have d10 := cell_row HQ9.out 10
                                have c11 := cell_row HP9.out 11
                                have d11 := cell_row HQ9.out 11
                                have c12 := cell_row HP9.out 12
                                have d12 := cell_row HQ9.out 12
                                have c13 := cell_row HP9.out 13
                                have d13 := cell_row HQ9.out 13
                                have c14 := cell_row HP9.out 14
                                have d14 := cell_row HQ9.out 14
                                clear hb
                                go_wp2_with fail
                                refine (HC13.out _ HB9.out).mono ?_
                                rintro e w10 ⟨rfl, hb⟩
                                have HB10 := Lib.hid (HB9.out.trans (hb.mono HB9.out.size))
                                have HP10 := Lib.hid (row_below hb HP9.out)
                                have HQ10 := Lib.hid (row_below hb HQ9.out)
                                clear c0 d0 c1 d1 c2 d2 c3 d3 c4 d4 c5 d5 c6 d6 c7 d7 c8 d8 c9 d9 c10 d10 c11 d11 c12 d12 c13 d13 c14 d14
                                have c0 := cell_row HP10.out 0
                                have d0 := cell_row HQ10.out 0
                                have c1 := cell_row HP10.out 1
                                have d1 := cell_row HQ10.out 1
                                have c2 := cell_row HP10.out 2
                                have d2 := cell_row HQ10.out 2
                                have c3 := cell_row HP10.out 3
                                have d3 := cell_row HQ10.out 3
                                have c4 := cell_row HP10.out 4
                                have d4 := cell_row HQ10.out 4
                                have c5 := cell_row HP10.out 5
                                have d5 := cell_row HQ10.out 5
                                have c6 := cell_row HP10.out 6
                                have d6 := cell_row HQ10.out 6
                                have c7 := cell_row HP10.out 7
                                have d7 := cell_row HQ10.out 7
                                have c8 := cell_row HP10.out 8
                                have d8 := cell_row HQ10.out 8
                                have c9 := cell_row HP10.out 9
                                have d9 := cell_row HQ10.out 9
                                have c10 := cell_row HP10.out 10
                                have d10 := cell_row HQ10.out 10
                                have c11 := cell_row HP10.out 11
                                have d11 := cell_row HQ10.out 11
                                have c12 := cell_row HP10.out 12
                                have d12 := cell_row HQ10.out 12
                                have c13 := cell_row HP10.out 13
                                have d13 := cell_row HQ10.out 13
                                have c14 := cell_row HP10.out 14
                                have d14 := cell_row HQ10.out 14
                                clear hb
                                go_wp2_with fail
                                refine (HC14.out _ HB10.out).mono ?_
                                rintro e w11 ⟨rfl, hb⟩
                                have HB11 := Lib.hid (HB10.out.trans (hb.mono HB10.out.size))
                                have HP11 := Lib.hid (row_below hb HP10.out)
                                have HQ11 := Lib.hid (row_below hb HQ10.out)
                                clear c0 d0 c1 d1 c2 d2 c3 d3 c4 d4 c5 d5 c6 d6 c7 d7 c8 d8 c9 d9 c10 d10 c11 d11 c12 d12 c13 d13 c14 d14
                                have c0 := cell_row HP11.out 0
                                have d0 := cell_row HQ11.out 0
                                have c1 := cell_row HP11.out 1
                                have d1 := cell_row HQ11.out 1
                                have c2 := cell_row HP11.out 2
                                have d2 := cell_row HQ11.out 2
                                have c3 := cell_row HP11.out 3
                                have d3 := cell_row HQ11.out 3
                                have c4 := cell_row HP11.out 4
                                have d4 := cell_row HQ11.out 4
                                have c5 := cell_row HP11.out 5
                                have d5 := cell_row HQ11.out 5
                                have c6 := cell_row HP11.out 6
                                have d6 := cell_row HQ11.out 6
                                have c7 := cell_row HP11.out 7
                                have d7 := cell_row HQ11.out 7
                                have c8 := cell_row HP11.out 8
                                have d8 := cell_row HQ11.out 8
                                have c9 := cell_row HP11.out 9
                                have d9 := cell_row HQ11.out 9
                                have c10 := cell_row HP11.out 10
                                have d10 := cell_row HQ11.out 10
                                have c11 := cell_row HP11.out 11
                                have d11 := cell_row HQ11.out 11
                                have c12 := cell_row HP11.out 12
                                have d12 := cell_row HQ11.out 12
                                have c13 := cell_row HP11.out 13
                                have d13 := cell_row HQ11.out 13
                                have c14 := cell_row HP11.out 14
                                have d14 := cell_row HQ11.out 14
                                clear hb
                                go_wp2_with fail
                                go_ret
                                exact ⟨by rw [HEQ.out]; rfl, HB11.out⟩
                              · have HNE : Hid (sameM m n r s = false) := Lib.hid (by simp [sameM, h14])
                                rw [decide_eq_false h14] at HC14
                                clear h14
                                go_enter Tryz.func6, Tryz.ntmps6
                                go_wp2_with fail
                                refine (HC4.out _ HB0.out).mono ?_
                                rintro e w1 ⟨rfl, hb⟩
                                have HB1 := Lib.hid (HB0.out.trans (hb.mono HB0.out.size))
                                have HP1 := Lib.hid (row_below hb HP0.out)
                                have HQ1 := Lib.hid (row_below hb HQ0.out)
                                have c0 := cell_row HP1.out 0
                                have d0 := cell_row HQ1.out 0
                                have c1 := cell_row HP1.out 1
                                have d1 := cell_row HQ1.out 1
                                have c2 := cell_row HP1.out 2
                                have d2 := cell_row HQ1.out 2
                                have c3 := cell_row HP1.out 3
                                have d3 := cell_row HQ1.out 3
                                have c4 := cell_row HP1.out 4
                                have d4 := cell_row HQ1.out 4
                                have c5 := cell_row HP1.out 5
                                have d5 := cell_row HQ1.out 5
                                have c6 := cell_row HP1.out 6
                                have d6 := cell_row HQ1.out 6
                                have c7 := cell_row HP1.out 7
                                have d7 := cell_row HQ1.out 7
                                have c8 := cell_row HP1.out 8
                                have d8 := cell_row HQ1.out 8
                                have c9 := cell_row HP1.out 9
                                have d9 := cell_row HQ1.out 9
                                have c10 := cell_row HP1.out 10
                                have d10 := cell_row HQ1.out 10
                                have c11 := cell_row HP1.out 11
                                have d11 := cell_row HQ1.out 11
                                have c12 := cell_row HP1.out 12
                                have d12 := cell_row HQ1.out 12
                                have c13 := cell_row HP1.out 13
                                have d13 := cell_row HQ1.out 13
                                have c14 := cell_row HP1.out 14
                                have d14 := cell_row HQ1.out 14
                                clear hb
                                go_wp2_with fail
                                refine (HC5.out _ HB1.out).mono ?_
                                rintro e w2 ⟨rfl, hb⟩
                                have HB2 := Lib.hid (HB1.out.trans (hb.mono HB1.out.size))
                                have HP2 := Lib.hid (row_below hb HP1.out)
                                have HQ2 := Lib.hid (row_below hb HQ1.out)
                                clear c0 d0 c1 d1 c2 d2 c3 d3 c4 d4 c5 d5 c6 d6 c7 d7 c8 d8 c9 d9 c10 d10 c11 d11 c12 d12 c13 d13 c14 d14
                                have c0 := cell_row HP2.out 0
                                have d0 := cell_row HQ2.out 0
                                have c1 := cell_row HP2.out 1
                                have d1 := cell_row HQ2.out 1
                                have c2 := cell_row HP2.out 2
                                have d2 := cell_row HQ2.out 2
                                have c3 := cell_row HP2.out 3
                                have d3 := cell_row HQ2.out 3
                                have c4 := cell_row HP2.out 4
                                have d4 := cell_row HQ2.out 4
                                have c5 := cell_row HP2.out 5
                                have d5 := cell_row HQ2.out 5
                                have c6 := cell_row HP2.out 6
                                have d6 := cell_row HQ2.out 6
                                have c7 := cell_row HP2.out 7
                                have d7 := cell_row HQ2.out 7
                                have c8 := cell_row HP2.out 8
                                have d8 := cell_row HQ2.out 8
                                have c9 := cell_row HP2.out 9
                                have d9 := cell_row HQ2.out 9
                                have c10 := cell_row HP2.out 10
                                have d10 := cell_row HQ2.out 10
                                have c11 := cell_row HP2.out 11
                                have d11 := cell_row HQ2.out 11
                                have c12 := cell_row HP2.out 12
                                have d12 := cell_row HQ2.out 12
                                have c13 := cell_row HP2.out 13
                                have d13 := cell_row HQ2.out 13
                                have c14 := cell_row HP2.out 14
                                have d14 := cell_row HQ2.out 14
                                clear hb
                                go_wp2_with fail
                                refine (HC6.out _ HB2.out).mono ?_
                                rintro e w3 ⟨rfl, hb⟩
                                have HB3 := Lib.hid (HB2.out.trans (hb.mono HB2.out.size))
                                have HP3 := Lib.hid (row_below hb HP2.out)
                                have HQ3 := Lib.hid (row_below hb HQ2.out)
                                clear c0 d0 c1 d1 c2 d2 c3 d3 c4 d4 c5 d5 c6 d6 c7 d7 c8 d8 c9 d9 c10 d10 c11 d11 c12 d12 c13 d13 c14 d14
                                have c0 := cell_row HP3.out 0
                                have d0 := cell_row HQ3.out 0
                                have c1 := cell_row HP3.out 1
                                have d1 := cell_row HQ3.out 1
                                have c2 := cell_row HP3.out 2
                                have d2 := cell_row HQ3.out 2
                                have c3 := cell_row HP3.out 3
                                have d3 := cell_row HQ3.out 3
                                have c4 := cell_row HP3.out 4
                                have d4 := cell_row HQ3.out 4
                                have c5 := cell_row HP3.out 5
                                have d5 := cell_row HQ3.out 5
                                have c6 := cell_row HP3.out 6
                                have d6 := cell_row HQ3.out 6
                                have c7 := cell_row HP3.out 7
                                have d7 := cell_row HQ3.out 7
                                have c8 := cell_row HP3.out 8
                                have d8 := cell_row HQ3.out 8
                                have c9 := cell_row HP3.out 9
                                have d9 := cell_row HQ3.out 9
                                have c10 := cell_row HP3.out 10
                                have d10 := cell_row HQ3.out 10
                                have c11 := cell_row HP3.out 11
                                have d11 := cell_row HQ3.out 11
                                have c12 := cell_row HP3.out 12
                                have d12 := cell_row HQ3.out 12
                                have c13 := cell_row HP3.out 13
                                have d13 := cell_row HQ3.out 13
                                have c14 := cell_row HP3.out 14
                                have d14 := cell_row HQ3.out 14
                                clear hb
                                go_wp2_with fail
                                refine (HC7.out _ HB3.out).mono ?_
                                rintro e w4 ⟨rfl, hb⟩
                                have HB4 := Lib.hid (HB3.out.trans (hb.mono HB3.out.size))
                                have HP4 := Lib.hid (row_below hb HP3.out)
                                have HQ4 := Lib.hid (row_below hb HQ3.out)
                                clear c0 d0 c1 d1 c2 d2 c3 d3 c4 d4 c5 d5 c6 d6 c7 d7 c8 d8 c9 d9 c10 d10 c11 d11 c12 d12 c13 d13 c14 d14
                                have c0 := cell_row HP4.out 0
                                have d0 := cell_row HQ4.out 0
                                have c1 := cell_row HP4.out 1
                                have d1 := cell_row HQ4.out 1
                                have c2 := cell_row HP4.out 2
                                have d2 := cell_row HQ4.out 2
                                have c3 := cell_row HP4.out 3
                                have d3 := cell_row HQ4.out 3
                                have c4 := cell_row HP4.out 4
                                have d4 := cell_row HQ4.out 4
                                have c5 := cell_row HP4.out 5
                                have d5 := cell_row HQ4.out 5
                                have c6 := cell_row HP4.out 6
                                have d6 := cell_row HQ4.out 6
                                have c7 := cell_row HP4.out 7
                                have d7 := cell_row HQ4.out 7
                                have c8 := cell_row HP4.out 8
                                have d8 := cell_row HQ4.out 8
                                have c9 := cell_row HP4.out 9
                                have d9 := cell_row HQ4.out 9
                                have c10 := cell_row HP4.out 10
                                have d10 := cell_row HQ4.out 10
                                have c11 := cell_row HP4.out 11
                                have d11 := cell_row HQ4.out 11
                                have c12 := cell_row HP4.out 12
                                have d12 := cell_row HQ4.out 12
                                have c13 := cell_row HP4.out 13
                                have d13 := cell_row HQ4.out 13
                                have c14 := cell_row HP4.out 14
                                have d14 := cell_row HQ4.out 14
                                clear hb
                                go_wp2_with fail
                                refine (HC8.out _ HB4.out).mono ?_
                                rintro e w5 ⟨rfl, hb⟩
                                have HB5 := Lib.hid (HB4.out.trans (hb.mono HB4.out.size))
                                have HP5 := Lib.hid (row_below hb HP4.out)
                                have HQ5 := Lib.hid (row_below hb HQ4.out)
                                clear c0 d0 c1 d1 c2 d2 c3 d3 c4 d4 c5 d5 c6 d6 c7 d7 c8 d8 c9 d9 c10 d10 c11 d11 c12 d12 c13 d13 c14 d14
                                have c0 := cell_row HP5.out 0
                                have d0 := cell_row HQ5.out 0
                                have c1 := cell_row HP5.out 1
                                have d1 := cell_row HQ5.out 1
                                have c2 := cell_row HP5.out 2
                                have d2 := cell_row HQ5.out 2
                                have c3 := cell_row HP5.out 3
                                have d3 := cell_row HQ5.out 3
                                have c4 := cell_row HP5.out 4
                                have d4 := cell_row HQ5.out 4
                                have c5 := cell_row HP5.out 5
                                have d5 := cell_row HQ5.out 5
                                have c6 := cell_row HP5.out 6
                                have d6 := cell_row HQ5.out 6
                                have c7 := cell_row HP5.out 7
                                have d7 := cell_row HQ5.out 7
                                have c8 := cell_row HP5.out 8
                                have d8 := cell_row HQ5.out 8
                                have c9 := cell_row HP5.out 9
                                have d9 := cell_row HQ5.out 9
                                have c10 := cell_row HP5.out 10
                                have d10 := cell_row HQ5.out 10
                                have c11 := cell_row HP5.out 11
                                have d11 := cell_row HQ5.out 11
                                have c12 := cell_row HP5.out 12
                                have d12 := cell_row HQ5.out 12
                                have c13 := cell_row HP5.out 13
                                have d13 := cell_row HQ5.out 13
                                have c14 := cell_row HP5.out 14
                                have d14 := cell_row HQ5.out 14
                                clear hb
                                go_wp2_with fail
                                refine (HC9.out _ HB5.out).mono ?_
                                rintro e w6 ⟨rfl, hb⟩
                                have HB6 := Lib.hid (HB5.out.trans (hb.mono HB5.out.size))
                                have HP6 := Lib.hid (row_below hb HP5.out)
                                have HQ6 := Lib.hid (row_below hb HQ5.out)
                                clear c0 d0 c1 d1 c2 d2 c3 d3 c4 d4 c5 d5 c6 d6 c7 d7 c8 d8 c9 d9 c10 d10 c11 d11 c12 d12 c13 d13 c14 d14
                                have c0 := cell_row HP6.out 0
                                have d0 := cell_row HQ6.out 0
                                have c1 := cell_row HP6.out 1
                                have d1 := cell_row HQ6.out 1
                                have c2 := cell_row HP6.out 2
                                have d2 := cell_row HQ6.out 2
                                have c3 := cell_row HP6.out 3
                                have d3 := cell_row HQ6.out 3
                                have c4 := cell_row HP6.out 4
                                have d4 := cell_row HQ6.out 4
                                have c5 := cell_row HP6.out 5
                                have d5 := cell_row HQ6.out 5
                                have c6 := cell_row HP6.out 6
                                have d6 := cell_row HQ6.out 6
                                have c7 := cell_row HP6.out 7
                                have d7 := cell_row HQ6.out 7
                                have c8 := cell_row HP6.out 8
                                have d8 := cell_row HQ6.out 8
                                have c9 := cell_row HP6.out 9
                                have d9 := cell_row HQ6.out 9
                                have c10 := cell_row HP6.out 10
                                have d10 := cell_row HQ6.out 10
                                have c11 := cell_row HP6.out 11
                                have d11 := cell_row HQ6.out 11
                                have c12 := cell_row HP6.out 12
                                have d12 := cell_row HQ6.out 12
                                have c13 := cell_row HP6.out 13
                                have d13 := cell_row HQ6.out 13
                                have c14 := cell_row HP6.out 14
                                have d14 := cell_row HQ6.out 14
                                clear hb
                                go_wp2_with fail
                                refine (HC10.out _ HB6.out).mono ?_
                                rintro e w7 ⟨rfl, hb⟩
                                have HB7 := Lib.hid (HB6.out.trans (hb.mono HB6.out.size))
                                have HP7 := Lib.hid (row_below hb HP6.out)
                                have HQ7 := Lib.hid (row_below hb HQ6.out)
                                clear c0 d0 c1 d1 c2 d2 c3 d3 c4 d4 c5 d5 c6 d6 c7 d7 c8 d8 c9 d9 c10 d10 c11 d11 c12 d12 c13 d13 c14 d14
                                have c0 := cell_row HP7.out 0
                                have d0 := cell_row HQ7.out 0
                                have c1 := cell_row HP7.out 1
                                have d1 := cell_row HQ7.out 1
                                have c2 := cell_row HP7.out 2
                                have d2 := cell_row HQ7.out 2
                                have c3 := cell_row HP7.out 3
                                have d3 := cell_row HQ7.out 3
                                have c4 := cell_row HP7.out 4
                                have d4 := cell_row HQ7.out 4
                                have c5 := cell_row HP7.out 5
                                have d5 := cell_row HQ7.out 5
                                have c6 := cell_row HP7.out 6
                                have d6 := cell_row HQ7.out 6
                                have c7 := cell_row HP7.out 7
                                have d7 := cell_row HQ7.out 7
                                have c8 := cell_row HP7.out 8
                                have d8 := cell_row HQ7.out 8
                                have c9 := cell_row HP7.out 9
                                have d9 := cell_row HQ7.out 9
                                have c10 := cell_row HP7.out 10
                                have d10 := cell_row HQ7.out 10
                                have c11 := cell_row HP7.out 11
                                have d11 := cell_row HQ7.out 11
                                have c12 := cell_row HP7.out 12
                                have d12 := cell_row HQ7.out 12
                                have c13 := cell_row HP7.out 13
                                have d13 := cell_row HQ7.out 13
                                have c14 := cell_row HP7.out 14
                                have d14 := cell_row HQ7.out 14
                                clear hb
                                go_wp2_with fail
                                refine (HC11.out _ HB7.out).mono ?_
                                rintro e w8 ⟨rfl, hb⟩
                                have HB8 := Lib.hid (HB7.out.trans (hb.mono HB7.out.size))
                                have HP8 := Lib.hid (row_below hb HP7.out)
                                have HQ8 := Lib.hid (row_below hb HQ7.out)
                                clear c0 d0 c1 d1 c2 d2 c3 d3 c4 d4 c5 d5 c6 d6 c7 d7 c8 d8 c9 d9 c10 d10 c11 d11 c12 d12 c13 d13 c14 d14
                                have c0 := cell_row HP8.out 0
                                have d0 := cell_row HQ8.out 0
                                have c1 := cell_row HP8.out 1
                                have d1 := cell_row HQ8.out 1
                                have c2 := cell_row HP8.out 2
                                have d2 := cell_row HQ8.out 2
                                have c3 := cell_row HP8.out 3
                                have d3 := cell_row HQ8.out 3
                                have c4 := cell_row HP8.out 4
                                have d4 := cell_row HQ8.out 4
                                have c5 := cell_row HP8.out 5
                                have d5 := cell_row HQ8.out 5
                                have c6 := cell_row HP8.out 6
                                have d6 := cell_row HQ8.out 6
                                have c7 := cell_row HP8.out 7
                                have d7 := cell_row HQ8.out 7
                                have c8 := cell_row HP8.out 8
                                have d8 := cell_row HQ8.out 8
                                have c9 := cell_row HP8.out 9
                                have d9 := cell_row HQ8.out 9
                                have c10 := cell_row HP8.out 10
                                have d10 := cell_row HQ8.out 10
                                have c11 := cell_row HP8.out 11
                                have d11 := cell_row HQ8.out 11
                                have c12 := cell_row HP8.out 12
                                have d12 := cell_row HQ8.out 12
                                have c13 := cell_row HP8.out 13
                                have d13 := cell_row HQ8.out 13
                                have c14 := cell_row HP8.out 14
                                have d14 := cell_row HQ8.out 14
                                clear hb
                                go_wp2_with fail
                                refine (HC12.out _ HB8.out).mono ?_
                                rintro e w9 ⟨rfl, hb⟩
                                have HB9 := Lib.hid (HB8.out.trans (hb.mono HB8.out.size))
                                have HP9 := Lib.hid (row_below hb HP8.out)
                                have HQ9 := Lib.hid (row_below hb HQ8.out)
                                clear c0 d0 c1 d1 c2 d2 c3 d3 c4 d4 c5 d5 c6 d6 c7 d7 c8 d8 c9 d9 c10 d10 c11 d11 c12 d12 c13 d13 c14 d14
                                have c0 := cell_row HP9.out 0
                                have d0 := cell_row HQ9.out 0
                                have c1 := cell_row HP9.out 1
                                have d1 := cell_row HQ9.out 1
                                have c2 := cell_row HP9.out 2
                                have d2 := cell_row HQ9.out 2
                                have c3 := cell_row HP9.out 3
                                have d3 := cell_row HQ9.out 3
                                have c4 := cell_row HP9.out 4
                                have d4 := cell_row HQ9.out 4
                                have c5 := cell_row HP9.out 5
                                have d5 := cell_row HQ9.out 5
                                have c6 := cell_row HP9.out 6
                                have d6 := cell_row HQ9.out 6
                                have c7 := cell_row HP9.out 7
                                have d7 := cell_row HQ9.out 7
                                have c8 := cell_row HP9.out 8
                                have d8 := cell_row HQ9.out 8
                                have c9 := cell_row HP9.out 9
                                have d9 := cell_row HQ9.out 9
                                have c10 := cell_row HP9.out 10
                                have d10 := cell_row HQ9.out 10
                                have c11 := cell_row HP9.out 11
                                have d11 := cell_row HQ9.out 11
                                have c12 := cell_row HP9.out 12
                                have d12 := cell_row HQ9.out 12
                                have c13 := cell_row HP9.out 13
                                have d13 := cell_row HQ9.out 13
                                have c14 := cell_row HP9.out 14
                                have d14 := cell_row HQ9.out 14
                                clear hb
                                go_wp2_with fail
                                refine (HC13.out _ HB9.out).mono ?_
                                rintro e w10 ⟨rfl, hb⟩
                                have HB10 := Lib.hid (HB9.out.trans (hb.mono HB9.out.size))
                                have HP10 := Lib.hid (row_below hb HP9.out)
                                have HQ10 := Lib.hid (row_below hb HQ9.out)
                                clear c0 d0 c1 d1 c2 d2 c3 d3 c4 d4 c5 d5 c6 d6 c7 d7 c8 d8 c9 d9 c10 d10 c11 d11 c12 d12 c13 d13 c14 d14
                                have c0 := cell_row HP10.out 0
                                have d0 := cell_row HQ10.out 0
                                have c1 := cell_row HP10.out 1
                                have d1 := cell_row HQ10.out 1
                                have c2 := cell_row HP10.out 2
                                have d2 := cell_row HQ10.out 2
                                have c3 := cell_row HP10.out 3
                                have d3 := cell_row HQ10.out 3
                                have c4 := cell_row HP10.out 4
                                have d4 := cell_row HQ10.out 4
                                have c5 := cell_row HP10.out 5
                                have d5 := cell_row HQ10.out 5
                                have c6 := cell_row HP10.out 6
                                have d6 := cell_row HQ10.out 6
                                have c7 := cell_row HP10.out 7
                                have d7 := cell_row HQ10.out 7
                                have c8 := cell_row HP10.out 8
                                have d8 := cell_row HQ10.out 8
                                have c9 := cell_row HP10.out 9
                                have d9 := cell_row HQ10.out 9
                                have c10 := cell_row HP10.out 10
                                have d10 := cell_row HQ10.out 10
                                have c11 := cell_row HP10.out 11
                                have d11 := cell_row HQ10.out 11
                                have c12 := cell_row HP10.out 12
                                have d12 := cell_row HQ10.out 12
                                have c13 := cell_row HP10.out 13
                                have d13 := cell_row HQ10.out 13
                                have c14 := cell_row HP10.out 14
                                have d14 := cell_row HQ10.out 14
                                clear hb
                                go_wp2_with fail
                                refine (HC14.out _ HB10.out).mono ?_
                                rintro e w11 ⟨rfl, hb⟩
                                have HB11 := Lib.hid (HB10.out.trans (hb.mono HB10.out.size))
                                have HP11 := Lib.hid (row_below hb HP10.out)
                                have HQ11 := Lib.hid (row_below hb HQ10.out)
                                clear c0 d0 c1 d1 c2 d2 c3 d3 c4 d4 c5 d5 c6 d6 c7 d7 c8 d8 c9 d9 c10 d10 c11 d11 c12 d12 c13 d13 c14 d14
                                have c0 := cell_row HP11.out 0
                                have d0 := cell_row HQ11.out 0
                                have c1 := cell_row HP11.out 1
                                have d1 := cell_row HQ11.out 1
                                have c2 := cell_row HP11.out 2
                                have d2 := cell_row HQ11.out 2
                                have c3 := cell_row HP11.out 3
                                have d3 := cell_row HQ11.out 3
                                have c4 := cell_row HP11.out 4
                                have d4 := cell_row HQ11.out 4
                                have c5 := cell_row HP11.out 5
                                have d5 := cell_row HQ11.out 5
                                have c6 := cell_row HP11.out 6
                                have d6 := cell_row HQ11.out 6
                                have c7 := cell_row HP11.out 7
                                have d7 := cell_row HQ11.out 7
                                have c8 := cell_row HP11.out 8
                                have d8 := cell_row HQ11.out 8
                                have c9 := cell_row HP11.out 9
                                have d9 := cell_row HQ11.out 9
                                have c10 := cell_row HP11.out 10
                                have d10 := cell_row HQ11.out 10
                                have c11 := cell_row HP11.out 11
                                have d11 := cell_row HQ11.out 11
                                have c12 := cell_row HP11.out 12
                                have d12 := cell_row HQ11.out 12
                                have c13 := cell_row HP11.out 13
                                have d13 := cell_row HQ11.out 13
                                have c14 := cell_row HP11.out 14
                                have d14 := cell_row HQ11.out 14
                                clear hb
                                go_wp2_with fail
                                go_ret
                                exact ⟨by rw [HNE.out]; rfl, HB11.out⟩
                            · have HNE : Hid (sameM m n r s = false) := Lib.hid (by simp [sameM, h13])
                              rw [decide_eq_false h13] at HC13
                              clear h13
                              go_enter Tryz.func6, Tryz.ntmps6
                              go_wp2_with fail
                              refine (HC4.out _ HB0.out).mono ?_
                              rintro e w1 ⟨rfl, hb⟩
                              have HB1 := Lib.hid (HB0.out.trans (hb.mono HB0.out.size))
                              have HP1 := Lib.hid (row_below hb HP0.out)
                              have HQ1 := Lib.hid (row_below hb HQ0.out)
                              have c0 := cell_row HP1.out 0
                              have d0 := cell_row HQ1.out 0
                              have c1 := cell_row HP1.out 1
                              have d1 := cell_row HQ1.out 1
                              have c2 := cell_row HP1.out 2
                              have d2 := cell_row HQ1.out 2
                              have c3 := cell_row HP1.out 3
                              have d3 := cell_row HQ1.out 3
                              have c4 := cell_row HP1.out 4
                              have d4 := cell_row HQ1.out 4
                              have c5 := cell_row HP1.out 5
                              have d5 := cell_row HQ1.out 5
                              have c6 := cell_row HP1.out 6
                              have d6 := cell_row HQ1.out 6
                              have c7 := cell_row HP1.out 7
                              have d7 := cell_row HQ1.out 7
                              have c8 := cell_row HP1.out 8
                              have d8 := cell_row HQ1.out 8
                              have c9 := cell_row HP1.out 9
                              have d9 := cell_row HQ1.out 9
                              have c10 := cell_row HP1.out 10
                              have d10 := cell_row HQ1.out 10
                              have c11 := cell_row HP1.out 11
                              have d11 := cell_row HQ1.out 11
                              have c12 := cell_row HP1.out 12
                              have d12 := cell_row HQ1.out 12
                              have c13 := cell_row HP1.out 13
                              have d13 := cell_row HQ1.out 13
                              have c14 := cell_row HP1.out 14
                              have d14 := cell_row HQ1.out 14
                              clear hb
                              go_wp2_with fail
                              refine (HC5.out _ HB1.out).mono ?_
                              rintro e w2 ⟨rfl, hb⟩
                              have HB2 := Lib.hid (HB1.out.trans (hb.mono HB1.out.size))
                              have HP2 := Lib.hid (row_below hb HP1.out)
                              have HQ2 := Lib.hid (row_below hb HQ1.out)
                              clear c0 d0 c1 d1 c2 d2 c3 d3 c4 d4 c5 d5 c6 d6 c7 d7 c8 d8 c9 d9 c10 d10 c11 d11 c12 d12 c13 d13 c14 d14
                              have c0 := cell_row HP2.out 0
                              have d0 := cell_row HQ2.out 0
                              have c1 := cell_row HP2.out 1
                              have d1 := cell_row HQ2.out 1
                              have c2 := cell_row HP2.out 2
                              have d2 := cell_row HQ2.out 2
                              have c3 := cell_row HP2.out 3
                              have d3 := cell_row HQ2.out 3
                              have c4 := cell_row HP2.out 4
                              have d4 := cell_row HQ2.out 4
                              have c5 := cell_row HP2.out 5
                              have d5 := cell_row HQ2.out 5
                              have c6 := cell_row HP2.out 6
                              have d6 := cell_row HQ2.out 6
                              have c7 := cell_row HP2.out 7
                              have d7 := cell_row HQ2.out 7
                              have c8 := cell_row HP2.out 8
                              have d8 := cell_row HQ2.out 8
                              have c9 := cell_row HP2.out 9
                              have d9 := cell_row HQ2.out 9
                              have c10 := cell_row HP2.out 10
                              have d10 := cell_row HQ2.out 10
                              have c11 := cell_row HP2.out 11
                              have d11 := cell_row HQ2.out 11
                              have c12 := cell_row HP2.out 12
                              have d12 := cell_row HQ2.out 12
                              have c13 := cell_row HP2.out 13
                              have d13 := cell_row HQ2.out 13
                              have c14 := cell_row HP2.out 14
                              have d14 := cell_row HQ2.out 14
                              clear hb
                              go_wp2_with fail
                              refine (HC6.out _ HB2.out).mono ?_
                              rintro e w3 ⟨rfl, hb⟩
                              have HB3 := Lib.hid (HB2.out.trans (hb.mono HB2.out.size))
                              have HP3 := Lib.hid (row_below hb HP2.out)
                              have HQ3 := Lib.hid (row_below hb HQ2.out)
                              clear c0 d0 c1 d1 c2 d2 c3 d3 c4 d4 c5 d5 c6 d6 c7 d7 c8 d8 c9 d9 c10 d10 c11 d11 c12 d12 c13 d13 c14 d14
                              have c0 := cell_row HP3.out 0
                              have d0 := cell_row HQ3.out 0
                              have c1 := cell_row HP3.out 1
                              have d1 := cell_row HQ3.out 1
                              have c2 := cell_row HP3.out 2
                              have d2 := cell_row HQ3.out 2
                              have c3 := cell_row HP3.out 3
                              have d3 := cell_row HQ3.out 3
                              have c4 := cell_row HP3.out 4
                              have d4 := cell_row HQ3.out 4
                              have c5 := cell_row HP3.out 5
                              have d5 := cell_row HQ3.out 5
                              have c6 := cell_row HP3.out 6
                              have d6 := cell_row HQ3.out 6
                              have c7 := cell_row HP3.out 7
                              have d7 := cell_row HQ3.out 7
                              have c8 := cell_row HP3.out 8
                              have d8 := cell_row HQ3.out 8
                              have c9 := cell_row HP3.out 9
                              have d9 := cell_row HQ3.out 9
                              have c10 := cell_row HP3.out 10
                              have d10 := cell_row HQ3.out 10
                              have c11 := cell_row HP3.out 11
                              have d11 := cell_row HQ3.out 11
                              have c12 := cell_row HP3.out 12
                              have d12 := cell_row HQ3.out 12
                              have c13 := cell_row HP3.out 13
                              have d13 := cell_row HQ3.out 13
                              have c14 := cell_row HP3.out 14
                              have d14 := cell_row HQ3.out 14
                              clear hb
                              go_wp2_with fail
                              refine (HC7.out _ HB3.out).mono ?_
                              rintro e w4 ⟨rfl, hb⟩
                              have HB4 := Lib.hid (HB3.out.trans (hb.mono HB3.out.size))
                              have HP4 := Lib.hid (row_below hb HP3.out)
                              have HQ4 := Lib.hid (row_below hb HQ3.out)
                              clear c0 d0 c1 d1 c2 d2 c3 d3 c4 d4 c5 d5 c6 d6 c7 d7 c8 d8 c9 d9 c10 d10 c11 d11 c12 d12 c13 d13 c14 d14
                              have c0 := cell_row HP4.out 0
                              have d0 := cell_row HQ4.out 0
                              have c1 := cell_row HP4.out 1
                              have d1 := cell_row HQ4.out 1
                              have c2 := cell_row HP4.out 2
                              have d2 := cell_row HQ4.out 2
                              have c3 := cell_row HP4.out 3
                              have d3 := cell_row HQ4.out 3
                              have c4 := cell_row HP4.out 4
                              have d4 := cell_row HQ4.out 4
                              have c5 := cell_row HP4.out 5
                              have d5 := cell_row HQ4.out 5
                              have c6 := cell_row HP4.out 6
                              have d6 := cell_row HQ4.out 6
                              have c7 := cell_row HP4.out 7
                              have d7 := cell_row HQ4.out 7
                              have c8 := cell_row HP4.out 8
                              have d8 := cell_row HQ4.out 8
                              have c9 := cell_row HP4.out 9
                              have d9 := cell_row HQ4.out 9
                              have c10 := cell_row HP4.out 10
                              have d10 := cell_row HQ4.out 10
                              have c11 := cell_row HP4.out 11
                              have d11 := cell_row HQ4.out 11
                              have c12 := cell_row HP4.out 12
                              have d12 := cell_row HQ4.out 12
                              have c13 := cell_row HP4.out 13
                              have d13 := cell_row HQ4.out 13
                              have c14 := cell_row HP4.out 14
                              have d14 := cell_row HQ4.out 14
                              clear hb
                              go_wp2_with fail
                              refine (HC8.out _ HB4.out).mono ?_
                              rintro e w5 ⟨rfl, hb⟩
                              have HB5 := Lib.hid (HB4.out.trans (hb.mono HB4.out.size))
                              have HP5 := Lib.hid (row_below hb HP4.out)
                              have HQ5 := Lib.hid (row_below hb HQ4.out)
                              clear c0 d0 c1 d1 c2 d2 c3 d3 c4 d4 c5 d5 c6 d6 c7 d7 c8 d8 c9 d9 c10 d10 c11 d11 c12 d12 c13 d13 c14 d14
                              have c0 := cell_row HP5.out 0
                              have d0 := cell_row HQ5.out 0
                              have c1 := cell_row HP5.out 1
                              have d1 := cell_row HQ5.out 1
                              have c2 := cell_row HP5.out 2
                              have d2 := cell_row HQ5.out 2
                              have c3 := cell_row HP5.out 3
                              have d3 := cell_row HQ5.out 3
                              have c4 := cell_row HP5.out 4
                              have d4 := cell_row HQ5.out 4
                              have c5 := cell_row HP5.out 5
                              have d5 := cell_row HQ5.out 5
                              have c6 := cell_row HP5.out 6
                              have d6 := cell_row HQ5.out 6
                              have c7 := cell_row HP5.out 7
                              have d7 := cell_row HQ5.out 7
                              have c8 := cell_row HP5.out 8
                              have d8 := cell_row HQ5.out 8
                              have c9 := cell_row HP5.out 9
                              have d9 := cell_row HQ5.out 9
                              have c10 := cell_row HP5.out 10
                              have d10 := cell_row HQ5.out 10
                              have c11 := cell_row HP5.out 11
                              have d11 := cell_row HQ5.out 11
                              have c12 := cell_row HP5.out 12
                              have d12 := cell_row HQ5.out 12
                              have c13 := cell_row HP5.out 13
                              have d13 := cell_row HQ5.out 13
                              have c14 := cell_row HP5.out 14
                              have d14 := cell_row HQ5.out 14
                              clear hb
                              go_wp2_with fail
                              refine (HC9.out _ HB5.out).mono ?_
                              rintro e w6 ⟨rfl, hb⟩
                              have HB6 := Lib.hid (HB5.out.trans (hb.mono HB5.out.size))
                              have HP6 := Lib.hid (row_below hb HP5.out)
                              have HQ6 := Lib.hid (row_below hb HQ5.out)
                              clear c0 d0 c1 d1 c2 d2 c3 d3 c4 d4 c5 d5 c6 d6 c7 d7 c8 d8 c9 d9 c10 d10 c11 d11 c12 d12 c13 d13 c14 d14
                              have c0 := cell_row HP6.out 0
                              have d0 := cell_row HQ6.out 0
                              have c1 := cell_row HP6.out 1
                              have d1 := cell_row HQ6.out 1
                              have c2 := cell_row HP6.out 2
                              have d2 := cell_row HQ6.out 2
                              have c3 := cell_row HP6.out 3
                              have d3 := cell_row HQ6.out 3
                              have c4 := cell_row HP6.out 4
                              have d4 := cell_row HQ6.out 4
                              have c5 := cell_row HP6.out 5
                              have d5 := cell_row HQ6.out 5
                              have c6 := cell_row HP6.out 6
                              have d6 := cell_row HQ6.out 6
                              have c7 := cell_row HP6.out 7
                              have d7 := cell_row HQ6.out 7
                              have c8 := cell_row HP6.out 8
                              have d8 := cell_row HQ6.out 8
                              have c9 := cell_row HP6.out 9
                              have d9 := cell_row HQ6.out 9
                              have c10 := cell_row HP6.out 10
                              have d10 := cell_row HQ6.out 10
                              have c11 := cell_row HP6.out 11
                              have d11 := cell_row HQ6.out 11
                              have c12 := cell_row HP6.out 12
                              have d12 := cell_row HQ6.out 12
                              have c13 := cell_row HP6.out 13
                              have d13 := cell_row HQ6.out 13
                              have c14 := cell_row HP6.out 14
                              have d14 := cell_row HQ6.out 14
                              clear hb
                              go_wp2_with fail
                              refine (HC10.out _ HB6.out).mono ?_
                              rintro e w7 ⟨rfl, hb⟩
                              have HB7 := Lib.hid (HB6.out.trans (hb.mono HB6.out.size))
                              have HP7 := Lib.hid (row_below hb HP6.out)
                              have HQ7 := Lib.hid (row_below hb HQ6.out)
                              clear c0 d0 c1 d1 c2 d2 c3 d3 c4 d4 c5 d5 c6 d6 c7 d7 c8 d8 c9 d9 c10 d10 c11 d11 c12 d12 c13 d13 c14 d14
                              have c0 := cell_row HP7.out 0
                              have d0 := cell_row HQ7.out 0
                              have c1 := cell_row HP7.out 1
                              have d1 := cell_row HQ7.out 1
                              have c2 := cell_row HP7.out 2
                              have d2 := cell_row HQ7.out 2
                              have c3 := cell_row HP7.out 3
                              have d3 := cell_row HQ7.out 3
                              have c4 := cell_row HP7.out 4
                              have d4 := cell_row HQ7.out 4
                              have c5 := cell_row HP7.out 5
                              have d5 := cell_row HQ7.out 5
                              have c6 := cell_row HP7.out 6
                              have d6 := cell_row HQ7.out 6
                              have c7 := cell_row HP7.out 7
                              have d7 := cell_row HQ7.out 7
                              have c8 := cell_row HP7.out 8
                              have d8 := cell_row HQ7.out 8
                              have c9 := cell_row HP7.out 9
                              have d9 := cell_row HQ7.out 9
                              have c10 := cell_row HP7.out 10
                              have d10 := cell_row HQ7.out 10
                              have c11 := cell_row HP7.out 11
                              have d11 := cell_row HQ7.out 11
                              have c12 := cell_row HP7.out 12
                              have d12 := cell_row HQ7.out 12
                              have c13 := cell_row HP7.out 13
                              have d13 := cell_row HQ7.out 13
                              have c14 := cell_row HP7.out 14
                              have d14 := cell_row HQ7.out 14
                              clear hb
                              go_wp2_with fail
                              refine (HC11.out _ HB7.out).mono ?_
                              rintro e w8 ⟨rfl, hb⟩
                              have HB8 := Lib.hid (HB7.out.trans (hb.mono HB7.out.size))
                              have HP8 := Lib.hid (row_below hb HP7.out)
                              have HQ8 := Lib.hid (row_below hb HQ7.out)
                              clear c0 d0 c1 d1 c2 d2 c3 d3 c4 d4 c5 d5 c6 d6 c7 d7 c8 d8 c9 d9 c10 d10 c11 d11 c12 d12 c13 d13 c14 d14
                              have c0 := cell_row HP8.out 0
                              have d0 := cell_row HQ8.out 0
                              have c1 := cell_row HP8.out 1
                              have d1 := cell_row HQ8.out 1
                              have c2 := cell_row HP8.out 2
                              have d2 := cell_row HQ8.out 2
                              have c3 := cell_row HP8.out 3
                              have d3 := cell_row HQ8.out 3
                              have c4 := cell_row HP8.out 4
                              have d4 := cell_row HQ8.out 4
                              have c5 := cell_row HP8.out 5
                              have d5 := cell_row HQ8.out 5
                              have c6 := cell_row HP8.out 6
                              have d6 := cell_row HQ8.out 6
                              have c7 := cell_row HP8.out 7
                              have d7 := cell_row HQ8.out 7
                              have c8 := cell_row HP8.out 8
                              have d8 := cell_row HQ8.out 8
                              have c9 := cell_row HP8.out 9
                              have d9 := cell_row HQ8.out 9
                              have c10 := cell_row HP8.out 10
                              have d10 := cell_row HQ8.out 10
                              have c11 := cell_row HP8.out 11
                              have d11 := cell_row HQ8.out 11
                              have c12 := cell_row HP8.out 12
                              have d12 := cell_row HQ8.out 12
                              have c13 := cell_row HP8.out 13
                              have d13 := cell_row HQ8.out 13
                              have c14 := cell_row HP8.out 14
                              have d14 := cell_row HQ8.out 14
                              clear hb
                              go_wp2_with fail
                              refine (HC12.out _ HB8.out).mono ?_
                              rintro e w9 ⟨rfl, hb⟩
                              have HB9 := Lib.hid (HB8.out.trans (hb.mono HB8.out.size))
                              have HP9 := Lib.hid (row_below hb HP8.out)
                              have HQ9 := Lib.hid (row_below hb HQ8.out)
                              clear c0 d0 c1 d1 c2 d2 c3 d3 c4 d4 c5 d5 c6 d6 c7 d7 c8 d8 c9 d9 c10 d10 c11 d11 c12 d12 c13 d13 c14 d14
                              have c0 := cell_row HP9.out 0
                              have d0 := cell_row HQ9.out 0
                              have c1 := cell_row HP9.out 1
                              have d1 := cell_row HQ9.out 1
                              have c2 := cell_row HP9.out 2
                              have d2 := cell_row HQ9.out 2
                              have c3 := cell_row HP9.out 3
                              have d3 := cell_row HQ9.out 3
                              have c4 := cell_row HP9.out 4
                              have d4 := cell_row HQ9.out 4
                              have c5 := cell_row HP9.out 5
                              have d5 := cell_row HQ9.out 5
                              have c6 := cell_row HP9.out 6
                              have d6 := cell_row HQ9.out 6
                              have c7 := cell_row HP9.out 7
                              have d7 := cell_row HQ9.out 7
                              have c8 := cell_row HP9.out 8
                              have d8 := cell_row HQ9.out 8
                              have c9 := cell_row HP9.out 9
                              have d9 := cell_row HQ9.out 9
                              have c10 := cell_row HP9.out 10
                              have d10 := cell_row HQ9.out 10
                              have c11 := cell_row HP9.out 11
                              have d11 := cell_row HQ9.out 11
                              have c12 := cell_row HP9.out 12
                              have d12 := cell_row HQ9.out 12
                              have c13 := cell_row HP9.out 13
                              have d13 := cell_row HQ9.out 13
                              have c14 := cell_row HP9.out 14
                              have d14 := cell_row HQ9.out 14
                              clear hb
                              go_wp2_with fail
                              refine (HC13.out _ HB9.out).mono ?_
                              rintro e w10 ⟨rfl, hb⟩
                              have HB10 := Lib.hid (HB9.out.trans (hb.mono HB9.out.size))
                              have HP10 := Lib.hid (row_below hb HP9.out)
                              have HQ10 := Lib.hid (row_below hb HQ9.out)
                              clear c0 d0 c1 d1 c2 d2 c3 d3 c4 d4 c5 d5 c6 d6 c7 d7 c8 d8 c9 d9 c10 d10 c11 d11 c12 d12 c13 d13 c14 d14
                              have c0 := cell_row HP10.out 0
                              have d0 := cell_row HQ10.out 0
                              have c1 := cell_row HP10.out 1
                              have d1 := cell_row HQ10.out 1
                              have c2 := cell_row HP10.out 2
                              have d2 := cell_row HQ10.out 2
                              have c3 := cell_row HP10.out 3
                              have d3 := cell_row HQ10.out 3
                              have c4 := cell_row HP10.out 4
                              have d4 := cell_row HQ10.out 4
                              have c5 := cell_row HP10.out 5
                              have d5 := cell_row HQ10.out 5
                              have c6 := cell_row HP10.out 6
                              have d6 := cell_row HQ10.out 6
                              have c7 := cell_row HP10.out 7
                              have d7 := cell_row HQ10.out 7
                              have c8 := cell_row HP10.out 8
                              have d8 := cell_row HQ10.out 8
                              have c9 := cell_row HP10.out 9
                              have d9 := cell_row HQ10.out 9
                              have c10 := cell_row HP10.out 10
                              have d10 := cell_row HQ10.out 10
                              have c11 := cell_row HP10.out 11
                              have d11 := cell_row HQ10.out 11
                              have c12 := cell_row HP10.out 12
                              have d12 := cell_row HQ10.out 12
                              have c13 := cell_row HP10.out 13
                              have d13 := cell_row HQ10.out 13
                              have c14 := cell_row HP10.out 14
                              have d14 := cell_row HQ10.out 14
                              clear hb
                              go_wp2_with fail
                              go_ret
                              exact ⟨by rw [HNE.out]; rfl, HB10.out⟩
                          · have HNE : Hid (sameM m n r s = false) := Lib.hid (by simp [sameM, h12])
                            rw [decide_eq_false h12] at HC12
                            clear h12
                            go_enter Tryz.func6, Tryz.ntmps6
                            go_wp2_with fail
                            refine (HC4.out _ HB0.out).mono ?_
                            rintro e w1 ⟨rfl, hb⟩
                            have HB1 := Lib.hid (HB0.out.trans (hb.mono HB0.out.size))
                            have HP1 := Lib.hid (row_below hb HP0.out)
                            have HQ1 := Lib.hid (row_below hb HQ0.out)
                            have c0 := cell_row HP1.out 0
                            have d0 := cell_row HQ1.out 0
                            have c1 := cell_row HP1.out 1
                            have d1 := cell_row HQ1.out 1
                            have c2 := cell_row HP1.out 2
                            have d2 := cell_row HQ1.out 2
                            have c3 := cell_row HP1.out 3
                            have d3 := cell_row HQ1.out 3
                            have c4 := cell_row HP1.out 4
                            have d4 := cell_row HQ1.out 4
                            have c5 := cell_row HP1.out 5
                            have d5 := cell_row HQ1.out 5
                            have c6 := cell_row HP1.out 6
                            have d6 := cell_row HQ1.out 6
                            have c7 := cell_row HP1.out 7
                            have d7 := cell_row HQ1.out 7
                            have c8 := cell_row HP1.out 8
                            have d8 := cell_row HQ1.out 8
                            have c9 := cell_row HP1.out 9
                            have d9 := cell_row HQ1.out 9
                            have c10 := cell_row HP1.out 10
                            have d10 := cell_row HQ1.out 10
                            have c11 := cell_row HP1.out 11
                            have d11 := cell_row HQ1.out 11
                            have c12 := cell_row HP1.out 12
                            have d12 := cell_row HQ1.out 12
                            have c13 := cell_row HP1.out 13
                            have d13 := cell_row HQ1.out 13
                            have c14 := cell_row HP1.out 14
                            have d14 := cell_row HQ1.out 14
                            clear hb
                            go_wp2_with fail
                            refine (HC5.out _ HB1.out).mono ?_
                            rintro e w2 ⟨rfl, hb⟩
                            have HB2 := Lib.hid (HB1.out.trans (hb.mono HB1.out.size))
                            have HP2 := Lib.hid (row_below hb HP1.out)
                            have HQ2 := Lib.hid (row_below hb HQ1.out)
                            clear c0 d0 c1 d1 c2 d2 c3 d3 c4 d4 c5 d5 c6 d6 c7 d7 c8 d8 c9 d9 c10 d10 c11 d11 c12 d12 c13 d13 c14 d14
                            have c0 := cell_row HP2.out 0
                            have d0 := cell_row HQ2.out 0
                            have c1 := cell_row HP2.out 1
                            have d1 := cell_row HQ2.out 1
                            have c2 := cell_row HP2.out 2
                            have d2 := cell_row HQ2.out 2
                            have c3 := cell_row HP2.out 3
                            have d3 := cell_row HQ2.out 3
                            have c4 := cell_row HP2.out 4
                            have d4 := cell_row HQ2.out 4
                            have c5 := cell_row HP2.out 5
                            have d5 := cell_row HQ2.out 5
                            have c6 := cell_row HP2.out 6
                            have d6 := cell_row HQ2.out 6
                            have c7 := cell_row HP2.out 7
                            have d7 := cell_row HQ2.out 7
                            have c8 := cell_row HP2.out 8
                            have d8 := cell_row HQ2.out 8
                            have c9 := cell_row HP2.out 9
                            have d9 := cell_row HQ2.out 9
                            have c10 := cell_row HP2.out 10
                            have d10 := cell_row HQ2.out 10
                            have c11 := cell_row HP2.out 11
                            have d11 := cell_row HQ2.out 11
                            have c12 := cell_row HP2.out 12
                            have d12 := cell_row HQ2.out 12
                            have c13 := cell_row HP2.out 13
                            have d13 := cell_row HQ2.out 13
                            have c14 := cell_row HP2.out 14
                            have d14 := cell_row HQ2.out 14
                            clear hb
                            go_wp2_with fail
                            refine (HC6.out _ HB2.out).mono ?_
                            rintro e w3 ⟨rfl, hb⟩
                            have HB3 := Lib.hid (HB2.out.trans (hb.mono HB2.out.size))
                            have HP3 := Lib.hid (row_below hb HP2.out)
                            have HQ3 := Lib.hid (row_below hb HQ2.out)
                            clear c0 d0 c1 d1 c2 d2 c3 d3 c4 d4 c5 d5 c6 d6 c7 d7 c8 d8 c9 d9 c10 d10 c11 d11 c12 d12 c13 d13 c14 d14
                            have c0 := cell_row HP3.out 0
                            have d0 := cell_row HQ3.out 0
                            have c1 := cell_row HP3.out 1
                            have d1 := cell_row HQ3.out 1
                            have c2 := cell_row HP3.out 2
                            have d2 := cell_row HQ3.out 2
                            have c3 := cell_row HP3.out 3
                            have d3 := cell_row HQ3.out 3
                            have c4 := cell_row HP3.out 4
                            have d4 := cell_row HQ3.out 4
                            have c5 := cell_row HP3.out 5
                            have d5 := cell_row HQ3.out 5
                            have c6 := cell_row HP3.out 6
                            have d6 := cell_row HQ3.out 6
                            have c7 := cell_row HP3.out 7
                            have d7 := cell_row HQ3.out 7
                            have c8 := cell_row HP3.out 8
                            have d8 := cell_row HQ3.out 8
                            have c9 := cell_row HP3.out 9
                            have d9 := cell_row HQ3.out 9
                            have c10 := cell_row HP3.out 10
                            have d10 := cell_row HQ3.out 10
                            have c11 := cell_row HP3.out 11
                            have d11 := cell_row HQ3.out 11
                            have c12 := cell_row HP3.out 12
                            have d12 := cell_row HQ3.out 12
                            have c13 := cell_row HP3.out 13
                            have d13 := cell_row HQ3.out 13
                            have c14 := cell_row HP3.out 14
                            have d14 := cell_row HQ3.out 14
                            clear hb
                            go_wp2_with fail
                            refine (HC7.out _ HB3.out).mono ?_
                            rintro e w4 ⟨rfl, hb⟩
                            have HB4 := Lib.hid (HB3.out.trans (hb.mono HB3.out.size))
                            have HP4 := Lib.hid (row_below hb HP3.out)
                            have HQ4 := Lib.hid (row_below hb HQ3.out)
                            clear c0 d0 c1 d1 c2 d2 c3 d3 c4 d4 c5 d5 c6 d6 c7 d7 c8 d8 c9 d9 c10 d10 c11 d11 c12 d12 c13 d13 c14 d14
                            have c0 := cell_row HP4.out 0
                            have d0 := cell_row HQ4.out 0
                            have c1 := cell_row HP4.out 1
                            have d1 := cell_row HQ4.out 1
                            have c2 := cell_row HP4.out 2
                            have d2 := cell_row HQ4.out 2
                            have c3 := cell_row HP4.out 3
                            have d3 := cell_row HQ4.out 3
                            have c4 := cell_row HP4.out 4
                            have d4 := cell_row HQ4.out 4
                            have c5 := cell_row HP4.out 5
                            have d5 := cell_row HQ4.out 5
                            have c6 := cell_row HP4.out 6
                            have d6 := cell_row HQ4.out 6
                            have c7 := cell_row HP4.out 7
                            have d7 := cell_row HQ4.out 7
                            have c8 := cell_row HP4.out 8
                            have d8 := cell_row HQ4.out 8
                            have c9 := cell_row HP4.out 9
                            have d9 := cell_row HQ4.out 9
                            have c10 := cell_row HP4.out 10
                            have d10 := cell_row HQ4.out 10
                            have c11 := cell_row HP4.out 11
                            have d11 := cell_row HQ4.out 11
                            have c12 := cell_row HP4.out 12
                            have d12 := cell_row HQ4.out 12
                            have c13 := cell_row HP4.out 13
                            have d13 := cell_row HQ4.out 13
                            have c14 := cell_row HP4.out 14
                            have d14 := cell_row HQ4.out 14
                            clear hb
                            go_wp2_with fail
                            refine (HC8.out _ HB4.out).mono ?_
                            rintro e w5 ⟨rfl, hb⟩
                            have HB5 := Lib.hid (HB4.out.trans (hb.mono HB4.out.size))
                            have HP5 := Lib.hid (row_below hb HP4.out)
                            have HQ5 := Lib.hid (row_below hb HQ4.out)
                            clear c0 d0 c1 d1 c2 d2 c3 d3 c4 d4 c5 d5 c6 d6 c7 d7 c8 d8 c9 d9 c10 d10 c11 d11 c12 d12 c13 d13 c14 d14
                            have c0 := cell_row HP5.out 0
                            have d0 := cell_row HQ5.out 0
                            have c1 := cell_row HP5.out 1
                            have d1 := cell_row HQ5.out 1
                            have c2 := cell_row HP5.out 2
                            have d2 := cell_row HQ5.out 2
                            have c3 := cell_row HP5.out 3
                            have d3 := cell_row HQ5.out 3
                            have c4 := cell_row HP5.out 4
                            have d4 := cell_row HQ5.out 4
                            have c5 := cell_row HP5.out 5
                            have d5 := cell_row HQ5.out 5
                            have c6 := cell_row HP5.out 6
                            have d6 := cell_row HQ5.out 6
                            have c7 := cell_row HP5.out 7
                            have d7 := cell_row HQ5.out 7
                            have c8 := cell_row HP5.out 8
                            have d8 := cell_row HQ5.out 8
                            have c9 := cell_row HP5.out 9
                            have d9 := cell_row HQ5.out 9
                            have c10 := cell_row HP5.out 10
                            have d10 := cell_row HQ5.out 10
                            have c11 := cell_row HP5.out 11
                            have d11 := cell_row HQ5.out 11
                            have c12 := cell_row HP5.out 12
                            have d12 := cell_row HQ5.out 12
                            have c13 := cell_row HP5.out 13
                            have d13 := cell_row HQ5.out 13
                            have c14 := cell_row HP5.out 14
                            have d14 := cell_row HQ5.out 14
                            clear hb
                            go_wp2_with fail
                            refine (HC9.out _ HB5.out).mono ?_
                            rintro e w6 ⟨rfl, hb⟩
                            have HB6 := Lib.hid (HB5.out.trans (hb.mono HB5.out.size))
                            have HP6 := Lib.hid (row_below hb HP5.out)
                            have HQ6 := Lib.hid (row_below hb HQ5.out)
                            clear c0 d0 c1 d1 c2 d2 c3 d3 c4 d4 c5 d5 c6 d6 c7 d7 c8 d8 c9 d9 c10 d10 c11 d11 c12 d12 c13 d13 c14 d14
                            have c0 := cell_row HP6.out 0
                            have d0 := cell_row HQ6.out 0
                            have c1 := cell_row HP6.out 1
                            have d1 := cell_row HQ6.out 1
                            have c2 := cell_row HP6.out 2
                            have d2 := cell_row HQ6.out 2
                            have c3 := cell_row HP6.out 3
                            have d3 := cell_row HQ6.out 3
                            have c4 := cell_row HP6.out 4
                            have d4 := cell_row HQ6.out 4
                            have c5 := cell_row HP6.out 5
                            have d5 := cell_row HQ6.out 5
                            have c6 := cell_row HP6.out 6
                            have d6 := cell_row HQ6.out 6
                            have c7 := cell_row HP6.out 7
                            have d7 := cell_row HQ6.out 7
                            have c8 := cell_row HP6.out 8
                            have d8 := cell_row HQ6.out 8
                            have c9 := cell_row HP6.out 9
                            have d9 := cell_row HQ6.out 9
                            have c10 := cell_row HP6.out 10
                            have d10 := cell_row HQ6.out 10
                            have c11 := cell_row HP6.out 11
                            have d11 := cell_row HQ6.out 11
                            have c12 := cell_row HP6.out 12
                            have d12 := cell_row HQ6.out 12
                            have c13 := cell_row HP6.out 13
                            have d13 := cell_row HQ6.out 13
                            have c14 := cell_row HP6.out 14
                            have d14 := cell_row HQ6.out 14
                            clear hb
                            go_wp2_with fail
                            refine (HC10.out _ HB6.out).mono ?_
                            rintro e w7 ⟨rfl, hb⟩
                            have HB7 := Lib.hid (HB6.out.trans (hb.mono HB6.out.size))
                            have HP7 := Lib.hid (row_below hb HP6.out)
                            have HQ7 := Lib.hid (row_below hb HQ6.out)
                            clear c0 d0 c1 d1 c2 d2 c3 d3 c4 d4 c5 d5 c6 d6 c7 d7 c8 d8 c9 d9 c10 d10 c11 d11 c12 d12 c13 d13 c14 d14
                            have c0 := cell_row HP7.out 0
                            have d0 := cell_row HQ7.out 0
                            have c1 := cell_row HP7.out 1
                            have d1 := cell_row HQ7.out 1
                            have c2 := cell_row HP7.out 2
                            have d2 := cell_row HQ7.out 2
                            have c3 := cell_row HP7.out 3
                            have d3 := cell_row HQ7.out 3
                            have c4 := cell_row HP7.out 4
                            have d4 := cell_row HQ7.out 4
                            have c5 := cell_row HP7.out 5
                            have d5 := cell_row HQ7.out 5
                            have c6 := cell_row HP7.out 6
                            have d6 := cell_row HQ7.out 6
                            have c7 := cell_row HP7.out 7
                            have d7 := cell_row HQ7.out 7
                            have c8 := cell_row HP7.out 8
                            have d8 := cell_row HQ7.out 8
                            have c9 := cell_row HP7.out 9
                            have d9 := cell_row HQ7.out 9
                            have c10 := cell_row HP7.out 10
                            have d10 := cell_row HQ7.out 10
                            have c11 := cell_row HP7.out 11
                            have d11 := cell_row HQ7.out 11
                            have c12 := cell_row HP7.out 12
                            have d12 := cell_row HQ7.out 12
                            have c13 := cell_row HP7.out 13
                            have d13 := cell_row HQ7.out 13
                            have c14 := cell_row HP7.out 14
                            have d14 := cell_row HQ7.out 14
                            clear hb
                            go_wp2_with fail
                            refine (HC11.out _ HB7.out).mono ?_
                            rintro e w8 ⟨rfl, hb⟩
                            have HB8 := Lib.hid (HB7.out.trans (hb.mono HB7.out.size))
                            have HP8 := Lib.hid (row_below hb HP7.out)
                            have HQ8 := Lib.hid (row_below hb HQ7.out)
                            clear c0 d0 c1 d1 c2 d2 c3 d3 c4 d4 c5 d5 c6 d6 c7 d7 c8 d8 c9 d9 c10 d10 c11 d11 c12 d12 c13 d13 c14 d14
                            have c0 := cell_row HP8.out 0
                            have d0 := cell_row HQ8.out 0
                            have c1 := cell_row HP8.out 1
                            have d1 := cell_row HQ8.out 1
                            have c2 := cell_row HP8.out 2
                            have d2 := cell_row HQ8.out 2
                            have c3 := cell_row HP8.out 3
                            have d3 := cell_row HQ8.out 3
                            have c4 := cell_row HP8.out 4
                            have d4 := cell_row HQ8.out 4
                            have c5 := cell_row HP8.out 5
                            have d5 := cell_row HQ8.out 5
                            have c6 := cell_row HP8.out 6
                            have d6 := cell_row HQ8.out 6
                            have c7 := cell_row HP8.out 7
                            have d7 := cell_row HQ8.out 7
                            have c8 := cell_row HP8.out 8
                            have d8 := cell_row HQ8.out 8
                            have c9 := cell_row HP8.out 9
                            have d9 := cell_row HQ8.out 9
                            have c10 := cell_row HP8.out 10
                            have d10 := cell_row HQ8.out 10
                            have c11 := cell_row HP8.out 11
                            have d11 := cell_row HQ8.out 11
                            have c12 := cell_row HP8.out 12
                            have d12 := cell_row HQ8.out 12
                            have c13 := cell_row HP8.out 13
                            have d13 := cell_row HQ8.out 13
                            have c14 := cell_row HP8.out 14
                            have d14 := cell_row HQ8.out 14
                            clear hb
                            go_wp2_with fail
                            refine (HC12.out _ HB8.out).mono ?_
                            rintro e w9 ⟨rfl, hb⟩
                            have HB9 := Lib.hid (HB8.out.trans (hb.mono HB8.out.size))
                            have HP9 := Lib.hid (row_below hb HP8.out)
                            have HQ9 := Lib.hid (row_below hb HQ8.out)
                            clear c0 d0 c1 d1 c2 d2 c3 d3 c4 d4 c5 d5 c6 d6 c7 d7 c8 d8 c9 d9 c10 d10 c11 d11 c12 d12 c13 d13 c14 d14
                            have c0 := cell_row HP9.out 0
                            have d0 := cell_row HQ9.out 0
                            have c1 := cell_row HP9.out 1
                            have d1 := cell_row HQ9.out 1
                            have c2 := cell_row HP9.out 2
                            have d2 := cell_row HQ9.out 2
                            have c3 := cell_row HP9.out 3
                            have d3 := cell_row HQ9.out 3
                            have c4 := cell_row HP9.out 4
                            have d4 := cell_row HQ9.out 4
                            have c5 := cell_row HP9.out 5
                            have d5 := cell_row HQ9.out 5
                            have c6 := cell_row HP9.out 6
                            have d6 := cell_row HQ9.out 6
                            have c7 := cell_row HP9.out 7
                            have d7 := cell_row HQ9.out 7
                            have c8 := cell_row HP9.out 8
                            have d8 := cell_row HQ9.out 8
                            have c9 := cell_row HP9.out 9
                            have d9 := cell_row HQ9.out 9
                            have c10 := cell_row HP9.out 10
                            have d10 := cell_row HQ9.out 10
                            have c11 := cell_row HP9.out 11
                            have d11 := cell_row HQ9.out 11
                            have c12 := cell_row HP9.out 12
                            have d12 := cell_row HQ9.out 12
                            have c13 := cell_row HP9.out 13
                            have d13 := cell_row HQ9.out 13
                            have c14 := cell_row HP9.out 14
                            have d14 := cell_row HQ9.out 14
                            clear hb
                            go_wp2_with fail
                            go_ret
                            exact ⟨by rw [HNE.out]; rfl, HB9.out⟩
                        · have HNE : Hid (sameM m n r s = false) := Lib.hid (by simp [sameM, h11])
                          rw [decide_eq_false h11] at HC11
                          clear h11
                          go_enter Tryz.func6, Tryz.ntmps6
                          go_wp2_with fail
                          refine (HC4.out _ HB0.out).mono ?_
                          rintro e w1 ⟨rfl, hb⟩
                          have HB1 := Lib.hid (HB0.out.trans (hb.mono HB0.out.size))
                          have HP1 := Lib.hid (row_below hb HP0.out)
                          have HQ1 := Lib.hid (row_below hb HQ0.out)
                          have c0 := cell_row HP1.out 0
                          have d0 := cell_row HQ1.out 0
                          have c1 := cell_row HP1.out 1
                          have d1 := cell_row HQ1.out 1
                          have c2 := cell_row HP1.out 2
                          have d2 := cell_row HQ1.out 2
                          have c3 := cell_row HP1.out 3
                          have d3 := cell_row HQ1.out 3
                          have c4 := cell_row HP1.out 4
                          have d4 := cell_row HQ1.out 4
                          have c5 := cell_row HP1.out 5
                          have d5 := cell_row HQ1.out 5
                          have c6 := cell_row HP1.out 6
                          have d6 := cell_row HQ1.out 6
                          have c7 := cell_row HP1.out 7
                          have d7 := cell_row HQ1.out 7
                          have c8 := cell_row HP1.out 8
                          have d8 := cell_row HQ1.out 8
                          have c9 := cell_row HP1.out 9
                          have d9 := cell_row HQ1.out 9
                          have c10 := cell_row HP1.out 10
                          have d10 := cell_row HQ1.out 10
                          have c11 := cell_row HP1.out 11
                          have d11 := cell_row HQ1.out 11
                          have c12 := cell_row HP1.out 12
                          have d12 := cell_row HQ1.out 12
                          have c13 := cell_row HP1.out 13
                          have d13 := cell_row HQ1.out 13
                          have c14 := cell_row HP1.out 14
                          have d14 := cell_row HQ1.out 14
                          clear hb
                          go_wp2_with fail
                          refine (HC5.out _ HB1.out).mono ?_
                          rintro e w2 ⟨rfl, hb⟩
                          have HB2 := Lib.hid (HB1.out.trans (hb.mono HB1.out.size))
                          have HP2 := Lib.hid (row_below hb HP1.out)
                          have HQ2 := Lib.hid (row_below hb HQ1.out)
                          clear c0 d0 c1 d1 c2 d2 c3 d3 c4 d4 c5 d5 c6 d6 c7 d7 c8 d8 c9 d9 c10 d10 c11 d11 c12 d12 c13 d13 c14 d14
                          have c0 := cell_row HP2.out 0
                          have d0 := cell_row HQ2.out 0
                          have c1 := cell_row HP2.out 1
                          have d1 := cell_row HQ2.out 1
                          have c2 := cell_row HP2.out 2
                          have d2 := cell_row HQ2.out 2
                          have c3 := cell_row HP2.out 3
                          have d3 := cell_row HQ2.out 3
                          have c4 := cell_row HP2.out 4
                          have d4 := cell_row HQ2.out 4
                          have c5 := cell_row HP2.out 5
                          have d5 := cell_row HQ2.out 5
                          have c6 := cell_row HP2.out 6
                          have d6 := cell_row HQ2.out 6
                          have c7 := cell_row HP2.out 7
                          have d7 := cell_row HQ2.out 7
                          have c8 := cell_row HP2.out 8
                          have d8 := cell_row HQ2.out 8
                          have c9 := cell_row HP2.out 9
                          have d9 := cell_row HQ2.out 9
                          have c10 := cell_row HP2.out 10
                          have d10 := cell_row HQ2.out 10
                          have c11 := cell_row HP2.out 11
                          have d11 := cell_row HQ2.out 11
                          have c12 := cell_row HP2.out 12
                          have d12 := cell_row HQ2.out 12
                          have c13 := cell_row HP2.out 13
                          have d13 := cell_row HQ2.out 13
                          have c14 := cell_row HP2.out 14
                          have d14 := cell_row HQ2.out 14
                          clear hb
                          go_wp2_with fail
                          refine (HC6.out _ HB2.out).mono ?_
                          rintro e w3 ⟨rfl, hb⟩
                          have HB3 := Lib.hid (HB2.out.trans (hb.mono HB2.out.size))
                          have HP3 := Lib.hid (row_below hb HP2.out)
                          have HQ3 := Lib.hid (row_below hb HQ2.out)
                          clear c0 d0 c1 d1 c2 d2 c3 d3 c4 d4 c5 d5 c6 d6 c7 d7 c8 d8 c9 d9 c10 d10 c11 d11 c12 d12 c13 d13 c14 d14
                          have c0 := cell_row HP3.out 0
                          have d0 := cell_row HQ3.out 0
                          have c1 := cell_row HP3.out 1
                          have d1 := cell_row HQ3.out 1
                          have c2 := cell_row HP3.out 2
                          have d2 := cell_row HQ3.out 2
                          have c3 := cell_row HP3.out 3
                          have d3 := cell_row HQ3.out 3
                          have c4 := cell_row HP3.out 4
                          have d4 := cell_row HQ3.out 4
                          have c5 := cell_row HP3.out 5
                          have d5 := cell_row HQ3.out 5
                          have c6 := cell_row HP3.out 6
                          have d6 := cell_row HQ3.out 6
                          have c7 := cell_row HP3.out 7
                          have d7 := cell_row HQ3.out 7
                          have c8 := cell_row HP3.out 8
                          have d8 := cell_row HQ3.out 8
                          have c9 := cell_row HP3.out 9
                          have d9 := cell_row HQ3.out 9
                          have c10 := cell_row HP3.out 10
                          have d10 := cell_row HQ3.out 10
                          have c11 := cell_row HP3.out 11
                          have d11 := cell_row HQ3.out 11
                          have c12 := cell_row HP3.out 12
                          have d12 := cell_row HQ3.out 12
                          have c13 := cell_row HP3.out 13
                          have d13 := cell_row HQ3.out 13
                          have c14 := cell_row HP3.out 14
                          have d14 := cell_row HQ3.out 14
                          clear hb
                          go_wp2_with fail
                          refine (HC7.out _ HB3.out).mono ?_
                          rintro e w4 ⟨rfl, hb⟩
                          have HB4 := Lib.hid (HB3.out.trans (hb.mono HB3.out.size))
                          have HP4 := Lib.hid (row_below hb HP3.out)
                          have HQ4 := Lib.hid (row_below hb HQ3.out)
                          clear c0 d0 c1 d1 c2 d2 c3 d3 c4 d4 c5 d5 c6 d6 c7 d7 c8 d8 c9 d9 c10 d10 c11 d11 c12 d12 c13 d13 c14 d14
                          have c0 := cell_row HP4.out 0
                          have d0 := cell_row HQ4.out 0
                          have c1 := cell_row HP4.out 1
                          have d1 := cell_row HQ4.out 1
                          have c2 := cell_row HP4.out 2
                          have d2 := cell_row HQ4.out 2
                          have c3 := cell_row HP4.out 3
                          have d3 := cell_row HQ4.out 3
                          have c4 := cell_row HP4.out 4
                          have d4 := cell_row HQ4.out 4
                          have c5 := cell_row HP4.out 5
                          have d5 := cell_row HQ4.out 5
                          have c6 := cell_row HP4.out 6
                          have d6 := cell_row HQ4.out 6
                          have c7 := cell_row HP4.out 7
                          have d7 := cell_row HQ4.out 7
                          have c8 := cell_row HP4.out 8
                          have d8 := cell_row HQ4.out 8
                          have c9 := cell_row HP4.out 9
                          have d9 := cell_row HQ4.out 9
                          have c10 := cell_row HP4.out 10
                          have d10 := cell_row HQ4.out 10
                          have c11 := cell_row HP4.out 11
                          have d11 := cell_row HQ4.out 11
                          have c12 := cell_row HP4.out 12
                          have d12 := cell_row HQ4.out 12
                          have c13 := cell_row HP4.out 13
                          have d13 := cell_row HQ4.out 13
                          have c14 := cell_row HP4.out 14
                          have d14 := cell_row HQ4.out 14
                          clear hb
                          go_wp2_with fail
                          refine (HC8.out _ HB4.out).mono ?_
                          rintro e w5 ⟨rfl, hb⟩
                          have HB5 := Lib.hid (HB4.out.trans (hb.mono HB4.out.size))
                          have HP5 := Lib.hid (row_below hb HP4.out)
                          have HQ5 := Lib.hid (row_below hb HQ4.out)
                          clear c0 d0 c1 d1 c2 d2 c3 d3 c4 d4 c5 d5 c6 d6 c7 d7 c8 d8 c9 d9 c10 d10 c11 d11 c12 d12 c13 d13 c14 d14
                          have c0 := cell_row HP5.out 0
                          have d0 := cell_row HQ5.out 0
                          have c1 := cell_row HP5.out 1
                          have d1 := cell_row HQ5.out 1
                          have c2 := cell_row HP5.out 2
                          have d2 := cell_row HQ5.out 2
                          have c3 := cell_row HP5.out 3
                          have d3 := cell_row HQ5.out 3
                          have c4 := cell_row HP5.out 4
                          have d4 := cell_row HQ5.out 4
                          have c5 := cell_row HP5.out 5
                          have d5 := cell_row HQ5.out 5
                          have c6 := cell_row HP5.out 6
                          have d6 := cell_row HQ5.out 6
                          have c7 := cell_row HP5.out 7
                          have d7 := cell_row HQ5.out 7
                          have c8 := cell_row HP5.out 8
                          have d8 := cell_row HQ5.out 8
                          have c9 := cell_row HP5.out 9
                          have d9 := cell_row HQ5.out 9
                          have c10 := cell_row HP5.out 10
                          have d10 := cell_row HQ5.out 10
                          have c11 := cell_row HP5.out 11
                          have d11 := cell_row HQ5.out 11
                          have c12 := cell_row HP5.out 12
                          have d12 := cell_row HQ5.out 12
                          have c13 := cell_row HP5.out 13
                          have d13 := cell_row HQ5.out 13
                          have c14 := cell_row HP5.out 14
                          have d14 := cell_row HQ5.out 14
                          clear hb
                          go_wp2_with fail
                          refine (HC9.out _ HB5.out).mono ?_
                          rintro e w6 ⟨rfl, hb⟩
                          have HB6 := Lib.hid (HB5.out.trans (hb.mono HB5.out.size))
                          have HP6 := Lib.hid (row_below hb HP5.out)
                          have HQ6 := Lib.hid (row_below hb HQ5.out)
                          clear c0 d0 c1 d1 c2 d2 c3 d3 c4 d4 c5 d5 c6 d6 c7 d7 c8 d8 c9 d9 c10 d10 c11 d11 c12 d12 c13 d13 c14 d14
                          have c0 := cell_row HP6.out 0
                          have d0 := cell_row HQ6.out 0
                          have c1 := cell_row HP6.out 1
                          have d1 := cell_row HQ6.out 1
                          have c2 := cell_row HP6.out 2
                          have d2 := cell_row HQ6.out 2
                          have c3 := cell_row HP6.out 3
                          have d3 := cell_row HQ6.out 3
                          have c4 := cell_row HP6.out 4
                          have d4 := cell_row HQ6.out 4
                          have c5 := cell_row HP6.out 5
                          have d5 := cell_row HQ6.out 5
                          have c6 := cell_row HP6.out 6
                          have d6 := cell_row HQ6.out 6
                          have c7 := cell_row HP6.out 7
                          have d7 := cell_row HQ6.out 7
                          have c8 := cell_row HP6.out 8
                          have d8 := cell_row HQ6.out 8
                          have c9 := cell_row HP6.out 9
                          have d9 := cell_row HQ6.out 9
                          have c10 := cell_row HP6.out 10
                          have d10 := cell_row HQ6.out 10
                          have c11 := cell_row HP6.out 11
                          have d11 := cell_row HQ6.out 11
                          have c12 := cell_row HP6.out 12
                          have d12 := cell_row HQ6.out 12
                          have c13 := cell_row HP6.out 13
                          have d13 := cell_row HQ6.out 13
                          have c14 := cell_row HP6.out 14
                          have d14 := cell_row HQ6.out 14
                          clear hb
                          go_wp2_with fail
                          refine (HC10.out _ HB6.out).mono ?_
                          rintro e w7 ⟨rfl, hb⟩
                          have HB7 := Lib.hid (HB6.out.trans (hb.mono HB6.out.size))
                          have HP7 := Lib.hid (row_below hb HP6.out)
                          have HQ7 := Lib.hid (row_below hb HQ6.out)
                          clear c0 d0 c1 d1 c2 d2 c3 d3 c4 d4 c5 d5 c6 d6 c7 d7 c8 d8 c9 d9 c10 d10 c11 d11 c12 d12 c13 d13 c14 d14
                          have c0 := cell_row HP7.out 0
                          have d0 := cell_row HQ7.out 0
                          have c1 := cell_row HP7.out 1
                          have d1 := cell_row HQ7.out 1
                          have c2 := cell_row HP7.out 2
                          have d2 := cell_row HQ7.out 2
                          have c3 := cell_row HP7.out 3
                          have d3 := cell_row HQ7.out 3
                          have c4 := cell_row HP7.out 4
                          have d4 := cell_row HQ7.out 4
                          have c5 := cell_row HP7.out 5
                          have d5 := cell_row HQ7.out 5
                          have c6 := cell_row HP7.out 6
                          have d6 := cell_row HQ7.out 6
                          have c7 := cell_row HP7.out 7
                          have d7 := cell_row HQ7.out 7
                          have c8 := cell_row HP7.out 8
                          have d8 := cell_row HQ7.out 8
                          have c9 := cell_row HP7.out 9
                          have d9 := cell_row HQ7.out 9
                          have c10 := cell_row HP7.out 10
                          have d10 := cell_row HQ7.out 10
                          have c11 := cell_row HP7.out 11
                          have d11 := cell_row HQ7.out 11
                          have c12 := cell_row HP7.out 12
                          have d12 := cell_row HQ7.out 12
                          have c13 := cell_row HP7.out 13
                          have d13 := cell_row HQ7.out 13
                          have c14 := cell_row HP7.out 14
                          have d14 := cell_row HQ7.out 14
                          clear hb
                          go_wp2_with fail
                          refine (HC11.out _ HB7.out).mono ?_
                          rintro e w8 ⟨rfl, hb⟩
                          have HB8 := Lib.hid (HB7.out.trans (hb.mono HB7.out.size))
                          have HP8 := Lib.hid (row_below hb HP7.out)
                          have HQ8 := Lib.hid (row_below hb HQ7.out)
                          clear c0 d0 c1 d1 c2 d2 c3 d3 c4 d4 c5 d5 c6 d6 c7 d7 c8 d8 c9 d9 c10 d10 c11 d11 c12 d12 c13 d13 c14 d14
                          have c0 := cell_row HP8.out 0
                          have d0 := cell_row HQ8.out 0
                          have c1 := cell_row HP8.out 1
                          have d1 := cell_row HQ8.out 1
                          have c2 := cell_row HP8.out 2
                          have d2 := cell_row HQ8.out 2
                          have c3 := cell_row HP8.out 3
                          have d3 := cell_row HQ8.out 3
                          have c4 := cell_row HP8.out 4
                          have d4 := cell_row HQ8.out 4
                          have c5 := cell_row HP8.out 5
                          have d5 := cell_row HQ8.out 5
                          have c6 := cell_row HP8.out 6
                          have d6 := cell_row HQ8.out 6
                          have c7 := cell_row HP8.out 7
                          have d7 := cell_row HQ8.out 7
                          have c8 := cell_row HP8.out 8
                          have d8 := cell_row HQ8.out 8
                          have c9 := cell_row HP8.out 9
                          have d9 := cell_row HQ8.out 9
                          have c10 := cell_row HP8.out 10
                          have d10 := cell_row HQ8.out 10
                          have c11 := cell_row HP8.out 11
                          have d11 := cell_row HQ8.out 11
                          have c12 := cell_row HP8.out 12
                          have d12 := cell_row HQ8.out 12
                          have c13 := cell_row HP8.out 13
                          have d13 := cell_row HQ8.out 13
                          have c14 := cell_row HP8.out 14
                          have d14 := cell_row HQ8.out 14
                          clear hb
                          go_wp2_with fail
                          go_ret
                          exact ⟨by rw [HNE.out]; rfl, HB8.out⟩
                      · have HNE : Hid (sameM m n r s = false) := Lib.hid (by simp [sameM, h10])
                        rw [decide_eq_false h10] at HC10
                        clear h10
                        go_enter Tryz.func6, Tryz.ntmps6
                        go_wp2_with fail
                        refine (HC4.out _ HB0.out).mono ?_
                        rintro e w1 ⟨rfl, hb⟩
                        have HB1 := Lib.hid (HB0.out.trans (hb.mono HB0.out.size))
                        have HP1 := Lib.hid (row_below hb HP0.out)
                        have HQ1 := Lib.hid (row_below hb HQ0.out)
                        have c0 := cell_row HP1.out 0
                        have d0 := cell_row HQ1.out 0
                        have c1 := cell_row HP1.out 1
                        have d1 := cell_row HQ1.out 1
                        have c2 := cell_row HP1.out 2
                        have d2 := cell_row HQ1.out 2
                        have c3 := cell_row HP1.out 3
                        have d3 := cell_row HQ1.out 3
                        have c4 := cell_row HP1.out 4
                        have d4 := cell_row HQ1.out 4
                        have c5 := cell_row HP1.out 5
                        have d5 := cell_row HQ1.out 5
                        have c6 := cell_row HP1.out 6
                        have d6 := cell_row HQ1.out 6
                        have c7 := cell_row HP1.out 7
                        have d7 := cell_row HQ1.out 7
                        have c8 := cell_row HP1.out 8
                        have d8 := cell_row HQ1.out 8
                        have c9 := cell_row HP1.out 9
                        have d9 := cell_row HQ1.out 9
                        have c10 := cell_row HP1.out 10
                        have d10 := cell_row HQ1.out 10
                        have c11 := cell_row HP1.out 11
                        have d11 := cell_row HQ1.out 11
                        have c12 := cell_row HP1.out 12
                        have d12 := cell_row HQ1.out 12
                        have c13 := cell_row HP1.out 13
                        have d13 := cell_row HQ1.out 13
                        have c14 := cell_row HP1.out 14
                        have d14 := cell_row HQ1.out 14
                        clear hb
                        go_wp2_with fail
                        refine (HC5.out _ HB1.out).mono ?_
                        rintro e w2 ⟨rfl, hb⟩
                        have HB2 := Lib.hid (HB1.out.trans (hb.mono HB1.out.size))
                        have HP2 := Lib.hid (row_below hb HP1.out)
                        have HQ2 := Lib.hid (row_below hb HQ1.out)
                        clear c0 d0 c1 d1 c2 d2 c3 d3 c4 d4 c5 d5 c6 d6 c7 d7 c8 d8 c9 d9 c10 d10 c11 d11 c12 d12 c13 d13 c14 d14
                        have c0 := cell_row HP2.out 0
                        have d0 := cell_row HQ2.out 0
                        have c1 := cell_row HP2.out 1
                        have d1 := cell_row HQ2.out 1
                        have c2 := cell_row HP2.out 2
                        have d2 := cell_row HQ2.out 2
                        have c3 := cell_row HP2.out 3
                        have d3 := cell_row HQ2.out 3
                        have c4 := cell_row HP2.out 4
                        have d4 := cell_row HQ2.out 4
                        have c5 := cell_row HP2.out 5
                        have d5 := cell_row HQ2.out 5
                        have c6 := cell_row HP2.out 6
                        have d6 := cell_row HQ2.out 6
                        have c7 := cell_row HP2.out 7
                        have d7 := cell_row HQ2.out 7
                        have c8 := cell_row HP2.out 8
                        have d8 := cell_row HQ2.out 8
                        have c9 := cell_row HP2.out 9
                        have d9 := cell_row HQ2.out 9
                        have c10 := cell_row HP2.out 10
                        have d10 := cell_row HQ2.out 10
                        have c11 := cell_row HP2.out 11
                        have d11 := cell_row HQ2.out 11
                        have c12 := cell_row HP2.out 12
                        have d12 := cell_row HQ2.out 12
                        have c13 := cell_row HP2.out 13
                        have d13 := cell_row HQ2.out 13
                        have c14 := cell_row HP2.out 14
                        have d14 := cell_row HQ2.out 14
                        clear hb
                        go_wp2_with fail
                        refine (HC6.out _ HB2.out).mono ?_
                        rintro e w3 ⟨rfl, hb⟩
                        have HB3 := Lib.hid (HB2.out.trans (hb.mono HB2.out.size))
                        have HP3 := Lib.hid (row_below hb HP2.out)
                        have HQ3 := Lib.hid (row_below hb HQ2.out)
                        clear c0 d0 c1 d1 c2 d2 c3 d3 c4 d4 c5 d5 c6 d6 c7 d7 c8 d8 c9 d9 c10 d10 c11 d11 c12 d12 c13 d13 c14 d14
                        have c0 := cell_row HP3.out 0
                        have d0 := cell_row HQ3.out 0
                        have c1 := cell_row HP3.out 1
                        have d1 := cell_row HQ3.out 1
                        have c2 := cell_row HP3.out 2
                        have d2 := cell_row HQ3.out 2
                        have c3 := cell_row HP3.out 3
                        have d3 := cell_row HQ3.out 3
                        have c4 := cell_row HP3.out 4
                        have d4 := cell_row HQ3.out 4
                        have c5 := cell_row HP3.out 5
                        have d5 := cell_row HQ3.out 5
                        have c6 := cell_row HP3.out 6
                        have d6 := cell_row HQ3.out 6
                        have c7 := cell_row HP3.out 7
                        have d7 := cell_row HQ3.out 7
                        have c8 := cell_row HP3.out 8
                        have d8 := cell_row HQ3.out 8
                        have c9 := cell_row HP3.out 9
                        have d9 := cell_row HQ3.out 9
                        have c10 := cell_row HP3.out 10
                        have d10 := cell_row HQ3.out 10
                        have c11 := cell_row HP3.out 11
                        have d11 := cell_row HQ3.out 11
                        have c12 := cell_row HP3.out 12
                        have d12 := cell_row HQ3.out 12
                        have c13 := cell_row HP3.out 13
                        have d13 := cell_row HQ3.out 13
                        have c14 := cell_row HP3.out 14
                        have d14 := cell_row HQ3.out 14
                        clear hb
                        go_wp2_with fail
                        refine (HC7.out _ HB3.out).mono ?_
                        rintro e w4 ⟨rfl, hb⟩
                        have HB4 := Lib.hid (HB3.out.trans (hb.mono HB3.out.size))
                        have HP4 := Lib.hid (row_below hb HP3.out)
                        have HQ4 := Lib.hid (row_below hb HQ3.out)
                        clear c0 d0 c1 d1 c2 d2 c3 d3 c4 d4 c5 d5 c6 d6 c7 d7 c8 d8 c9 d9 c10 d10 c11 d11 c12 d12 c13 d13 c14 d14
                        have c0 := cell_row HP4.out 0
                        have d0 := cell_row HQ4.out 0
                        have c1 := cell_row HP4.out 1
                        have d1 := cell_row HQ4.out 1
                        have c2 := cell_row HP4.out 2
                        have d2 := cell_row HQ4.out 2
                        have c3 := cell_row HP4.out 3
                        have d3 := cell_row HQ4.out 3
                        have c4 := cell_row HP4.out 4
                        have d4 := cell_row HQ4.out 4
                        have c5 := cell_row HP4.out 5
                        have d5 := cell_row HQ4.out 5
                        have c6 := cell_row HP4.out 6
                        have d6 := cell_row HQ4.out 6
                        have c7 := cell_row HP4.out 7
                        have d7 := cell_row HQ4.out 7
                        have c8 := cell_row HP4.out 8
                        have d8 := cell_row HQ4.out 8
                        have c9 := cell_row HP4.out 9
                        have d9 := cell_row HQ4.out 9
                        have c10 := cell_row HP4.out 10
                        have d10 := cell_row HQ4.out 10
                        have c11 := cell_row HP4.out 11
                        have d11 := cell_row HQ4.out 11
                        have c12 := cell_row HP4.out 12
                        have d12 := cell_row HQ4.out 12
                        have c13 := cell_row HP4.out 13
                        have d13 := cell_row HQ4.out 13
                        have c14 := cell_row HP4.out 14
                        have d14 := cell_row HQ4.out 14
                        clear hb
                        go_wp2_with fail
                        refine (HC8.out _ HB4.out).mono ?_
                        rintro e w5 ⟨rfl, hb⟩
                        have HB5 := Lib.hid (HB4.out.trans (hb.mono HB4.out.size))
                        have HP5 := Lib.hid (row_below hb HP4.out)
                        have HQ5 := Lib.hid (row_below hb HQ4.out)
                        clear c0 d0 c1 d1 c2 d2 c3 d3 c4 d4 c5 d5 c6 d6 c7 d7 c8 d8 c9 d9 c10 d10 c11 d11 c12 d12 c13 d13 c14 d14
                        have c0 := cell_row HP5.out 0
                        have d0 := cell_row HQ5.out 0
                        have c1 := cell_row HP5.out 1
                        have d1 := cell_row HQ5.out 1
                        have c2 := cell_row HP5.out 2
                        have d2 := cell_row HQ5.out 2
                        have c3 := cell_row HP5.out 3
                        have d3 := cell_row HQ5.out 3
                        have c4 := cell_row HP5.out 4
                        have d4 := cell_row HQ5.out 4
                        have c5 := cell_row HP5.out 5
                        have d5 := cell_row HQ5.out 5
                        have c6 := cell_row HP5.out 6
                        have d6 := cell_row HQ5.out 6
                        have c7 := cell_row HP5.out 7
                        have d7 := cell_row HQ5.out 7
                        have c8 := cell_row HP5.out 8
                        have d8 := cell_row HQ5.out 8
                        have c9 := cell_row HP5.out 9
                        have d9 := cell_row HQ5.out 9
                        have c10 := cell_row HP5.out 10
                        have d10 := cell_row HQ5.out 10
                        have c11 := cell_row HP5.out 11
                        have d11 := cell_row HQ5.out 11
                        have c12 := cell_row HP5.out 12
                        have d12 := cell_row HQ5.out 12
                        have c13 := cell_row HP5.out 13
                        have d13 := cell_row HQ5.out 13
                        have c14 := cell_row HP5.out 14
                        have d14 := cell_row HQ5.out 14
                        clear hb
                        go_wp2_with fail
                        refine (HC9.out _ HB5.out).mono ?_
                        rintro e w6 ⟨rfl, hb⟩
                        have HB6 := Lib.hid (HB5.out.trans (hb.mono HB5.out.size))
                        have HP6 := Lib.hid (row_below hb HP5.out)
                        have HQ6 := Lib.hid (row_below hb HQ5.out)
                        clear c0 d0 c1 d1 c2 d2 c3 d3 c4 d4 c5 d5 c6 d6 c7 d7 c8 d8 c9 d9 c10 d10 c11 d11 c12 d12 c13 d13 c14 d14
                        have c0 := cell_row HP6.out 0
                        have d0 := cell_row HQ6.out 0
                        have c1 := cell_row HP6.out 1
                        have d1 := cell_row HQ6.out 1
                        have c2 := cell_row HP6.out 2
                        have d2 := cell_row HQ6.out 2
                        have c3 := cell_row HP6.out 3
                        have d3 := cell_row HQ6.out 3
                        have c4 := cell_row HP6.out 4
                        have d4 := cell_row HQ6.out 4
                        have c5 := cell_row HP6.out 5
                        have d5 := cell_row HQ6.out 5
                        have c6 := cell_row HP6.out 6
                        have d6 := cell_row HQ6.out 6
                        have c7 := cell_row HP6.out 7
                        have d7 := cell_row HQ6.out 7
                        have c8 := cell_row HP6.out 8
                        have d8 := cell_row HQ6.out 8
                        have c9 := cell_row HP6.out 9
                        have d9 := cell_row HQ6.out 9
                        have c10 := cell_row HP6.out 10
                        have d10 := cell_row HQ6.out 10
                        have c11 := cell_row HP6.out 11
                        have d11 := cell_row HQ6.out 11
                        have c12 := cell_row HP6.out 12
                        have d12 := cell_row HQ6.out 12
                        have c13 := cell_row HP6.out 13
                        have d13 := cell_row HQ6.out 13
                        have c14 := cell_row HP6.out 14
                        have d14 := cell_row HQ6.out 14
                        clear hb
                        go_wp2_with fail
                        refine (HC10.out _ HB6.out).mono ?_
                        rintro e w7 ⟨rfl, hb⟩
                        have HB7 := Lib.hid (HB6.out.trans (hb.mono HB6.out.size))
                        have HP7 := Lib.hid (row_below hb HP6.out)
                        have HQ7 := Lib.hid (row_below hb HQ6.out)
                        clear c0 d0 c1 d1 c2 d2 c3 d3 c4 d4 c5 d5 c6 d6 c7 d7 c8 d8 c9 d9 c10 d10 c11 d11 c12 d12 c13 d13 c14 d14
                        have c0 := cell_row HP7.out 0
                        have d0 := cell_row HQ7.out 0
                        have c1 := cell_row HP7.out 1
                        have d1 := cell_row HQ7.out 1
                        have c2 := cell_row HP7.out 2
                        have d2 := cell_row HQ7.out 2
                        have c3 := cell_row HP7.out 3
                        have d3 := cell_row HQ7.out 3
                        have c4 := cell_row HP7.out 4
                        have d4 := cell_row HQ7.out 4
                        have c5 := cell_row HP7.out 5
                        have d5 := cell_row HQ7.out 5
                        have c6 := cell_row HP7.out 6
                        have d6 := cell_row HQ7.out 6
                        have c7 := cell_row HP7.out 7
                        have d7 := cell_row HQ7.out 7
                        have c8 := cell_row HP7.out 8
                        have d8 := cell_row HQ7.out 8
                        have c9 := cell_row HP7.out 9
                        have d9 := cell_row HQ7.out 9
                        have c10 := cell_row HP7.out 10
                        have d10 := cell_row HQ7.out 10
                        have c11 := cell_row HP7.out 11
                        have d11 := cell_row HQ7.out 11
                        have c12 := cell_row HP7.out 12
                        have d12 := cell_row HQ7.out 12
                        have c13 := cell_row HP7.out 13
                        have d13 := cell_row HQ7.out 13
                        have c14 := cell_row HP7.out 14
                        have d14 := cell_row HQ7.out 14
                        clear hb
                        go_wp2_with fail
                        go_ret
                        exact ⟨by rw [HNE.out]; rfl, HB7.out⟩
                    · have HNE : Hid (sameM m n r s = false) := Lib.hid (by simp [sameM, h9])
                      rw [decide_eq_false h9] at HC9
                      clear h9
                      go_enter Tryz.func6, Tryz.ntmps6
                      go_wp2_with fail
                      refine (HC4.out _ HB0.out).mono ?_
                      rintro e w1 ⟨rfl, hb⟩
                      have HB1 := Lib.hid (HB0.out.trans (hb.mono HB0.out.size))
                      have HP1 := Lib.hid (row_below hb HP0.out)
                      have HQ1 := Lib.hid (row_below hb HQ0.out)
                      have c0 := cell_row HP1.out 0
                      have d0 := cell_row HQ1.out 0
                      have c1 := cell_row HP1.out 1
                      have d1 := cell_row HQ1.out 1
                      have c2 := cell_row HP1.out 2
                      have d2 := cell_row HQ1.out 2
                      have c3 := cell_row HP1.out 3
                      have d3 := cell_row HQ1.out 3
                      have c4 := cell_row HP1.out 4
                      have d4 := cell_row HQ1.out 4
                      have c5 := cell_row HP1.out 5
                      have d5 := cell_row HQ1.out 5
                      have c6 := cell_row HP1.out 6
                      have d6 := cell_row HQ1.out 6
                      have c7 := cell_row HP1.out 7
                      have d7 := cell_row HQ1.out 7
                      have c8 := cell_row HP1.out 8
                      have d8 := cell_row HQ1.out 8
                      have c9 := cell_row HP1.out 9
                      have d9 := cell_row HQ1.out 9
                      have c10 := cell_row HP1.out 10
                      have d10 := cell_row HQ1.out 10
                      have c11 := cell_row HP1.out 11
                      have d11 := cell_row HQ1.out 11
                      have c12 := cell_row HP1.out 12
                      have d12 := cell_row HQ1.out 12
                      have c13 := cell_row HP1.out 13
                      have d13 := cell_row HQ1.out 13
                      have c14 := cell_row HP1.out 14
                      have d14 := cell_row HQ1.out 14
                      clear hb
                      go_wp2_with fail
                      refine (HC5.out _ HB1.out).mono ?_
                      rintro e w2 ⟨rfl, hb⟩
                      have HB2 := Lib.hid (HB1.out.trans (hb.mono HB1.out.size))
                      have HP2 := Lib.hid (row_below hb HP1.out)
                      have HQ2 := Lib.hid (row_below hb HQ1.out)
                      clear c0 d0 c1 d1 c2 d2 c3 d3 c4 d4 c5 d5 c6 d6 c7 d7 c8 d8 c9 d9 c10 d10 c11 d11 c12 d12 c13 d13 c14 d14
                      have c0 := cell_row HP2.out 0
                      have d0 := cell_row HQ2.out 0
                      have c1 := cell_row HP2.out 1
                      have d1 := cell_row HQ2.out 1
                      have c2 := cell_row HP2.out 2
                      have d2 := cell_row HQ2.out 2
                      have c3 := cell_row HP2.out 3
                      have d3 := cell_row HQ2.out 3
                      have c4 := cell_row HP2.out 4
                      have d4 := cell_row HQ2.out 4
                      have c5 := cell_row HP2.out 5
                      have d5 := cell_row HQ2.out 5
                      have c6 := cell_row HP2.out 6
                      have d6 := cell_row HQ2.out 6
                      have c7 := cell_row HP2.out 7
                      have d7 := cell_row HQ2.out 7
                      have c8 := cell_row HP2.out 8
                      have d8 := cell_row HQ2.out 8
                      have c9 := cell_row HP2.out 9
                      have d9 := cell_row HQ2.out 9
                      have c10 := cell_row HP2.out 10
                      have d10 := cell_row HQ2.out 10
                      have c11 := cell_row HP2.out 11
                      have d11 := cell_row HQ2.out 11
                      have c12 := cell_row HP2.out 12
                      have d12 := cell_row HQ2.out 12
                      have c13 := cell_row HP2.out 13
                      have d13 := cell_row HQ2.out 13
                      have c14 := cell_row HP2.out 14
                      have d14 := cell_row HQ2.out 14
                      clear hb
                      go_wp2_with fail
                      refine (HC6.out _ HB2.out).mono ?_
                      rintro e w3 ⟨rfl, hb⟩
                      have HB3 := Lib.hid (HB2.out.trans (hb.mono HB2.out.size))
                      have HP3 := Lib.hid (row_below hb HP2.out)
                      have HQ3 := Lib.hid (row_below hb HQ2.out)
                      clear c0 d0 c1 d1 c2 d2 c3 d3 c4 d4 c5 d5 c6 d6 c7 d7 c8 d8 c9 d9 c10 d10 c11 d11 c12 d12 c13 d13 c14 d14
                      have c0 := cell_row HP3.out 0
                      have d0 := cell_row HQ3.out 0
                      have c1 := cell_row HP3.out 1
                      have d1 := cell_row HQ3.out 1
                      have c2 := cell_row HP3.out 2
                      have d2 := cell_row HQ3.out 2
                      have c3 := cell_row HP3.out 3
                      have d3 := cell_row HQ3.out 3
                      have c4 := cell_row HP3.out 4
                      have d4 := cell_row HQ3.out 4
                      have c5 := cell_row HP3.out 5
                      have d5 := cell_row HQ3.out 5
                      have c6 := cell_row HP3.out 6
                      have d6 := cell_row HQ3.out 6
                      have c7 := cell_row HP3.out 7
                      have d7 := cell_row HQ3.out 7
                      have c8 := cell_row HP3.out 8
                      have d8 := cell_row HQ3.out 8
                      have c9 := cell_row HP3.out 9
                      have d9 := cell_row HQ3.out 9
                      have c10 := cell_row HP3.out 10
                      have d10 := cell_row HQ3.out 10
                      have c11 := cell_row HP3.out 11
                      have d11 := cell_row HQ3.out 11
                      have c12 := cell_row HP3.out 12
                      have d12 := cell_row HQ3.out 12
                      have c13 := cell_row HP3.out 13
                      have d13 := cell_row HQ3.out 13
                      have c14 := cell_row HP3.out 14
                      have d14 := cell_row HQ3.out 14
                      clear hb
                      go_wp2_with fail
                      refine (HC7.out _ HB3.out).mono ?_
                      rintro e w4 ⟨rfl, hb⟩
                      have HB4 := Lib.hid (HB3.out.trans (hb.mono HB3.out.size))
                      have HP4 := Lib.hid (row_below hb HP3.out)
                      have HQ4 := Lib.hid (row_below hb HQ3.out)
                      clear c0 d0 c1 d1 c2 d2 c3 d3 c4 d4 c5 d5 c6 d6 c7 d7 c8 d8 c9 d9 c10 d10 c11 d11 c12 d12 c13 d13 c14 d14
                      have c0 := cell_row HP4.out 0
                      have d0 := cell_row HQ4.out 0
                      have c1 := cell_row HP4.out 1
                      have d1 := cell_row HQ4.out 1
                      have c2 := cell_row HP4.out 2
                      have d2 := cell_row HQ4.out 2
                      have c3 := cell_row HP4.out 3
                      have d3 := cell_row HQ4.out 3
                      have c4 := cell_row HP4.out 4
                      have d4 := cell_row HQ4.out 4
                      have c5 := cell_row HP4.out 5
                      have d5 := cell_row HQ4.out 5
                      have c6 := cell_row HP4.out 6
                      have d6 := cell_row HQ4.out 6
                      have c7 := cell_row HP4.out 7
                      have d7 := cell_row HQ4.out 7
                      have c8 := cell_row HP4.out 8
                      have d8 := cell_row HQ4.out 8
                      have c9 := cell_row HP4.out 9
                      have d9 := cell_row HQ4.out 9
                      have c10 := cell_row HP4.out 10
                      have d10 := cell_row HQ4.out 10
                      have c11 := cell_row HP4.out 11
                      have d11 := cell_row HQ4.out 11
                      have c12 := cell_row HP4.out 12
                      have d12 := cell_row HQ4.out 12
                      have c13 := cell_row HP4.out 13
                      have d13 := cell_row HQ4.out 13
                      have c14 := cell_row HP4.out 14
                      have d14 := cell_row HQ4.out 14
                      clear hb
                      go_wp2_with fail
                      refine (HC8.out _ HB4.out).mono ?_
                      rintro e w5 ⟨rfl, hb⟩
                      have HB5 := Lib.hid (HB4.out.trans (hb.mono HB4.out.size))
                      have HP5 := Lib.hid (row_below hb HP4.out)
                      have HQ5 := Lib.hid (row_below hb HQ4.out)
                      clear c0 d0 c1 d1 c2 d2 c3 d3 c4 d4 c5 d5 c6 d6 c7 d7 c8 d8 c9 d9 c10 d10 c11 d11 c12 d12 c13 d13 c14 d14
                      have c0 := cell_row HP5.out 0
                      have d0 := cell_row HQ5.out 0
                      have c1 := cell_row HP5.out 1
                      have d1 := cell_row HQ5.out 1
                      have c2 := cell_row HP5.out 2
                      have d2 := cell_row HQ5.out 2
                      have c3 := cell_row HP5.out 3
                      have d3 := cell_row HQ5.out 3
                      have c4 := cell_row HP5.out 4
                      have d4 := cell_row HQ5.out 4
                      have c5 := cell_row HP5.out 5
                      have d5 := cell_row HQ5.out 5
                      have c6 := cell_row HP5.out 6
                      have d6 := cell_row HQ5.out 6
                      have c7 := cell_row HP5.out 7
                      have d7 := cell_row HQ5.out 7
                      have c8 := cell_row HP5.out 8
                      have d8 := cell_row HQ5.out 8
                      have c9 := cell_row HP5.out 9
                      have d9 := cell_row HQ5.out 9
                      have c10 := cell_row HP5.out 10
                      have d10 := cell_row HQ5.out 10
                      have c11 := cell_row HP5.out 11
                      have d11 := cell_row HQ5.out 11
                      have c12 := cell_row HP5.out 12
                      have d12 := cell_row HQ5.out 12
                      have c13 := cell_row HP5.out 13
                      have d13 := cell_row HQ5.out 13
                      have c14 := cell_row HP5.out 14
                      have d14 := cell_row HQ5.out 14
                      clear hb
                      go_wp2_with fail
                      refine (HC9.out _ HB5.out).mono ?_
                      rintro e w6 ⟨rfl, hb⟩
                      have HB6 := Lib.hid (HB5.out.trans (hb.mono HB5.out.size))
                      have HP6 := Lib.hid (row_below hb HP5.out)
                      have HQ6 := Lib.hid (row_below hb HQ5.out)
                      clear c0 d0 c1 d1 c2 d2 c3 d3 c4 d4 c5 d5 c6 d6 c7 d7 c8 d8 c9 d9 c10 d10 c11 d11 c12 d12 c13 d13 c14 d14
                      have c0 := cell_row HP6.out 0
                      have d0 := cell_row HQ6.out 0
                      have c1 := cell_row HP6.out 1
                      have d1 := cell_row HQ6.out 1
                      have c2 := cell_row HP6.out 2
                      have d2 := cell_row HQ6.out 2
                      have c3 := cell_row HP6.out 3
                      have d3 := cell_row HQ6.out 3
                      have c4 := cell_row HP6.out 4
                      have d4 := cell_row HQ6.out 4
                      have c5 := cell_row HP6.out 5
                      have d5 := cell_row HQ6.out 5
                      have c6 := cell_row HP6.out 6
                      have d6 := cell_row HQ6.out 6
                      have c7 := cell_row HP6.out 7
                      have d7 := cell_row HQ6.out 7
                      have c8 := cell_row HP6.out 8
                      have d8 := cell_row HQ6.out 8
                      have c9 := cell_row HP6.out 9
                      have d9 := cell_row HQ6.out 9
                      have c10 := cell_row HP6.out 10
                      have d10 := cell_row HQ6.out 10
                      have c11 := cell_row HP6.out 11
                      have d11 := cell_row HQ6.out 11
                      have c12 := cell_row HP6.out 12
                      have d12 := cell_row HQ6.out 12
                      have c13 := cell_row HP6.out 13
                      have d13 := cell_row HQ6.out 13
                      have c14 := cell_row HP6.out 14
                      have d14 := cell_row HQ6.out 14
                      clear hb
                      go_wp2_with fail
                      go_ret
                      exact ⟨by rw [HNE.out]; rfl, HB6.out⟩
                  · have HNE : Hid (sameM m n r s = false) := Lib.hid (by simp [sameM, h8])
                    rw [decide_eq_false h8] at HC8
                    clear h8
                    go_enter Tryz.func6, Tryz.ntmps6
                    go_wp2_with fail
                    refine (HC4.out _ HB0.out).mono ?_
                    rintro e w1 ⟨rfl, hb⟩
                    have HB1 := Lib.hid (HB0.out.trans (hb.mono HB0.out.size))
                    have HP1 := Lib.hid (row_below hb HP0.out)
                    have HQ1 := Lib.hid (row_below hb HQ0.out)
                    have c0 := cell_row HP1.out 0
                    have d0 := cell_row HQ1.out 0
                    have c1 := cell_row HP1.out 1
                    have d1 := cell_row HQ1.out 1
                    have c2 := cell_row HP1.out 2
                    have d2 := cell_row HQ1.out 2
                    have c3 := cell_row HP1.out 3
                    have d3 := cell_row HQ1.out 3
                    have c4 := cell_row HP1.out 4
                    have d4 := cell_row HQ1.out 4
                    have c5 := cell_row HP1.out 5
                    have d5 := cell_row HQ1.out 5
                    have c6 := cell_row HP1.out 6
                    have d6 := cell_row HQ1.out 6
                    have c7 := cell_row HP1.out 7
                    have d7 := cell_row HQ1.out 7
                    have c8 := cell_row HP1.out 8
                    have d8 := cell_row HQ1.out 8
                    have c9 := cell_row HP1.out 9
                    have d9 := cell_row HQ1.out 9
                    have c10 := cell_row HP1.out 10
                    have d10 := cell_row HQ1.out 10
                    have c11 := cell_row HP1.out 11
                    have d11 := cell_row HQ1.out 11
                    have c12 := cell_row HP1.out 12
                    have d12 := cell_row HQ1.out 12
                    have c13 := cell_row HP1.out 13
                    have d13 := cell_row HQ1.out 13
                    have c14 := cell_row HP1.out 14
                    have d14 := cell_row HQ1.out 14
                    clear hb
                    go_wp2_with fail
                    refine (HC5.out _ HB1.out).mono ?_
                    rintro e w2 ⟨rfl, hb⟩
                    have HB2 := Lib.hid (HB1.out.trans (hb.mono HB1.out.size))
                    have HP2 := Lib.hid (row_below hb HP1.out)
                    have HQ2 := Lib.hid (row_below hb HQ1.out)
                    clear c0 d0 c1 d1 c2 d2 c3 d3 c4 d4 c5 d5 c6 d6 c7 d7 c8 d8 c9 d9 c10 d10 c11 d11 c12 d12 c13 d13 c14 d14
                    have c0 := cell_row HP2.out 0
                    have d0 := cell_row HQ2.out 0
                    have c1 := cell_row HP2.out 1
                    have d1 := cell_row HQ2.out 1
                    have c2 := cell_row HP2.out 2
                    have d2 := cell_row HQ2.out 2
                    have c3 := cell_row HP2.out 3
                    have d3 := cell_row HQ2.out 3
                    have c4 := cell_row HP2.out 4
                    have d4 := cell_row HQ2.out 4
                    have c5 := cell_row HP2.out 5
                    have d5 := cell_row HQ2.out 5
                    have c6 := cell_row HP2.out 6
                    have d6 := cell_row HQ2.out 6
                    have c7 := cell_row HP2.out 7
                    have d7 := cell_row HQ2.out 7
                    have c8 := cell_row HP2.out 8
                    have d8 := cell_row HQ2.out 8
                    have c9 := cell_row HP2.out 9
                    have d9 := cell_row HQ2.out 9
                    have c10 := cell_row HP2.out 10
                    have d10 := cell_row HQ2.out 10
                    have c11 := cell_row HP2.out 11
                    have d11 := cell_row HQ2.out 11
                    have c12 := cell_row HP2.out 12
                    have d12 := cell_row HQ2.out 12
                    have c13 := cell_row HP2.out 13
                    have d13 := cell_row HQ2.out 13
                    have c14 := cell_row HP2.out 14
                    have d14 := cell_row HQ2.out 14
                    clear hb
                    go_wp2_with fail
                    refine (HC6.out _ HB2.out).mono ?_
                    rintro e w3 ⟨rfl, hb⟩
                    have HB3 := Lib.hid (HB2.out.trans (hb.mono HB2.out.size))
                    have HP3 := Lib.hid (row_below hb HP2.out)
                    have HQ3 := Lib.hid (row_below hb HQ2.out)
                    clear c0 d0 c1 d1 c2 d2 c3 d3 c4 d4 c5 d5 c6 d6 c7 d7 c8 d8 c9 d9 c10 d10 c11 d11 c12 d12 c13 d13 c14 d14
                    have c0 := cell_row HP3.out 0
                    have d0 := cell_row HQ3.out 0
                    have c1 := cell_row HP3.out 1
                    have d1 := cell_row HQ3.out 1
                    have c2 := cell_row HP3.out 2
                    have d2 := cell_row HQ3.out 2
                    have c3 := cell_row HP3.out 3
                    have d3 := cell_row HQ3.out 3
                    have c4 := cell_row HP3.out 4
                    have d4 := cell_row HQ3.out 4
                    have c5 := cell_row HP3.out 5
                    have d5 := cell_row HQ3.out 5
                    have c6 := cell_row HP3.out 6
                    have d6 := cell_row HQ3.out 6
                    have c7 := cell_row HP3.out 7
                    have d7 := cell_row HQ3.out 7
                    have c8 := cell_row HP3.out 8
                    have d8 := cell_row HQ3.out 8
                    have c9 := cell_row HP3.out 9
                    have d9 := cell_row HQ3.out 9
                    have c10 := cell_row HP3.out 10
                    have d10 := cell_row HQ3.out 10
                    have c11 := cell_row HP3.out 11
                    have d11 := cell_row HQ3.out 11
                    have c12 := cell_row HP3.out 12
                    have d12 := cell_row HQ3.out 12
                    have c13 := cell_row HP3.out 13
                    have d13 := cell_row HQ3.out 13
                    have c14 := cell_row HP3.out 14
                    have d14 := cell_row HQ3.out 14
                    clear hb
                    go_wp2_with fail
                    refine (HC7.out _ HB3.out).mono ?_
                    rintro e w4 ⟨rfl, hb⟩
                    have HB4 := Lib.hid (HB3.out.trans (hb.mono HB3.out.size))
                    have HP4 := Lib.hid (row_below hb HP3.out)
                    have HQ4 := Lib.hid (row_below hb HQ3.out)
                    clear c0 d0 c1 d1 c2 d2 c3 d3 c4 d4 c5 d5 c6 d6 c7 d7 c8 d8 c9 d9 c10 d10 c11 d11 c12 d12 c13 d13 c14 d14
                    have c0 := cell_row HP4.out 0
                    have d0 := cell_row HQ4.out 0
                    have c1 := cell_row HP4.out 1
                    have d1 := cell_row HQ4.out 1
                    have c2 := cell_row HP4.out 2
                    have d2 := cell_row HQ4.out 2
                    have c3 := cell_row HP4.out 3
                    have d3 := cell_row HQ4.out 3
                    have c4 := cell_row HP4.out 4
                    have d4 := cell_row HQ4.out 4
                    have c5 := cell_row HP4.out 5
                    have d5 := cell_row HQ4.out 5
                    have c6 := cell_row HP4.out 6
                    have d6 := cell_row HQ4.out 6
                    have c7 := cell_row HP4.out 7
                    have d7 := cell_row HQ4.out 7
                    have c8 := cell_row HP4.out 8
                    have d8 := cell_row HQ4.out 8
                    have c9 := cell_row HP4.out 9
                    have d9 := cell_row HQ4.out 9
                    have c10 := cell_row HP4.out 10
                    have d10 := cell_row HQ4.out 10
                    have c11 := cell_row HP4.out 11
                    have d11 := cell_row HQ4.out 11
                    have c12 := cell_row HP4.out 12
                    have d12 := cell_row HQ4.out 12
                    have c13 := cell_row HP4.out 13
                    have d13 := cell_row HQ4.out 13
                    have c14 := cell_row HP4.out 14
                    have d14 := cell_row HQ4.out 14
                    clear hb
                    go_wp2_with fail
                    refine (HC8.out _ HB4.out).mono ?_
                    rintro e w5 ⟨rfl, hb⟩
                    have HB5 := Lib.hid (HB4.out.trans (hb.mono HB4.out.size))
                    have HP5 := Lib.hid (row_below hb HP4.out)
                    have HQ5 := Lib.hid (row_below hb HQ4.out)
                    clear c0 d0 c1 d1 c2 d2 c3 d3 c4 d4 c5 d5 c6 d6 c7 d7 c8 d8 c9 d9 c10 d10 c11 d11 c12 d12 c13 d13 c14 d14
                    have c0 := cell_row HP5.out 0
                    have d0 := cell_row HQ5.out 0
                    have c1 := cell_row HP5.out 1
                    have d1 := cell_row HQ5.out 1
                    have c2 := cell_row HP5.out 2
                    have d2 := cell_row HQ5.out 2
                    have c3 := cell_row HP5.out 3
                    have d3 := cell_row HQ5.out 3
                    have c4 := cell_row HP5.out 4
                    have d4 := cell_row HQ5.out 4
                    have c5 := cell_row HP5.out 5
                    have d5 := cell_row HQ5.out 5
                    have c6 := cell_row HP5.out 6
                    have d6 := cell_row HQ5.out 6
                    have c7 := cell_row HP5.out 7
                    have d7 := cell_row HQ5.out 7
                    have c8 := cell_row HP5.out 8
                    have d8 := cell_row HQ5.out 8
                    have c9 := cell_row HP5.out 9
                    have d9 := cell_row HQ5.out 9
                    have c10 := cell_row HP5.out 10
                    have d10 := cell_row HQ5.out 10
                    have c11 := cell_row HP5.out 11
                    have d11 := cell_row HQ5.out 11
                    have c12 := cell_row HP5.out 12
                    have d12 := cell_row HQ5.out 12
                    have c13 := cell_row HP5.out 13
                    have d13 := cell_row HQ5.out 13
                    have c14 := cell_row HP5.out 14
                    have d14 := cell_row HQ5.out 14
                    clear hb
                    go_wp2_with fail
                    go_ret
                    exact ⟨by rw [HNE.out]; rfl, HB5.out⟩
                · have HNE : Hid (sameM m n r s = false) := Lib.hid (by simp [sameM, h7])
                  rw [decide_eq_false h7] at HC7
                  clear h7
                  go_enter Tryz.func6, Tryz.ntmps6
                  go_wp2_with fail
                  refine (HC4.out _ HB0.out).mono ?_
                  rintro e w1 ⟨rfl, hb⟩
                  have HB1 := Lib.hid (HB0.out.trans (hb.mono HB0.out.size))
                  have HP1 := Lib.hid (row_below hb HP0.out)
                  have HQ1 := Lib.hid (row_below hb HQ0.out)
                  have c0 := cell_row HP1.out 0
                  have d0 := cell_row HQ1.out 0
                  have c1 := cell_row HP1.out 1
                  have d1 := cell_row HQ1.out 1
                  have c2 := cell_row HP1.out 2
                  have d2 := cell_row HQ1.out 2
                  have c3 := cell_row HP1.out 3
                  have d3 := cell_row HQ1.out 3
                  have c4 := cell_row HP1.out 4
                  have d4 := cell_row HQ1.out 4
                  have c5 := cell_row HP1.out 5
                  have d5 := cell_row HQ1.out 5
                  have c6 := cell_row HP1.out 6
                  have d6 := cell_row HQ1.out 6
                  have c7 := cell_row HP1.out 7
                  have d7 := cell_row HQ1.out 7
                  have c8 := cell_row HP1.out 8
                  have d8 := cell_row HQ1.out 8
                  have c9 := cell_row HP1.out 9
                  have d9 := cell_row HQ1.out 9
                  have c10 := cell_row HP1.out 10
                  have d10 := cell_row HQ1.out 10
                  have c11 := cell_row HP1.out 11
                  have d11 := cell_row HQ1.out 11
                  have c12 := cell_row HP1.out 12
                  have d12 := cell_row HQ1.out 12
                  have c13 := cell_row HP1.out 13
                  have d13 := cell_row HQ1.out 13
                  have c14 := cell_row HP1.out 14
                  have d14 := cell_row HQ1.out 14
                  clear hb
                  go_wp2_with fail
                  refine (HC5.out _ HB1.out).mono ?_
                  rintro e w2 ⟨rfl, hb⟩
                  have HB2 := Lib.hid (HB1.out.trans (hb.mono HB1.out.size))
                  have HP2 := Lib.hid (row_below hb HP1.out)
                  have HQ2 := Lib.hid (row_below hb HQ1.out)
                  clear c0 d0 c1 d1 c2 d2 c3 d3 c4 d4 c5 d5 c6 d6 c7 d7 c8 d8 c9 d9 c10 d10 c11 d11 c12 d12 c13 d13 c14 d14
                  have c0 := cell_row HP2.out 0
                  have d0 := cell_row HQ2.out 0
                  have c1 := cell_row HP2.out 1
                  have d1 := cell_row HQ2.out 1
                  have c2 := cell_row HP2.out 2
                  have d2 := cell_row HQ2.out 2
                  have c3 := cell_row HP2.out 3
                  have d3 := cell_row HQ2.out 3
                  have c4 := cell_row HP2.out 4
                  have d4 := cell_row HQ2.out 4
                  have c5 := cell_row HP2.out 5
                  have d5 := cell_row HQ2.out 5
                  have c6 := cell_row HP2.out 6
                  have d6 := cell_row HQ2.out 6
                  have c7 := cell_row HP2.out 7
                  have d7 := cell_row HQ2.out 7
                  have c8 := cell_row HP2.out 8
                  have d8 := cell_row HQ2.out 8
                  have c9 := cell_row HP2.out 9
                  have d9 := cell_row HQ2.out 9
                  have c10 := cell_row HP2.out 10
                  have d10 := cell_row HQ2.out 10
                  have c11 := cell_row HP2.out 11
                  have d11 := cell_row HQ2.out 11
                  have c12 := cell_row HP2.out 12
                  have d12 := cell_row HQ2.out 12
                  have c13 := cell_row HP2.out 13
                  have d13 := cell_row HQ2.out 13
                  have c14 := cell_row HP2.out 14
                  have d14 := cell_row HQ2.out 14
                  clear hb
                  go_wp2_with fail
                  refine (HC6.out _ HB2.out).mono ?_
                  rintro e w3 ⟨rfl, hb⟩
                  have HB3 := Lib.hid (HB2.out.trans (hb.mono HB2.out.size))
                  have HP3 := Lib.hid (row_below hb HP2.out)
                  have HQ3 := Lib.hid (row_below hb HQ2.out)
                  clear c0 d0 c1 d1 c2 d2 c3 d3 c4 d4 c5 d5 c6 d6 c7 d7 c8 d8 c9 d9 c10 d10 c11 d11 c12 d12 c13 d13 c14 d14
                  have c0 := cell_row HP3.out 0
                  have d0 := cell_row HQ3.out 0
                  have c1 := cell_row HP3.out 1
                  have d1 := cell_row HQ3.out 1
                  have c2 := cell_row HP3.out 2
                  have d2 := cell_row HQ3.out 2
                  have c3 := cell_row HP3.out 3
                  have d3 := cell_row HQ3.out 3
                  have c4 := cell_row HP3.out 4
                  have d4 := cell_row HQ3.out 4
                  have c5 := cell_row HP3.out 5
                  have d5 := cell_row HQ3.out 5
                  have c6 := cell_row HP3.out 6
                  have d6 := cell_row HQ3.out 6
                  have c7 := cell_row HP3.out 7
                  have d7 := cell_row HQ3.out 7
                  have c8 := cell_row HP3.out 8
                  have d8 := cell_row HQ3.out 8
                  have c9 := cell_row HP3.out 9
                  have d9 := cell_row HQ3.out 9
                  have c10 := cell_row HP3.out 10
                  have d10 := cell_row HQ3.out 10
                  have c11 := cell_row HP3.out 11
                  have d11 := cell_row HQ3.out 11
                  have c12 := cell_row HP3.out 12
                  have d12 := cell_row HQ3.out 12
                  have c13 := cell_row HP3.out 13
                  have d13 := cell_row HQ3.out 13
                  have c14 := cell_row HP3.out 14
                  have d14 := cell_row HQ3.out 14
                  clear hb
                  go_wp2_with fail
                  refine (HC7.out _ HB3.out).mono ?_
                  rintro e w4 ⟨rfl, hb⟩
                  have HB4 := Lib.hid (HB3.out.trans (hb.mono HB3.out.size))
                  have HP4 := Lib.hid (row_below hb HP3.out)
                  have HQ4 := Lib.hid (row_below hb HQ3.out)
                  clear c0 d0 c1 d1 c2 d2 c3 d3 c4 d4 c5 d5 c6 d6 c7 d7 c8 d8 c9 d9 c10 d10 c11 d11 c12 d12 c13 d13 c14 d14
                  have c0 := cell_row HP4.out 0
                  have d0 := cell_row HQ4.out 0
                  have c1 := cell_row HP4.out 1
                  have d1 := cell_row HQ4.out 1
                  have c2 := cell_row HP4.out 2
                  have d2 := cell_row HQ4.out 2
                  have c3 := cell_row HP4.out 3
                  have d3 := cell_row HQ4.out 3
                  have c4 := cell_row HP4.out 4
                  have d4 := cell_row HQ4.out 4
                  have c5 := cell_row HP4.out 5
                  have d5 := cell_row HQ4.out 5
                  have c6 := cell_row HP4.out 6
                  have d6 := cell_row HQ4.out 6
                  have c7 := cell_row HP4.out 7
                  have d7 := cell_row HQ4.out 7
                  have c8 := cell_row HP4.out 8
                  have d8 := cell_row HQ4.out 8
                  have c9 := cell_row HP4.out 9
                  have d9 := cell_row HQ4.out 9
                  have c10 := cell_row HP4.out 10
                  have d10 := cell_row HQ4.out 10
                  have c11 := cell_row HP4.out 11
                  have d11 := cell_row HQ4.out 11
                  have c12 := cell_row HP4.out 12
                  have d12 := cell_row HQ4.out 12
                  have c13 := cell_row HP4.out 13
                  have d13 := cell_row HQ4.out 13
                  have c14 := cell_row HP4.out 14
                  have d14 := cell_row HQ4.out 14
                  clear hb
                  go_wp2_with fail
                  go_ret
                  exact ⟨by rw [HNE.out]; rfl, HB4.out⟩
              · have HNE : Hid (sameM m n r s = false) := Lib.hid (by simp [sameM, h6])
                rw [decide_eq_false h6] at HC6
                clear h6
                go_enter Tryz.func6, Tryz.ntmps6
                go_wp2_with fail
                refine (HC4.out _ HB0.out).mono ?_
                rintro e w1 ⟨rfl, hb⟩
                have HB1 := Lib.hid (HB0.out.trans (hb.mono HB0.out.size))
                have HP1 := Lib.hid (row_below hb HP0.out)
                have HQ1 := Lib.hid (row_below hb HQ0.out)
                have c0 := cell_row HP1.out 0
                have d0 := cell_row HQ1.out 0
                have c1 := cell_row HP1.out 1
                have d1 := cell_row HQ1.out 1
                have c2 := cell_row HP1.out 2
                have d2 := cell_row HQ1.out 2
                have c3 := cell_row HP1.out 3
                have d3 := cell_row HQ1.out 3
                have c4 := cell_row HP1.out 4
                have d4 := cell_row HQ1.out 4
                have c5 := cell_row HP1.out 5
                have d5 := cell_row HQ1.out 5
                have c6 := cell_row HP1.out 6
                have d6 := cell_row HQ1.out 6
                have c7 := cell_row HP1.out 7
                have d7 := cell_row HQ1.out 7
                have c8 := cell_row HP1.out 8
                have d8 := cell_row HQ1.out 8
                have c9 := cell_row HP1.out 9
                have d9 := cell_row HQ1.out 9
                have c10 := cell_row HP1.out 10
                have d10 := cell_row HQ1.out 10
                have c11 := cell_row HP1.out 11
                have d11 := cell_row HQ1.out 11
                have c12 := cell_row HP1.out 12
                have d12 := cell_row HQ1.out 12
                have c13 := cell_row HP1.out 13
                have d13 := cell_row HQ1.out 13
                have c14 := cell_row HP1.out 14
                have d14 := cell_row HQ1.out 14
                clear hb
                go_wp2_with fail
                refine (HC5.out _ HB1.out).mono ?_
                rintro e w2 ⟨rfl, hb⟩
                have HB2 := Lib.hid (HB1.out.trans (hb.mono HB1.out.size))
                have HP2 := Lib.hid (row_below hb HP1.out)
                have HQ2 := Lib.hid (row_below hb HQ1.out)
                clear c0 d0 c1 d1 c2 d2 c3 d3 c4 d4 c5 d5 c6 d6 c7 d7 c8 d8 c9 d9 c10 d10 c11 d11 c12 d12 c13 d13 c14 d14
                have c0 := cell_row HP2.out 0
                have d0 := cell_row HQ2.out 0
                have c1 := cell_row HP2.out 1
                have d1 := cell_row HQ2.out 1
                have c2 := cell_row HP2.out 2
                have d2 := cell_row HQ2.out 2
                have c3 := cell_row HP2.out 3
                have d3 := cell_row HQ2.out 3
                have c4 := cell_row HP2.out 4
                have d4 := cell_row HQ2.out 4
                have c5 := cell_row HP2.out 5
                have d5 := cell_row HQ2.out 5
                have c6 := cell_row HP2.out 6
                have d6 := cell_row HQ2.out 6
                have c7 := cell_row HP2.out 7
                have d7 := cell_row HQ2.out 7
                have c8 := cell_row HP2.out 8
                have d8 := cell_row HQ2.out 8
                have c9 := cell_row HP2.out 9
                have d9 := cell_row HQ2.out 9
                have c10 := cell_row HP2.out 10
                have d10 := cell_row HQ2.out 10
                have c11 := cell_row HP2.out 11
                have d11 := cell_row HQ2.out 11
                have c12 := cell_row HP2.out 12
                have d12 := cell_row HQ2.out 12
                have c13 := cell_row HP2.out 13
                have d13 := cell_row HQ2.out 13
                have c14 := cell_row HP2.out 14
                have d14 := cell_row HQ2.out 14
                clear hb
                go_wp2_with fail
                refine (HC6.out _ HB2.out).mono ?_
                rintro e w3 ⟨rfl, hb⟩
                have HB3 := Lib.hid (HB2.out.trans (hb.mono HB2.out.size))
                have HP3 := Lib.hid (row_below hb HP2.out)
                have HQ3 := Lib.hid (row_below hb HQ2.out)
                clear c0 d0 c1 d1 c2 d2 c3 d3 c4 d4 c5 d5 c6 d6 c7 d7 c8 d8 c9 d9 c10 d10 c11 d11 c12 d12 c13 d13 c14 d14
                have c0 := cell_row HP3.out 0
                have d0 := cell_row HQ3.out 0
                have c1 := cell_row HP3.out 1
                have d1 := cell_row HQ3.out 1
                have c2 := cell_row HP3.out 2
                have d2 := cell_row HQ3.out 2
                have c3 := cell_row HP3.out 3
                have d3 := cell_row HQ3.out 3
                have c4 := cell_row HP3.out 4
                have d4 := cell_row HQ3.out 4
                have c5 := cell_row HP3.out 5
                have d5 := cell_row HQ3.out 5
                have c6 := cell_row HP3.out 6
                have d6 := cell_row HQ3.out 6
                have c7 := cell_row HP3.out 7
                have d7 := cell_row HQ3.out 7
                have c8 := cell_row HP3.out 8
                have d8 := cell_row HQ3.out 8
                have c9 := cell_row HP3.out 9
                have d9 := cell_row HQ3.out 9
                have c10 := cell_row HP3.out 10
                have d10 := cell_row HQ3.out 10
                have c11 := cell_row HP3.out 11
                have d11 := cell_row HQ3.out 11
                have c12 := cell_row HP3.out 12
                have d12 := cell_row HQ3.out 12
                have c13 := cell_row HP3.out 13
                have d13 := cell_row HQ3.out 13
                have c14 := cell_row HP3.out 14
                have d14 := cell_row HQ3.out 14
                clear hb
                go_wp2_with fail
                go_ret
                exact ⟨by rw [HNE.out]; rfl, HB3.out⟩
            · have HNE : Hid (sameM m n r s = false) := Lib.hid (by simp [sameM, h5])
              rw [decide_eq_false h5] at HC5
              clear h5
              go_enter Tryz.func6, Tryz.ntmps6
              go_wp2_with fail
              refine (HC4.out _ HB0.out).mono ?_
              rintro e w1 ⟨rfl, hb⟩
              have HB1 := Lib.hid (HB0.out.trans (hb.mono HB0.out.size))
              have HP1 := Lib.hid (row_below hb HP0.out)
              have HQ1 := Lib.hid (row_below hb HQ0.out)
              have c0 := cell_row HP1.out 0
              have d0 := cell_row HQ1.out 0
              have c1 := cell_row HP1.out 1
              have d1 := cell_row HQ1.out 1
              have c2 := cell_row HP1.out 2
              have d2 := cell_row HQ1.out 2
              have c3 := cell_row HP1.out 3
              have d3 := cell_row HQ1.out 3
              have c4 := cell_row HP1.out 4
              have d4 := cell_row HQ1.out 4
              have c5 := cell_row HP1.out 5
              have d5 := cell_row HQ1.out 5
              have c6 := cell_row HP1.out 6
              have d6 := cell_row HQ1.out 6
              have c7 := cell_row HP1.out 7
              have d7 := cell_row HQ1.out 7
              have c8 := cell_row HP1.out 8
              have d8 := cell_row HQ1.out 8
              have c9 := cell_row HP1.out 9
              have d9 := cell_row HQ1.out 9
              have c10 := cell_row HP1.out 10
              have d10 := cell_row HQ1.out 10
              have c11 := cell_row HP1.out 11
              have d11 := cell_row HQ1.out 11
              have c12 := cell_row HP1.out 12
              have d12 := cell_row HQ1.out 12
              have c13 := cell_row HP1.out 13
              have d13 := cell_row HQ1.out 13
              have c14 := cell_row HP1.out 14
              have d14 := cell_row HQ1.out 14
              clear hb
              go_wp2_with fail
              refine (HC5.out _ HB1.out).mono ?_
              rintro e w2 ⟨rfl, hb⟩
              have HB2 := Lib.hid (HB1.out.trans (hb.mono HB1.out.size))
              have HP2 := Lib.hid (row_below hb HP1.out)
              have HQ2 := Lib.hid (row_below hb HQ1.out)
              clear c0 d0 c1 d1 c2 d2 c3 d3 c4 d4 c5 d5 c6 d6 c7 d7 c8 d8 c9 d9 c10 d10 c11 d11 c12 d12 c13 d13 c14 d14
              have c0 := cell_row HP2.out 0
              have d0 := cell_row HQ2.out 0
              have c1 := cell_row HP2.out 1
              have d1 := cell_row HQ2.out 1
              have c2 := cell_row HP2.out 2
              have d2 := cell_row HQ2.out 2
              have c3 := cell_row HP2.out 3
              have d3 := cell_row HQ2.out 3
              have c4 := cell_row HP2.out 4
              have d4 := cell_row HQ2.out 4
              have c5 := cell_row HP2.out 5
              have d5 := cell_row HQ2.out 5
              have c6 := cell_row HP2.out 6
              have d6 := cell_row HQ2.out 6
              have c7 := cell_row HP2.out 7
              have d7 := cell_row HQ2.out 7
              have c8 := cell_row HP2.out 8
              have d8 := cell_row HQ2.out 8
              have c9 := cell_row HP2.out 9
              have d9 := cell_row HQ2.out 9
              have c10 := cell_row HP2.out 10
              have d10 := cell_row HQ2.out 10
              have c11 := cell_row HP2.out 11
              have d11 := cell_row HQ2.out 11
              have c12 := cell_row HP2.out 12
              have d12 := cell_row HQ2.out 12
              have c13 := cell_row HP2.out 13
              have d13 := cell_row HQ2.out 13
              have c14 := cell_row HP2.out 14
              have d14 := cell_row HQ2.out 14
              clear hb
              go_wp2_with fail
              go_ret
              exact ⟨by rw [HNE.out]; rfl, HB2.out⟩
          · have HNE : Hid (sameM m n r s = false) := Lib.hid (by simp [sameM, h4])
            rw [decide_eq_false h4] at HC4
            clear h4
            go_enter Tryz.func6, Tryz.ntmps6
            go_wp2_with fail
            refine (HC4.out _ HB0.out).mono ?_
            rintro e w1 ⟨rfl, hb⟩
            have HB1 := Lib.hid (HB0.out.trans (hb.mono HB0.out.size))
            have HP1 := Lib.hid (row_below hb HP0.out)
            have HQ1 := Lib.hid (row_below hb HQ0.out)
            have c0 := cell_row HP1.out 0
            have d0 := cell_row HQ1.out 0
            have c1 := cell_row HP1.out 1
            have d1 := cell_row HQ1.out 1
            have c2 := cell_row HP1.out 2
            have d2 := cell_row HQ1.out 2
            have c3 := cell_row HP1.out 3
            have d3 := cell_row HQ1.out 3
            have c4 := cell_row HP1.out 4
            have d4 := cell_row HQ1.out 4
            have c5 := cell_row HP1.out 5
            have d5 := cell_row HQ1.out 5
            have c6 := cell_row HP1.out 6
            have d6 := cell_row HQ1.out 6
            have c7 := cell_row HP1.out 7
            have d7 := cell_row HQ1.out 7
            have c8 := cell_row HP1.out 8
            have d8 := cell_row HQ1.out 8
            have c9 := cell_row HP1.out 9
            have d9 := cell_row HQ1.out 9
            have c10 := cell_row HP1.out 10
            have d10 := cell_row HQ1.out 10
            have c11 := cell_row HP1.out 11
            have d11 := cell_row HQ1.out 11
            have c12 := cell_row HP1.out 12
            have d12 := cell_row HQ1.out 12
            have c13 := cell_row HP1.out 13
            have d13 := cell_row HQ1.out 13
            have c14 := cell_row HP1.out 14
            have d14 := cell_row HQ1.out 14
            clear hb
            go_wp2_with fail
            go_ret
            exact ⟨by rw [HNE.out]; rfl, HB1.out⟩
        · have HNE : Hid (sameM m n r s = false) := Lib.hid (by simp [sameM, h3])
          have e3 : (m.L.flags == n.L.flags) = false := by simp [h3]
          have f3 : (m.L.flags != n.L.flags) = true := by simp [h3]
          clear h3
          go_enter Tryz.func6, Tryz.ntmps6
          go_wp2_with fail
          go_ret
          exact ⟨by rw [HNE.out]; rfl, HB0.out⟩
      · have HNE : Hid (sameM m n r s = false) := Lib.hid (by simp [sameM, h2])
        have e2 : (m.L.kind == n.L.kind) = false := by simp [h2]
        have f2 : (m.L.kind != n.L.kind) = true := by simp [h2]
        clear h2
        go_enter Tryz.func6, Tryz.ntmps6
        go_wp2_with fail
        go_ret
        exact ⟨by rw [HNE.out]; rfl, HB0.out⟩
    · have HNE : Hid (sameM m n r s = false) := Lib.hid (by simp [sameM, h1])
      have e1 : (m.xid == n.xid) = false := by simp [h1]
      have f1 : (m.xid != n.xid) = true := by simp [h1]
      clear h1
      go_enter Tryz.func6, Tryz.ntmps6
      go_wp2_with fail
      go_ret
      exact ⟨by rw [HNE.out]; rfl, HB0.out⟩
  · have HNE : Hid (sameM m n r s = false) := Lib.hid (by simp [sameM, h0])
    have e0 : (m.ty == n.ty) = false := by simp [h0]
    have f0 : (m.ty != n.ty) = true := by simp [h0]
    clear h0
    go_enter Tryz.func6, Tryz.ntmps6
    go_wp2_with fail
    go_ret
    exact ⟨by rw [HNE.out]; rfl, HB0.out⟩
end Go.Proofs.YtcebcncpbedkmaaGreat
