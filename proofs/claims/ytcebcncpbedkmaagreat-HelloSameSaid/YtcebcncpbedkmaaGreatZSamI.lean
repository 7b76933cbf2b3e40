/- Whether two lists of fields are the same: the walks of the document. Conditions: none. Whether two lists of actions are the same: the walks of the document. Conditions: none. -/
import Derived.Test.YtcebcncpbedkmaaGreatZSamT
import Derived.Test.YtcebcncpbedkmaaGreatZRefTA
import Derived.StillTailTactics
namespace Go.Proofs.YtcebcncpbedkmaaGreat
open Go Go.RowKit
set_option maxRecDepth 100000
set_option maxHeartbeats 8000000

theorem ref_nums_q (v1 v2 : Value) (xs ys : List Int) (w : World) (h1 : Ints .u64 w v1 xs) (h2 : Ints .u64 w v2 ys) :
    Calls Tryz.prog 37 #[v1, v2] w fun e w' => e = .returned (.bool (decide (xs = ys))) ∧ ∃ q, w' = w.drewN q := by
  have hle := h1.le
  obtain ⟨a, cap, b, off, rfl, -, -, -, ha, hc⟩ := h1.open
  obtain ⟨a2, cap2, b2, off2, rfl, -, -, -, ha2, hc2⟩ := h2.open
  have H1 := Lib.hid ha
  have H3 := Lib.hid hc
  have H2 := Lib.hid ha2
  have H4 := Lib.hid hc2
  clear ha hc h1 h2 ha2 hc2
  by_cases hl : xs.length = ys.length
  · have e1 : ((xs.length : Int) != (xs.length : Int)) = false := by simp
    rw [← hl]
    have HL := Lib.hid hl
    clear hl
    go_enter Tryz.func37, Tryz.ntmps37
    go_wp2
    go_loopw [4, 5] (fun r i wr => ∃ k q : Nat, k ≤ xs.length ∧ i = .int .i64 k ∧ r = .bool false ∧ wr = w.drewN q ∧ Hid (xs.take k = ys.take k)) (fun _ i _ => xs.length - (intOf i).toNat)
    case atStart => exact ⟨0, 0, by omega, rfl, rfl, rfl, rfl⟩
    case round =>
      obtain ⟨k, q, hk, rfl, rfl, rfl, HT⟩ := hrel
      by_cases hlt : k < xs.length
      · obtain rfl := H1.out (by omega)
        obtain rfl := H2.out (by have := HL.out; omega)
        obtain ⟨x, hx, hcx⟩ := name_cell (H3.out k hlt)
        obtain ⟨y, hy, hcy⟩ := name_cell (H4.out k (by have := HL.out; omega))
        have HX := Lib.hid hx
        have HY := Lib.hid hy
        clear hx hy
        have hlt' : (k : Int) < xs.length := by omega
        by_cases he : x = y
        · subst he
          go_wp2_with fail
          go_quiet (fail)
          go_wp2_with fail
          go_roundw
          case rel => exact ⟨k + 1, q + nq, by omega, by go_num, rfl, rfl, take_step hlt (by have := HL.out; omega) HT.out (HX.out.symm.trans HY.out)⟩
          case measure => simp [intOf]; omega
        · go_wp2_with fail
          go_quiet (fail)
          go_wp2_with fail
          go_ret
          have hne : decide (xs = ys) = false := by
            rw [decide_eq_false_iff_not]
            rintro rfl
            exact he (HX.out.trans HY.out.symm)
          exact ⟨by rw [hne]; rfl, q + nq, by simp [World.drewN, Nat.add_assoc]⟩
      · obtain rfl : k = xs.length := by omega
        go_wp2_with fail
        go_ret
        exact ⟨by rw [decide_eq_true (eq_of_take HL.out HT.out)]; rfl, q, rfl⟩
  · have hne : decide (xs = ys) = false := by
      rw [decide_eq_false_iff_not]
      rintro rfl
      exact hl rfl
    have HNE := Lib.hid hne
    have hb : ((xs.length : Int) != (ys.length : Int)) = true := by simp; omega
    clear hne
    go_enter Tryz.func37, Tryz.ntmps37
    go_wp2
    go_ret
    exact ⟨by rw [HNE.out]; rfl, 0, rfl⟩

theorem rbytes_eq {v1 v2 : Value} {xs ys : List Int} {w : World} (h1 : Ints .u8 w v1 xs) (h2 : Ints .u8 w v2 ys) : Calls Tryz.prog 22 #[v1, v2] w (GotEq (decide (xs = ys)) w) := ref_bytes v1 v2 xs ys w h1 h2
theorem rnums_eq {v1 v2 : Value} {xs ys : List Int} {w : World} (h1 : Ints .u64 w v1 xs) (h2 : Ints .u64 w v2 ys) : Calls Tryz.prog 37 #[v1, v2] w (GotEq (decide (xs = ys)) w) := ref_nums v1 v2 xs ys w h1 h2
theorem bcells {W w1 : World} (hb : Below W.heap.size W w1) : (∀ b o, b < W.heap.size → w1.cell? ⟨b, o, none⟩ = W.cell? ⟨b, o, none⟩) ∧ (∀ b o, b < W.heap.size → w1.frozen? ⟨b, o, none⟩ = W.frozen? ⟨b, o, none⟩) :=
  ⟨fun b o h => hb.cell (p := ⟨b, o, none⟩) h, fun b o h => hb.frozen (p := ⟨b, o, none⟩) h⟩

theorem ralike_Oxm {p q : OxmV} {c d : List Value} {w : World} (h1 : OxmR w p c) (h2 : OxmR w q d) : Calls Tryz.prog 107 #[.agg c.toArray, .agg d.toArray] w (GotEq (decide ((p.1, p.2.1, p.2.2.2.1) = (q.1, q.2.1, q.2.2.2.1))) w) := by
  unfold GotEq
  have H1 := Lib.hid h1
  have H2 := Lib.hid h2
  obtain ⟨pcl, pfi, pha, pex, pva, pma⟩ := p
  obtain ⟨qcl, qfi, qha, qex, qva, qma⟩ := q
  obtain ⟨xva, xma, rfl, hxva, hxma⟩ := h1
  obtain ⟨yva, yma, rfl, hyva, hyma⟩ := h2
  dsimp only at *
  obtain ⟨xvaA, xvaC, xvaB, xvaO, rfl, -⟩ := hxva.open
  obtain ⟨xmaA, xmaC, xmaB, xmaO, rfl, -⟩ := hxma.open
  obtain ⟨yvaA, yvaC, yvaB, yvaO, rfl, -⟩ := hyva.open
  obtain ⟨ymaA, ymaC, ymaB, ymaO, rfl, -⟩ := hyma.open
  have hb0 := below_alloc2 (w := w) (.cells #[.int .i64 pcl, .int .i64 pfi, .bool pha, .int .u64 pex, .slice xvaA pva.length xvaC, .slice xmaA pma.length xmaC] 83)
  have hb1 := below_alloc2 (w := w.alloc (.cells #[.int .i64 pcl, .int .i64 pfi, .bool pha, .int .u64 pex, .slice xvaA pva.length xvaC, .slice xmaA pma.length xmaC] 83)) (.cells #[.int .i64 qcl, .int .i64 qfi, .bool qha, .int .u64 qex, .slice yvaA qva.length yvaC, .slice ymaA qma.length ymaC] 83)
  have HB0 := Lib.hid (hb0.trans (hb1.mono (by simp)))
  have HP0 := Lib.hid (row_below hb1 (heap_alloc_new w (.cells #[.int .i64 pcl, .int .i64 pfi, .bool pha, .int .u64 pex, .slice xvaA pva.length xvaC, .slice xmaA pma.length xmaC] 83)))
  have HQ0 := heap_alloc_new (w.alloc (.cells #[.int .i64 pcl, .int .i64 pfi, .bool pha, .int .u64 pex, .slice xvaA pva.length xvaC, .slice xmaA pma.length xmaC] 83)) (.cells #[.int .i64 qcl, .int .i64 qfi, .bool qha, .int .u64 qex, .slice yvaA qva.length yvaC, .slice ymaA qma.length ymaC] 83)
  rw [World.size_alloc] at HQ0
  have HQ0 := Lib.hid HQ0
  clear H1 H2 hb0 hb1 hxva hxma hyva hyma
  by_cases h0 : pcl = qcl
  · subst h0
    have e0 : (pcl == pcl) = true := by simp
    have f0 : (pcl != pcl) = false := by simp
    by_cases h1 : pfi = qfi
    · subst h1
      have e1 : (pfi == pfi) = true := by simp
      have f1 : (pfi != pfi) = false := by simp
      by_cases h2 : pex = qex
      · subst h2
        have e2 : (pex == pex) = true := by simp
        have f2 : (pex != pex) = false := by simp
        have HEQ : Hid (decide (((pcl, pfi, pex) : Int × Int × Int) = (pcl, pfi, pex)) = true) := decide_eq_true rfl
        go_enter Tryz.func107, Tryz.ntmps107
        go_wp2_with fail
        go_ret
        exact ⟨by first | (rw [HEQ.out]; rfl) | simp, HB0.out⟩
      · have HNE : Hid (decide (((pcl, pfi, pex) : Int × Int × Int) = (pcl, pfi, qex)) = false) := decide_eq_false (fun e => h2 (congrArg (fun z : Int × Int × Int => z.2.2) e))
        have e2 : (pex == qex) = false := by simpa using h2
        have f2 : (pex != qex) = true := by simpa using h2
        clear h2
        go_enter Tryz.func107, Tryz.ntmps107
        go_wp2_with fail
        go_ret
        exact ⟨by rw [HNE.out]; rfl, HB0.out⟩
    · have HNE : Hid (decide (((pcl, pfi, pex) : Int × Int × Int) = (pcl, qfi, qex)) = false) := decide_eq_false (fun e => h1 (congrArg (fun z : Int × Int × Int => z.2.1) e))
      have e1 : (pfi == qfi) = false := by simpa using h1
      have f1 : (pfi != qfi) = true := by simpa using h1
      clear h1
      go_enter Tryz.func107, Tryz.ntmps107
      go_wp2_with fail
      go_ret
      exact ⟨by rw [HNE.out]; rfl, HB0.out⟩
  · have HNE : Hid (decide (((pcl, pfi, pex) : Int × Int × Int) = (qcl, qfi, qex)) = false) := decide_eq_false (fun e => h0 (congrArg (fun z : Int × Int × Int => z.1) e))
    have e0 : (pcl == qcl) = false := by simpa using h0
    have f0 : (pcl != qcl) = true := by simpa using h0
    clear h0
    go_enter Tryz.func107, Tryz.ntmps107
    go_wp2_with fail
    go_ret
    exact ⟨by rw [HNE.out]; rfl, HB0.out⟩

theorem rcmp_Oxm {p q : OxmV} {c d : List Value} {w : World} (h1 : OxmR w p c) (h2 : OxmR w q d) : Calls Tryz.prog 90 #[.agg c.toArray, .agg d.toArray] w (GotEq (decide (p = q)) w) := by
  unfold GotEq
  have H1 := Lib.hid h1
  have H2 := Lib.hid h2
  obtain ⟨pcl, pfi, pha, pex, pva, pma⟩ := p
  obtain ⟨qcl, qfi, qha, qex, qva, qma⟩ := q
  obtain ⟨xva, xma, rfl, hxva, hxma⟩ := h1
  obtain ⟨yva, yma, rfl, hyva, hyma⟩ := h2
  dsimp only at *
  obtain ⟨xvaA, xvaC, xvaB, xvaO, rfl, -⟩ := hxva.open
  obtain ⟨xmaA, xmaC, xmaB, xmaO, rfl, -⟩ := hxma.open
  obtain ⟨yvaA, yvaC, yvaB, yvaO, rfl, -⟩ := hyva.open
  obtain ⟨ymaA, ymaC, ymaB, ymaO, rfl, -⟩ := hyma.open
  have hb0 := below_alloc2 (w := w) (.cells #[.int .i64 pcl, .int .i64 pfi, .bool pha, .int .u64 pex, .slice xvaA pva.length xvaC, .slice xmaA pma.length xmaC] 83)
  have hb1 := below_alloc2 (w := w.alloc (.cells #[.int .i64 pcl, .int .i64 pfi, .bool pha, .int .u64 pex, .slice xvaA pva.length xvaC, .slice xmaA pma.length xmaC] 83)) (.cells #[.int .i64 qcl, .int .i64 qfi, .bool qha, .int .u64 qex, .slice yvaA qva.length yvaC, .slice ymaA qma.length ymaC] 83)
  have HB0 := Lib.hid (hb0.trans (hb1.mono (by simp)))
  have HP0 := Lib.hid (row_below hb1 (heap_alloc_new w (.cells #[.int .i64 pcl, .int .i64 pfi, .bool pha, .int .u64 pex, .slice xvaA pva.length xvaC, .slice xmaA pma.length xmaC] 83)))
  have HQ0 := heap_alloc_new (w.alloc (.cells #[.int .i64 pcl, .int .i64 pfi, .bool pha, .int .u64 pex, .slice xvaA pva.length xvaC, .slice xmaA pma.length xmaC] 83)) (.cells #[.int .i64 qcl, .int .i64 qfi, .bool qha, .int .u64 qex, .slice yvaA qva.length yvaC, .slice ymaA qma.length ymaC] 83)
  rw [World.size_alloc] at HQ0
  have HQ0 := Lib.hid HQ0
  have HC0 := Lib.hid (fun (W : World) (hb : Below w.heap.size w W) => ralike_Oxm (OxmR.lasts _ _ _ _ hb H1.out) (OxmR.lasts _ _ _ _ hb H2.out))
  have HC2 := Lib.hid (fun (W : World) (hb : Below w.heap.size w W) => rbytes_eq (hxva.below hb) (hyva.below hb))
  have HC3 := Lib.hid (fun (W : World) (hb : Below w.heap.size w W) => rbytes_eq (hxma.below hb) (hyma.below hb))
  clear H1 H2 hb0 hb1 hxva hxma hyva hyma
  by_cases h0 : ((pcl, pfi, pex) : Int × Int × Int) = (qcl, qfi, qex)
  · obtain ⟨rfl, rfl, rfl⟩ : pcl = qcl ∧ pfi = qfi ∧ pex = qex := by simpa using h0
    clear h0
    rw [decide_eq_true (Eq.refl _)] at HC0
    by_cases h1 : pha = qha
    · subst h1
      have e1 : (pha == pha) = true := by simp
      have f1 : (pha != pha) = false := by simp
      by_cases h2 : pva = qva
      · subst h2
        rw [decide_eq_true (Eq.refl _)] at HC2
        by_cases h3 : pma = qma
        · subst h3
          rw [decide_eq_true (Eq.refl _)] at HC3
          have HEQ : Hid (decide (((pcl, pfi, pha, pex, pva, pma) : OxmV) = (pcl, pfi, pha, pex, pva, pma)) = true) := decide_eq_true rfl
          go_enter Tryz.func90, Tryz.ntmps90
          go_wp2_with fail
          refine (HC0.out _ HB0.out).mono ?_
          rintro e w1 ⟨rfl, hb⟩
          have HB1 := Lib.hid (HB0.out.trans (hb.mono HB0.out.size))
          have HP1 := Lib.hid (row_below hb HP0.out)
          have HQ1 := Lib.hid (row_below hb HQ0.out)
          have c0 := cell_row HP1.out 0
          have d0 := cell_row HQ1.out 0
          have c1 := cell_row HP1.out 1
          have d1 := cell_row HQ1.out 1
          have c2 := cell_row HP1.out 2
          have d2 := cell_row HQ1.out 2
          have c3 := cell_row HP1.out 3
          have d3 := cell_row HQ1.out 3
          have c4 := cell_row HP1.out 4
          have d4 := cell_row HQ1.out 4
          have c5 := cell_row HP1.out 5
          have d5 := cell_row HQ1.out 5
          clear hb
          go_wp2_with fail
          refine (HC2.out _ HB1.out).mono ?_
          rintro e w2 ⟨rfl, hb⟩
          have HB2 := Lib.hid (HB1.out.trans (hb.mono HB1.out.size))
          have HP2 := Lib.hid (row_below hb HP1.out)
          have HQ2 := Lib.hid (row_below hb HQ1.out)
          clear c0 d0 c1 d1 c2 d2 c3 d3 c4 d4 c5 d5
          have c0 := cell_row HP2.out 0
          have d0 := cell_row HQ2.out 0
          have c1 := cell_row HP2.out 1
          have d1 := cell_row HQ2.out 1
          have c2 := cell_row HP2.out 2
          have d2 := cell_row HQ2.out 2
          have c3 := cell_row HP2.out 3
          have d3 := cell_row HQ2.out 3
          have c4 := cell_row HP2.out 4
          have d4 := cell_row HQ2.out 4
          have c5 := cell_row HP2.out 5
          have d5 := cell_row HQ2.out 5
          clear hb
          go_wp2_with fail
          refine (HC3.out _ HB2.out).mono ?_
          rintro e w3 ⟨rfl, hb⟩
          have HB3 := Lib.hid (HB2.out.trans (hb.mono HB2.out.size))
          have HP3 := Lib.hid (row_below hb HP2.out)
          have HQ3 := Lib.hid (row_below hb HQ2.out)
          clear c0 d0 c1 d1 c2 d2 c3 d3 c4 d4 c5 d5
          have c0 := cell_row HP3.out 0
          have d0 := cell_row HQ3.out 0
          have c1 := cell_row HP3.out 1
          have d1 := cell_row HQ3.out 1
          have c2 := cell_row HP3.out 2
          have d2 := cell_row HQ3.out 2
          have c3 := cell_row HP3.out 3
          have d3 := cell_row HQ3.out 3
          have c4 := cell_row HP3.out 4
          have d4 := cell_row HQ3.out 4
          have c5 := cell_row HP3.out 5
          have d5 := cell_row HQ3.out 5
          clear hb
          go_wp2_with fail
          go_ret
          exact ⟨by first | (rw [HEQ.out]; rfl) | simp, HB3.out⟩
        · have HNE : Hid (decide (((pcl, pfi, pha, pex, pva, pma) : OxmV) = (pcl, pfi, pha, pex, pva, qma)) = false) := decide_eq_false (fun e => h3 (congrArg (fun z : OxmV => z.2.2.2.2.2) e))
          rw [decide_eq_false h3] at HC3
          clear h3
          go_enter Tryz.func90, Tryz.ntmps90
          go_wp2_with fail
          refine (HC0.out _ HB0.out).mono ?_
          rintro e w1 ⟨rfl, hb⟩
          have HB1 := Lib.hid (HB0.out.trans (hb.mono HB0.out.size))
          have HP1 := Lib.hid (row_below hb HP0.out)
          have HQ1 := Lib.hid (row_below hb HQ0.out)
          have c0 := cell_row HP1.out 0
          have d0 := cell_row HQ1.out 0
          have c1 := cell_row HP1.out 1
          have d1 := cell_row HQ1.out 1
          have c2 := cell_row HP1.out 2
          have d2 := cell_row HQ1.out 2
          have c3 := cell_row HP1.out 3
          have d3 := cell_row HQ1.out 3
          have c4 := cell_row HP1.out 4
          have d4 := cell_row HQ1.out 4
          have c5 := cell_row HP1.out 5
          have d5 := cell_row HQ1.out 5
          clear hb
          go_wp2_with fail
          refine (HC2.out _ HB1.out).mono ?_
          rintro e w2 ⟨rfl, hb⟩
          have HB2 := Lib.hid (HB1.out.trans (hb.mono HB1.out.size))
          have HP2 := Lib.hid (row_below hb HP1.out)
          have HQ2 := Lib.hid (row_below hb HQ1.out)
          clear c0 d0 c1 d1 c2 d2 c3 d3 c4 d4 c5 d5
          have c0 := cell_row HP2.out 0
          have d0 := cell_row HQ2.out 0
          have c1 := cell_row HP2.out 1
          have d1 := cell_row HQ2.out 1
          have c2 := cell_row HP2.out 2
          have d2 := cell_row HQ2.out 2
          have c3 := cell_row HP2.out 3
          have d3 := cell_row HQ2.out 3
          have c4 := cell_row HP2.out 4
          have d4 := cell_row HQ2.out 4
          have c5 := cell_row HP2.out 5
          have d5 := cell_row HQ2.out 5
          clear hb
          go_wp2_with fail
          refine (HC3.out _ HB2.out).mono ?_
          rintro e w3 ⟨rfl, hb⟩
          have HB3 := Lib.hid (HB2.out.trans (hb.mono HB2.out.size))
          have HP3 := Lib.hid (row_below hb HP2.out)
          have HQ3 := Lib.hid (row_below hb HQ2.out)
          clear c0 d0 c1 d1 c2 d2 c3 d3 c4 d4 c5 d5
          have c0 := cell_row HP3.out 0
          have d0 := cell_row HQ3.out 0
          have c1 := cell_row HP3.out 1
          have d1 := cell_row HQ3.out 1
          have c2 := cell_row HP3.out 2
          have d2 := cell_row HQ3.out 2
          have c3 := cell_row HP3.out 3
          have d3 := cell_row HQ3.out 3
          have c4 := cell_row HP3.out 4
          have d4 := cell_row HQ3.out 4
          have c5 := cell_row HP3.out 5
          have d5 := cell_row HQ3.out 5
          clear hb
          go_wp2_with fail
          go_ret
          exact ⟨by rw [HNE.out]; rfl, HB3.out⟩
      · have HNE : Hid (decide (((pcl, pfi, pha, pex, pva, pma) : OxmV) = (pcl, pfi, pha, pex, qva, qma)) = false) := decide_eq_false (fun e => h2 (congrArg (fun z : OxmV => z.2.2.2.2.1) e))
        rw [decide_eq_false h2] at HC2
        clear h2
        go_enter Tryz.func90, Tryz.ntmps90
        go_wp2_with fail
        refine (HC0.out _ HB0.out).mono ?_
        rintro e w1 ⟨rfl, hb⟩
        have HB1 := Lib.hid (HB0.out.trans (hb.mono HB0.out.size))
        have HP1 := Lib.hid (row_below hb HP0.out)
        have HQ1 := Lib.hid (row_below hb HQ0.out)
        have c0 := cell_row HP1.out 0
        have d0 := cell_row HQ1.out 0
        have c1 := cell_row HP1.out 1
        have d1 := cell_row HQ1.out 1
        have c2 := cell_row HP1.out 2
        have d2 := cell_row HQ1.out 2
        have c3 := cell_row HP1.out 3
        have d3 := cell_row HQ1.out 3
        have c4 := cell_row HP1.out 4
        have d4 := cell_row HQ1.out 4
        have c5 := cell_row HP1.out 5
        have d5 := cell_row HQ1.out 5
        clear hb
        go_wp2_with fail
        refine (HC2.out _ HB1.out).mono ?_
        rintro e w2 ⟨rfl, hb⟩
        have HB2 := Lib.hid (HB1.out.trans (hb.mono HB1.out.size))
        have HP2 := Lib.hid (row_below hb HP1.out)
        have HQ2 := Lib.hid (row_below hb HQ1.out)
        clear c0 d0 c1 d1 c2 d2 c3 d3 c4 d4 c5 d5
        have c0 := cell_row HP2.out 0
        have d0 := cell_row HQ2.out 0
        have c1 := cell_row HP2.out 1
        have d1 := cell_row HQ2.out 1
        have c2 := cell_row HP2.out 2
        have d2 := cell_row HQ2.out 2
        have c3 := cell_row HP2.out 3
        have d3 := cell_row HQ2.out 3
        have c4 := cell_row HP2.out 4
        have d4 := cell_row HQ2.out 4
        have c5 := cell_row HP2.out 5
        have d5 := cell_row HQ2.out 5
        clear hb
        go_wp2_with fail
        go_ret
        exact ⟨by rw [HNE.out]; rfl, HB2.out⟩
    · have HNE : Hid (decide (((pcl, pfi, pha, pex, pva, pma) : OxmV) = (pcl, pfi, qha, pex, qva, qma)) = false) := decide_eq_false (fun e => h1 (congrArg (fun z : OxmV => z.2.2.1) e))
      have e1 : (pha == qha) = false := by simpa using h1
      have f1 : (pha != qha) = true := by simpa using h1
      clear h1
      go_enter Tryz.func90, Tryz.ntmps90
      go_wp2_with fail
      refine (HC0.out _ HB0.out).mono ?_
      rintro e w1 ⟨rfl, hb⟩
      have HB1 := Lib.hid (HB0.out.trans (hb.mono HB0.out.size))
      have HP1 := Lib.hid (row_below hb HP0.out)
      have HQ1 := Lib.hid (row_below hb HQ0.out)
      have c0 := cell_row HP1.out 0
      have d0 := cell_row HQ1.out 0
      have c1 := cell_row HP1.out 1
      have d1 := cell_row HQ1.out 1
      have c2 := cell_row HP1.out 2
      have d2 := cell_row HQ1.out 2
      have c3 := cell_row HP1.out 3
      have d3 := cell_row HQ1.out 3
      have c4 := cell_row HP1.out 4
      have d4 := cell_row HQ1.out 4
      have c5 := cell_row HP1.out 5
      have d5 := cell_row HQ1.out 5
      clear hb
      go_wp2_with fail
      go_ret
      exact ⟨by rw [HNE.out]; rfl, HB1.out⟩
  · have HNE : Hid (decide (((pcl, pfi, pha, pex, pva, pma) : OxmV) = (qcl, qfi, qha, qex, qva, qma)) = false) := decide_eq_false (fun e => h0 (congrArg (fun z : OxmV => (z.1, z.2.1, z.2.2.2.1)) e))
    rw [decide_eq_false h0] at HC0
    clear h0
    go_enter Tryz.func90, Tryz.ntmps90
    go_wp2_with fail
    refine (HC0.out _ HB0.out).mono ?_
    rintro e w1 ⟨rfl, hb⟩
    have HB1 := Lib.hid (HB0.out.trans (hb.mono HB0.out.size))
    have HP1 := Lib.hid (row_below hb HP0.out)
    have HQ1 := Lib.hid (row_below hb HQ0.out)
    have c0 := cell_row HP1.out 0
    have d0 := cell_row HQ1.out 0
    have c1 := cell_row HP1.out 1
    have d1 := cell_row HQ1.out 1
    have c2 := cell_row HP1.out 2
    have d2 := cell_row HQ1.out 2
    have c3 := cell_row HP1.out 3
    have d3 := cell_row HQ1.out 3
    have c4 := cell_row HP1.out 4
    have d4 := cell_row HQ1.out 4
    have c5 := cell_row HP1.out 5
    have d5 := cell_row HQ1.out 5
    clear hb
    go_wp2_with fail
    go_ret
    exact ⟨by rw [HNE.out]; rfl, HB1.out⟩

theorem rsame_Oxm {v1 v2 : Value} {l m : List OxmV} {w : World} (h1 : RowsOf OxmR 6 w v1 l) (h2 : RowsOf OxmR 6 w v2 m) : Calls Tryz.prog 40 #[v1, v2] w (GotEq (decide (l = m)) w) := by
  unfold GotEq
  obtain ⟨a, cap, b, off, rfl, hmx, ha, hit⟩ := rows_open h1
  obtain ⟨a2, cap2, b2, off2, rfl, hmx2, ha2, hit2⟩ := rows_open h2
  unfold maxLen at hmx hmx2
  have A := Lib.hid ha
  have A2 := Lib.hid ha2
  have HIt := Lib.hid hit
  have HIt2 := Lib.hid hit2
  clear h1 h2 ha ha2 hit hit2
  by_cases hl : l.length = m.length
  · have e1 : ((l.length : Int) != (l.length : Int)) = false := by simp
    have HL := Lib.hid hl
    rw [← hl]
    clear hl
    go_enter Tryz.func40, Tryz.ntmps40
    go_wp2_with fail
    go_loopw [4, 5] (fun r i wr => ∃ k : Nat, k ≤ l.length ∧ i = .int .i64 k ∧ r = .bool false ∧ Hid (Below w.heap.size w wr) ∧ Hid (l.take k = m.take k)) (fun _ i _ => l.length - (intOf i).toNat)
    case atStart => exact ⟨0, by omega, rfl, rfl, Below.refl _ _, rfl⟩
    case round =>
      obtain ⟨k, hk, rfl, rfl, HW, HT⟩ := hrel
      by_cases hlt : k < l.length
      · obtain rfl := A.out (by omega)
        obtain rfl := A2.out (by have := HL.out; omega)
        obtain ⟨x, hx⟩ : ∃ x, l[k]? = some x := ⟨_, List.getElem?_eq_getElem hlt⟩
        obtain ⟨y, hy⟩ : ∃ x, m[k]? = some x := ⟨_, List.getElem?_eq_getElem (by have := HL.out; omega)⟩
        obtain ⟨c1, h1, hc1⟩ := HIt.out k x hx
        obtain ⟨c2, h2, hc2⟩ := HIt2.out k y hy
        have HX := Lib.hid hx
        have HY := Lib.hid hy
        have HR1 := Lib.hid h1
        have HR2 := Lib.hid h2
        obtain ⟨xva, xma, rfl, hxva, hxma⟩ := h1
        obtain ⟨yva, yma, rfl, hyva, hyma⟩ := h2
        obtain ⟨xvaA, xvaC, xvaB, xvaO, rfl, -⟩ := hxva.open
        obtain ⟨xmaA, xmaC, xmaB, xmaO, rfl, -⟩ := hxma.open
        obtain ⟨yvaA, yvaC, yvaB, yvaO, rfl, -⟩ := hyva.open
        obtain ⟨ymaA, ymaC, ymaB, ymaO, rfl, -⟩ := hyma.open
        have hbw := HW.out
        have x0 : w.cell? ⟨b, off + k * 6, none⟩ = some (.int .i64 x.1) := hc1 0 _ rfl
        have x1 : w.cell? ⟨b, off + k * 6 + 1, none⟩ = some (.int .i64 x.2.1) := hc1 1 _ rfl
        have x2 : w.cell? ⟨b, off + k * 6 + 2, none⟩ = some (.bool x.2.2.1) := hc1 2 _ rfl
        have x3 : w.cell? ⟨b, off + k * 6 + 3, none⟩ = some (.int .u64 x.2.2.2.1) := hc1 3 _ rfl
        have x4 : w.cell? ⟨b, off + k * 6 + 4, none⟩ = some (.slice xvaA x.2.2.2.2.1.length xvaC) := hc1 4 _ rfl
        have x5 : w.cell? ⟨b, off + k * 6 + 5, none⟩ = some (.slice xmaA x.2.2.2.2.2.length xmaC) := hc1 5 _ rfl
        have y0 : w.cell? ⟨b2, off2 + k * 6, none⟩ = some (.int .i64 y.1) := hc2 0 _ rfl
        have y1 : w.cell? ⟨b2, off2 + k * 6 + 1, none⟩ = some (.int .i64 y.2.1) := hc2 1 _ rfl
        have y2 : w.cell? ⟨b2, off2 + k * 6 + 2, none⟩ = some (.bool y.2.2.1) := hc2 2 _ rfl
        have y3 : w.cell? ⟨b2, off2 + k * 6 + 3, none⟩ = some (.int .u64 y.2.2.2.1) := hc2 3 _ rfl
        have y4 : w.cell? ⟨b2, off2 + k * 6 + 4, none⟩ = some (.slice yvaA y.2.2.2.2.1.length yvaC) := hc2 4 _ rfl
        have y5 : w.cell? ⟨b2, off2 + k * 6 + 5, none⟩ = some (.slice ymaA y.2.2.2.2.2.length ymaC) := hc2 5 _ rfl
        have x0 := (hbw.cell (World.block_lt_of_cell? _ _ x0)).trans x0
        have y0 := (hbw.cell (World.block_lt_of_cell? _ _ y0)).trans y0
        have x1 := (hbw.cell (World.block_lt_of_cell? _ _ x1)).trans x1
        have y1 := (hbw.cell (World.block_lt_of_cell? _ _ y1)).trans y1
        have x2 := (hbw.cell (World.block_lt_of_cell? _ _ x2)).trans x2
        have y2 := (hbw.cell (World.block_lt_of_cell? _ _ y2)).trans y2
        have x3 := (hbw.cell (World.block_lt_of_cell? _ _ x3)).trans x3
        have y3 := (hbw.cell (World.block_lt_of_cell? _ _ y3)).trans y3
        have x4 := (hbw.cell (World.block_lt_of_cell? _ _ x4)).trans x4
        have y4 := (hbw.cell (World.block_lt_of_cell? _ _ y4)).trans y4
        have x5 := (hbw.cell (World.block_lt_of_cell? _ _ x5)).trans x5
        have y5 := (hbw.cell (World.block_lt_of_cell? _ _ y5)).trans y5
        have HWd := Lib.hid (below_drewN hbw 1)
        have HEq := Lib.hid (fun (W : World) (hb : Below w.heap.size w W) => rcmp_Oxm (OxmR.lasts _ _ _ _ hb HR1.out) (OxmR.lasts _ _ _ _ hb HR2.out))
        have hlt' : (k : Int) < l.length := by omega
        clear hbw hx hy hc1 hc2 HR1 HR2 hxva hxma hyva hyma
        by_cases hpq : x = y
        · have HY : Hid (m[k]? = some x) := Lib.hid (HY.out.trans (by rw [hpq]))
          rw [decide_eq_true hpq] at HEq
          clear hpq
          go_wp2_with fail
          go_still_tail 8, (by kernel_rfl)
          go_wp2_with fail
          refine (HEq.out _ HWd.out).mono ?_
          rintro e w3 ⟨rfl, hb⟩
          have HB3 := Lib.hid (HWd.out.trans (hb.mono HWd.out.size))
          clear hb
          go_wp2_with fail
          go_roundw
          case rel => exact ⟨k + 1, by omega, by go_num, rfl, HB3.out, take_both HX.out HY.out HT.out⟩
          case measure => simp [intOf]; omega
        · have HNE : Hid (decide (l = m) = false) := decide_eq_false (get_ne HX.out HY.out hpq)
          rw [decide_eq_false hpq] at HEq
          clear hpq
          go_wp2_with fail
          go_still_tail 8, (by kernel_rfl)
          go_wp2_with fail
          refine (HEq.out _ HWd.out).mono ?_
          rintro e w3 ⟨rfl, hb⟩
          have HB3 := Lib.hid (HWd.out.trans (hb.mono HWd.out.size))
          clear hb
          go_wp2_with fail
          go_ret
          exact ⟨by rw [HNE.out]; rfl, HB3.out⟩
      · obtain rfl : k = l.length := by omega
        have HE : Hid (decide (l = m) = true) := by
          have := HT.out
          rw [List.take_length, HL.out, List.take_length] at this
          exact decide_eq_true this
        go_wp2_with fail
        go_ret
        exact ⟨by rw [HE.out]; rfl, HW.out⟩
  · have HNE : Hid (decide (l = m) = false) := decide_eq_false (fun e => hl (by rw [e]))
    have hb : ((l.length : Int) != (m.length : Int)) = true := by simp; omega
    clear hl
    go_enter Tryz.func40, Tryz.ntmps40
    go_wp2
    go_ret
    exact ⟨by rw [HNE.out]; rfl, Below.refl _ _⟩
end Go.Proofs.YtcebcncpbedkmaaGreat
namespace Go.Proofs.YtcebcncpbedkmaaGreat
open Go Go.RowKit
set_option maxRecDepth 100000
set_option maxHeartbeats 8000000

theorem rcmp_Act {p q : ActV} {c d : List Value} {w : World} (h1 : ActR w p c) (h2 : ActR w q d) : Calls Tryz.prog 91 #[.agg c.toArray, .agg d.toArray] w (GotEq (decide (p = q)) w) := by
  unfold GotEq
  have H1 := Lib.hid h1
  have H2 := Lib.hid h2
  obtain ⟨pty, pa, pb, pse, pda⟩ := p
  obtain ⟨qty, qa, qb, qse, qda⟩ := q
  obtain ⟨xseva, xsema, xda, rfl, hxseva, hxsema, hxda⟩ := h1
  obtain ⟨yseva, ysema, yda, rfl, hyseva, hysema, hyda⟩ := h2
  dsimp only at *
  obtain ⟨xsevaA, xsevaC, xsevaB, xsevaO, rfl, -⟩ := hxseva.open
  obtain ⟨xsemaA, xsemaC, xsemaB, xsemaO, rfl, -⟩ := hxsema.open
  obtain ⟨xdaA, xdaC, xdaB, xdaO, rfl, -⟩ := hxda.open
  obtain ⟨ysevaA, ysevaC, ysevaB, ysevaO, rfl, -⟩ := hyseva.open
  obtain ⟨ysemaA, ysemaC, ysemaB, ysemaO, rfl, -⟩ := hysema.open
  obtain ⟨ydaA, ydaC, ydaB, ydaO, rfl, -⟩ := hyda.open
  have hb0 := below_alloc2 (w := w) (.cells #[.int .i64 pty, .int .u64 pa, .int .u64 pb, .int .i64 pse.1, .int .i64 pse.2.1, .bool pse.2.2.1, .int .u64 pse.2.2.2.1, .slice xsevaA pse.2.2.2.2.1.length xsevaC, .slice xsemaA pse.2.2.2.2.2.length xsemaC, .slice xdaA pda.length xdaC] 85)
  have hb1 := below_alloc2 (w := w.alloc (.cells #[.int .i64 pty, .int .u64 pa, .int .u64 pb, .int .i64 pse.1, .int .i64 pse.2.1, .bool pse.2.2.1, .int .u64 pse.2.2.2.1, .slice xsevaA pse.2.2.2.2.1.length xsevaC, .slice xsemaA pse.2.2.2.2.2.length xsemaC, .slice xdaA pda.length xdaC] 85)) (.cells #[.int .i64 qty, .int .u64 qa, .int .u64 qb, .int .i64 qse.1, .int .i64 qse.2.1, .bool qse.2.2.1, .int .u64 qse.2.2.2.1, .slice ysevaA qse.2.2.2.2.1.length ysevaC, .slice ysemaA qse.2.2.2.2.2.length ysemaC, .slice ydaA qda.length ydaC] 85)
  have HB0 := Lib.hid (hb0.trans (hb1.mono (by simp)))
  have HP0 := Lib.hid (row_below hb1 (heap_alloc_new w (.cells #[.int .i64 pty, .int .u64 pa, .int .u64 pb, .int .i64 pse.1, .int .i64 pse.2.1, .bool pse.2.2.1, .int .u64 pse.2.2.2.1, .slice xsevaA pse.2.2.2.2.1.length xsevaC, .slice xsemaA pse.2.2.2.2.2.length xsemaC, .slice xdaA pda.length xdaC] 85)))
  have HQ0 := heap_alloc_new (w.alloc (.cells #[.int .i64 pty, .int .u64 pa, .int .u64 pb, .int .i64 pse.1, .int .i64 pse.2.1, .bool pse.2.2.1, .int .u64 pse.2.2.2.1, .slice xsevaA pse.2.2.2.2.1.length xsevaC, .slice xsemaA pse.2.2.2.2.2.length xsemaC, .slice xdaA pda.length xdaC] 85)) (.cells #[.int .i64 qty, .int .u64 qa, .int .u64 qb, .int .i64 qse.1, .int .i64 qse.2.1, .bool qse.2.2.1, .int .u64 qse.2.2.2.1, .slice ysevaA qse.2.2.2.2.1.length ysevaC, .slice ysemaA qse.2.2.2.2.2.length ysemaC, .slice ydaA qda.length ydaC] 85)
  rw [World.size_alloc] at HQ0
  have HQ0 := Lib.hid HQ0
  have HC3 := Lib.hid (fun (W : World) (hb : Below w.heap.size w W) => rcmp_Oxm (⟨_, _, rfl, hxseva.below hb, hxsema.below hb⟩ : OxmR W pse [.int .i64 pse.1, .int .i64 pse.2.1, .bool pse.2.2.1, .int .u64 pse.2.2.2.1, .slice xsevaA pse.2.2.2.2.1.length xsevaC, .slice xsemaA pse.2.2.2.2.2.length xsemaC]) (⟨_, _, rfl, hyseva.below hb, hysema.below hb⟩ : OxmR W qse [.int .i64 qse.1, .int .i64 qse.2.1, .bool qse.2.2.1, .int .u64 qse.2.2.2.1, .slice ysevaA qse.2.2.2.2.1.length ysevaC, .slice ysemaA qse.2.2.2.2.2.length ysemaC]))
  have HC4 := Lib.hid (fun (W : World) (hb : Below w.heap.size w W) => rbytes_eq (hxda.below hb) (hyda.below hb))
  clear H1 H2 hb0 hb1 hxseva hxsema hxda hyseva hysema hyda
  by_cases h0 : pty = qty
  · subst h0
    have e0 : (pty == pty) = true := by simp
    have f0 : (pty != pty) = false := by simp
    by_cases h1 : pa = qa
    · subst h1
      have e1 : (pa == pa) = true := by simp
      have f1 : (pa != pa) = false := by simp
      by_cases h2 : pb = qb
      · subst h2
        have e2 : (pb == pb) = true := by simp
        have f2 : (pb != pb) = false := by simp
        by_cases h3 : pse = qse
        · subst h3
          rw [decide_eq_true (Eq.refl _)] at HC3
          by_cases h4 : pda = qda
          · subst h4
            rw [decide_eq_true (Eq.refl _)] at HC4
            have HEQ : Hid (decide (((pty, pa, pb, pse, pda) : ActV) = (pty, pa, pb, pse, pda)) = true) := decide_eq_true rfl
            go_enter Tryz.func91, Tryz.ntmps91
            go_wp2_with fail
            refine (HC3.out _ HB0.out).mono ?_
            rintro e w1 ⟨rfl, hb⟩
            have HB1 := Lib.hid (HB0.out.trans (hb.mono HB0.out.size))
            have HP1 := Lib.hid (row_below hb HP0.out)
            have HQ1 := Lib.hid (row_below hb HQ0.out)
            have c0 := cell_row HP1.out 0
            have d0 := cell_row HQ1.out 0
            have c1 := cell_row HP1.out 1
            have d1 := cell_row HQ1.out 1
            have c2 := cell_row HP1.out 2
            have d2 := cell_row HQ1.out 2
            have c3 := cell_row HP1.out 3
            have d3 := cell_row HQ1.out 3
            have c4 := cell_row HP1.out 4
            have d4 := cell_row HQ1.out 4
            have c5 := cell_row HP1.out 5
            have d5 := cell_row HQ1.out 5
            have c6 := cell_row HP1.out 6
            have d6 := cell_row HQ1.out 6
            have c7 := cell_row HP1.out 7
            have d7 := cell_row HQ1.out 7
            have c8 := cell_row HP1.out 8
            have d8 := cell_row HQ1.out 8
            have c9 := cell_row HP1.out 9
            have d9 := cell_row HQ1.out 9
            clear hb
            go_wp2_with fail
            refine (HC4.out _ HB1.out).mono ?_
            rintro e w2 ⟨rfl, hb⟩
            have HB2 := Lib.hid (HB1.out.trans (hb.mono HB1.out.size))
            have HP2 := Lib.hid (row_below hb HP1.out)
            have HQ2 := Lib.hid (row_below hb HQ1.out)
            clear c0 d0 c1 d1 c2 d2 c3 d3 c4 d4 c5 d5 c6 d6 c7 d7 c8 d8 c9 d9
            have c0 := cell_row HP2.out 0
            have d0 := cell_row HQ2.out 0
            have c1 := cell_row HP2.out 1
            have d1 := cell_row HQ2.out 1
            have c2 := cell_row HP2.out 2
            have d2 := cell_row HQ2.out 2
            have c3 := cell_row HP2.out 3
            have d3 := cell_row HQ2.out 3
            have c4 := cell_row HP2.out 4
            have d4 := cell_row HQ2.out 4
            have c5 := cell_row HP2.out 5
            have d5 := cell_row HQ2.out 5
            have c6 := cell_row HP2.out 6
            have d6 := cell_row HQ2.out 6
            have c7 := cell_row HP2.out 7
            have d7 := cell_row HQ2.out 7
            have c8 := cell_row HP2.out 8
            have d8 := cell_row HQ2.out 8
            have c9 := cell_row HP2.out 9
            have d9 := cell_row HQ2.out 9
            clear hb
            go_wp2_with fail
            go_ret
            exact ⟨by first | (rw [HEQ.out]; rfl) | simp, HB2.out⟩
          · have HNE : Hid (decide (((pty, pa, pb, pse, pda) : ActV) = (pty, pa, pb, pse, qda)) = false) := decide_eq_false (fun e => h4 (congrArg (fun z : ActV => z.2.2.2.2) e))
            rw [decide_eq_false h4] at HC4
            clear h4
            go_enter Tryz.func91, Tryz.ntmps91
            go_wp2_with fail
            refine (HC3.out _ HB0.out).mono ?_
            rintro e w1 ⟨rfl, hb⟩
            have HB1 := Lib.hid (HB0.out.trans (hb.mono HB0.out.size))
            have HP1 := Lib.hid (row_below hb HP0.out)
            have HQ1 := Lib.hid (row_below hb HQ0.out)
            have c0 := cell_row HP1.out 0
            have d0 := cell_row HQ1.out 0
            have c1 := cell_row HP1.out 1
            have d1 := cell_row HQ1.out 1
            have c2 := cell_row HP1.out 2
            have d2 := cell_row HQ1.out 2
            have c3 := cell_row HP1.out 3
            have d3 := cell_row HQ1.out 3
            have c4 := cell_row HP1.out 4
            have d4 := cell_row HQ1.out 4
            have c5 := cell_row HP1.out 5
            have d5 := cell_row HQ1.out 5
            have c6 := cell_row HP1.out 6
            have d6 := cell_row HQ1.out 6
            have c7 := cell_row HP1.out 7
            have d7 := cell_row HQ1.out 7
            have c8 := cell_row HP1.out 8
            have d8 := cell_row HQ1.out 8
            have c9 := cell_row HP1.out 9
            have d9 := cell_row HQ1.out 9
            clear hb
            go_wp2_with fail
            refine (HC4.out _ HB1.out).mono ?_
            rintro e w2 ⟨rfl, hb⟩
            have HB2 := Lib.hid (HB1.out.trans (hb.mono HB1.out.size))
            have HP2 := Lib.hid (row_below hb HP1.out)
            have HQ2 := Lib.hid (row_below hb HQ1.out)
            clear c0 d0 c1 d1 c2 d2 c3 d3 c4 d4 c5 d5 c6 d6 c7 d7 c8 d8 c9 d9
            have c0 := cell_row HP2.out 0
            have d0 := cell_row HQ2.out 0
            have c1 := cell_row HP2.out 1
            have d1 := cell_row HQ2.out 1
            have c2 := cell_row HP2.out 2
            have d2 := cell_row HQ2.out 2
            have c3 := cell_row HP2.out 3
            have d3 := cell_row HQ2.out 3
            have c4 := cell_row HP2.out 4
            have d4 := cell_row HQ2.out 4
            have c5 := cell_row HP2.out 5
            have d5 := cell_row HQ2.out 5
            have c6 := cell_row HP2.out 6
            have d6 := cell_row HQ2.out 6
            have c7 := cell_row HP2.out 7
            have d7 := cell_row HQ2.out 7
            have c8 := cell_row HP2.out 8
            have d8 := cell_row HQ2.out 8
            have c9 := cell_row HP2.out 9
            have d9 := cell_row HQ2.out 9
            clear hb
            go_wp2_with fail
            go_ret
            exact ⟨by rw [HNE.out]; rfl, HB2.out⟩
        · have HNE : Hid (decide (((pty, pa, pb, pse, pda) : ActV) = (pty, pa, pb, qse, qda)) = false) := decide_eq_false (fun e => h3 (congrArg (fun z : ActV => z.2.2.2.1) e))
          rw [decide_eq_false h3] at HC3
          clear h3
          go_enter Tryz.func91, Tryz.ntmps91
          go_wp2_with fail
          refine (HC3.out _ HB0.out).mono ?_
          rintro e w1 ⟨rfl, hb⟩
          have HB1 := Lib.hid (HB0.out.trans (hb.mono HB0.out.size))
          have HP1 := Lib.hid (row_below hb HP0.out)
          have HQ1 := Lib.hid (row_below hb HQ0.out)
          have c0 := cell_row HP1.out 0
          have d0 := cell_row HQ1.out 0
          have c1 := cell_row HP1.out 1
          have d1 := cell_row HQ1.out 1
          have c2 := cell_row HP1.out 2
          have d2 := cell_row HQ1.out 2
          have c3 := cell_row HP1.out 3
          have d3 := cell_row HQ1.out 3
          have c4 := cell_row HP1.out 4
          have d4 := cell_row HQ1.out 4
          have c5 := cell_row HP1.out 5
          have d5 := cell_row HQ1.out 5
          have c6 := cell_row HP1.out 6
          have d6 := cell_row HQ1.out 6
          have c7 := cell_row HP1.out 7
          have d7 := cell_row HQ1.out 7
          have c8 := cell_row HP1.out 8
          have d8 := cell_row HQ1.out 8
          have c9 := cell_row HP1.out 9
          have d9 := cell_row HQ1.out 9
          clear hb
          go_wp2_with fail
          go_ret
          exact ⟨by rw [HNE.out]; rfl, HB1.out⟩
      · have HNE : Hid (decide (((pty, pa, pb, pse, pda) : ActV) = (pty, pa, qb, qse, qda)) = false) := decide_eq_false (fun e => h2 (congrArg (fun z : ActV => z.2.2.1) e))
        have e2 : (pb == qb) = false := by simpa using h2
        have f2 : (pb != qb) = true := by simpa using h2
        clear h2
        go_enter Tryz.func91, Tryz.ntmps91
        go_wp2_with fail
        go_ret
        exact ⟨by rw [HNE.out]; rfl, HB0.out⟩
    · have HNE : Hid (decide (((pty, pa, pb, pse, pda) : ActV) = (pty, qa, qb, qse, qda)) = false) := decide_eq_false (fun e => h1 (congrArg (fun z : ActV => z.2.1) e))
      have e1 : (pa == qa) = false := by simpa using h1
      have f1 : (pa != qa) = true := by simpa using h1
      clear h1
      go_enter Tryz.func91, Tryz.ntmps91
      go_wp2_with fail
      go_ret
      exact ⟨by rw [HNE.out]; rfl, HB0.out⟩
  · have HNE : Hid (decide (((pty, pa, pb, pse, pda) : ActV) = (qty, qa, qb, qse, qda)) = false) := decide_eq_false (fun e => h0 (congrArg (fun z : ActV => z.1) e))
    have e0 : (pty == qty) = false := by simpa using h0
    have f0 : (pty != qty) = true := by simpa using h0
    clear h0
    go_enter Tryz.func91, Tryz.ntmps91
    go_wp2_with fail
    go_ret
    exact ⟨by rw [HNE.out]; rfl, HB0.out⟩

theorem rsame_Act {v1 v2 : Value} {l m : List ActV} {w : World} (h1 : RowsOf ActR 10 w v1 l) (h2 : RowsOf ActR 10 w v2 m) : Calls Tryz.prog 41 #[v1, v2] w (GotEq (decide (l = m)) w) := by
  unfold GotEq
  obtain ⟨a, cap, b, off, rfl, hmx, ha, hit⟩ := rows_open h1
  obtain ⟨a2, cap2, b2, off2, rfl, hmx2, ha2, hit2⟩ := rows_open h2
  unfold maxLen at hmx hmx2
  have A := Lib.hid ha
  have A2 := Lib.hid ha2
  have HIt := Lib.hid hit
  have HIt2 := Lib.hid hit2
  clear h1 h2 ha ha2 hit hit2
  by_cases hl : l.length = m.length
  · have e1 : ((l.length : Int) != (l.length : Int)) = false := by simp
    have HL := Lib.hid hl
    rw [← hl]
    clear hl
    go_enter Tryz.func41, Tryz.ntmps41
    go_wp2_with fail
    go_loopw [4, 5] (fun r i wr => ∃ k : Nat, k ≤ l.length ∧ i = .int .i64 k ∧ r = .bool false ∧ Hid (Below w.heap.size w wr) ∧ Hid (l.take k = m.take k)) (fun _ i _ => l.length - (intOf i).toNat)
    case atStart => exact ⟨0, by omega, rfl, rfl, Below.refl _ _, rfl⟩
    case round =>
      obtain ⟨k, hk, rfl, rfl, HW, HT⟩ := hrel
      by_cases hlt : k < l.length
      · obtain rfl := A.out (by omega)
        obtain rfl := A2.out (by have := HL.out; omega)
        obtain ⟨x, hx⟩ : ∃ x, l[k]? = some x := ⟨_, List.getElem?_eq_getElem hlt⟩
        obtain ⟨y, hy⟩ : ∃ x, m[k]? = some x := ⟨_, List.getElem?_eq_getElem (by have := HL.out; omega)⟩
        obtain ⟨c1, h1, hc1⟩ := HIt.out k x hx
        obtain ⟨c2, h2, hc2⟩ := HIt2.out k y hy
        have HX := Lib.hid hx
        have HY := Lib.hid hy
        have HR1 := Lib.hid h1
        have HR2 := Lib.hid h2
        obtain ⟨xseva, xsema, xda, rfl, hxseva, hxsema, hxda⟩ := h1
        obtain ⟨yseva, ysema, yda, rfl, hyseva, hysema, hyda⟩ := h2
        obtain ⟨xsevaA, xsevaC, xsevaB, xsevaO, rfl, -⟩ := hxseva.open
        obtain ⟨xsemaA, xsemaC, xsemaB, xsemaO, rfl, -⟩ := hxsema.open
        obtain ⟨xdaA, xdaC, xdaB, xdaO, rfl, -⟩ := hxda.open
        obtain ⟨ysevaA, ysevaC, ysevaB, ysevaO, rfl, -⟩ := hyseva.open
        obtain ⟨ysemaA, ysemaC, ysemaB, ysemaO, rfl, -⟩ := hysema.open
        obtain ⟨ydaA, ydaC, ydaB, ydaO, rfl, -⟩ := hyda.open
        have hbw := HW.out
        have x0 : w.cell? ⟨b, off + k * 10, none⟩ = some (.int .i64 x.1) := hc1 0 _ rfl
        have x1 : w.cell? ⟨b, off + k * 10 + 1, none⟩ = some (.int .u64 x.2.1) := hc1 1 _ rfl
        have x2 : w.cell? ⟨b, off + k * 10 + 2, none⟩ = some (.int .u64 x.2.2.1) := hc1 2 _ rfl
        have x3 : w.cell? ⟨b, off + k * 10 + 3, none⟩ = some (.int .i64 x.2.2.2.1.1) := hc1 3 _ rfl
        have x4 : w.cell? ⟨b, off + k * 10 + 4, none⟩ = some (.int .i64 x.2.2.2.1.2.1) := hc1 4 _ rfl
        have x5 : w.cell? ⟨b, off + k * 10 + 5, none⟩ = some (.bool x.2.2.2.1.2.2.1) := hc1 5 _ rfl
        have x6 : w.cell? ⟨b, off + k * 10 + 6, none⟩ = some (.int .u64 x.2.2.2.1.2.2.2.1) := hc1 6 _ rfl
        have x7 : w.cell? ⟨b, off + k * 10 + 7, none⟩ = some (.slice xsevaA x.2.2.2.1.2.2.2.2.1.length xsevaC) := hc1 7 _ rfl
        have x8 : w.cell? ⟨b, off + k * 10 + 8, none⟩ = some (.slice xsemaA x.2.2.2.1.2.2.2.2.2.length xsemaC) := hc1 8 _ rfl
        have x9 : w.cell? ⟨b, off + k * 10 + 9, none⟩ = some (.slice xdaA x.2.2.2.2.length xdaC) := hc1 9 _ rfl
        have y0 : w.cell? ⟨b2, off2 + k * 10, none⟩ = some (.int .i64 y.1) := hc2 0 _ rfl
        have y1 : w.cell? ⟨b2, off2 + k * 10 + 1, none⟩ = some (.int .u64 y.2.1) := hc2 1 _ rfl
        have y2 : w.cell? ⟨b2, off2 + k * 10 + 2, none⟩ = some (.int .u64 y.2.2.1) := hc2 2 _ rfl
        have y3 : w.cell? ⟨b2, off2 + k * 10 + 3, none⟩ = some (.int .i64 y.2.2.2.1.1) := hc2 3 _ rfl
        have y4 : w.cell? ⟨b2, off2 + k * 10 + 4, none⟩ = some (.int .i64 y.2.2.2.1.2.1) := hc2 4 _ rfl
        have y5 : w.cell? ⟨b2, off2 + k * 10 + 5, none⟩ = some (.bool y.2.2.2.1.2.2.1) := hc2 5 _ rfl
        have y6 : w.cell? ⟨b2, off2 + k * 10 + 6, none⟩ = some (.int .u64 y.2.2.2.1.2.2.2.1) := hc2 6 _ rfl
        have y7 : w.cell? ⟨b2, off2 + k * 10 + 7, none⟩ = some (.slice ysevaA y.2.2.2.1.2.2.2.2.1.length ysevaC) := hc2 7 _ rfl
        have y8 : w.cell? ⟨b2, off2 + k * 10 + 8, none⟩ = some (.slice ysemaA y.2.2.2.1.2.2.2.2.2.length ysemaC) := hc2 8 _ rfl
        have y9 : w.cell? ⟨b2, off2 + k * 10 + 9, none⟩ = some (.slice ydaA y.2.2.2.2.length ydaC) := hc2 9 _ rfl
        have x0 := (hbw.cell (World.block_lt_of_cell? _ _ x0)).trans x0
        have y0 := (hbw.cell (World.block_lt_of_cell? _ _ y0)).trans y0
        have x1 := (hbw.cell (World.block_lt_of_cell? _ _ x1)).trans x1
        have y1 := (hbw.cell (World.block_lt_of_cell? _ _ y1)).trans y1
        have x2 := (hbw.cell (World.block_lt_of_cell? _ _ x2)).trans x2
        have y2 := (hbw.cell (World.block_lt_of_cell? _ _ y2)).trans y2
        have x3 := (hbw.cell (World.block_lt_of_cell? _ _ x3)).trans x3
        have y3 := (hbw.cell (World.block_lt_of_cell? _ _ y3)).trans y3
        have x4 := (hbw.cell (World.block_lt_of_cell? _ _ x4)).trans x4
        have y4 := (hbw.cell (World.block_lt_of_cell? _ _ y4)).trans y4
        have x5 := (hbw.cell (World.block_lt_of_cell? _ _ x5)).trans x5
        have y5 := (hbw.cell (World.block_lt_of_cell? _ _ y5)).trans y5
        have x6 := (hbw.cell (World.block_lt_of_cell? _ _ x6)).trans x6
        have y6 := (hbw.cell (World.block_lt_of_cell? _ _ y6)).trans y6
        have x7 := (hbw.cell (World.block_lt_of_cell? _ _ x7)).trans x7
        have y7 := (hbw.cell (World.block_lt_of_cell? _ _ y7)).trans y7
        have x8 := (hbw.cell (World.block_lt_of_cell? _ _ x8)).trans x8
        have y8 := (hbw.cell (World.block_lt_of_cell? _ _ y8)).trans y8
        have x9 := (hbw.cell (World.block_lt_of_cell? _ _ x9)).trans x9
        have y9 := (hbw.cell (World.block_lt_of_cell? _ _ y9)).trans y9
        have HWd := Lib.hid (below_drewN hbw 1)
        have HEq := Lib.hid (fun (W : World) (hb : Below w.heap.size w W) => rcmp_Act (ActR.lasts _ _ _ _ hb HR1.out) (ActR.lasts _ _ _ _ hb HR2.out))
        have hlt' : (k : Int) < l.length := by omega
        clear hbw hx hy hc1 hc2 HR1 HR2 hxseva hxsema hxda hyseva hysema hyda
        by_cases hpq : x = y
        · have HY : Hid (m[k]? = some x) := Lib.hid (HY.out.trans (by rw [hpq]))
          rw [decide_eq_true hpq] at HEq
          clear hpq
          go_wp2_with fail
          go_still_tail 8, (by kernel_rfl)
          go_wp2_with fail
          refine (HEq.out _ HWd.out).mono ?_
          rintro e w3 ⟨rfl, hb⟩
          have HB3 := Lib.hid (HWd.out.trans (hb.mono HWd.out.size))
          clear hb
          go_wp2_with fail
          go_roundw
          case rel => exact ⟨k + 1, by omega, by go_num, rfl, HB3.out, take_both HX.out HY.out HT.out⟩
          case measure => simp [intOf]; omega
        · have HNE : Hid (decide (l = m) = false) := decide_eq_false (get_ne HX.out HY.out hpq)
          rw [decide_eq_false hpq] at HEq
          clear hpq
          go_wp2_with fail
          go_still_tail 8, (by kernel_rfl)
          go_wp2_with fail
          refine (HEq.out _ HWd.out).mono ?_
          rintro e w3 ⟨rfl, hb⟩
          have HB3 := Lib.hid (HWd.out.trans (hb.mono HWd.out.size))
          clear hb
          go_wp2_with fail
          go_ret
          exact ⟨by rw [HNE.out]; rfl, HB3.out⟩
      · obtain rfl : k = l.length := by omega
        have HE : Hid (decide (l = m) = true) := by
          have := HT.out
          rw [List.take_length, HL.out, List.take_length] at this
          exact decide_eq_true this
        go_wp2_with fail
        go_ret
        exact ⟨by rw [HE.out]; rfl, HW.out⟩
  · have HNE : Hid (decide (l = m) = false) := decide_eq_false (fun e => hl (by rw [e]))
    have hb : ((l.length : Int) != (m.length : Int)) = true := by simp; omega
    clear hl
    go_enter Tryz.func41, Tryz.ntmps41
    go_wp2
    go_ret
    exact ⟨by rw [HNE.out]; rfl, Below.refl _ _⟩
end Go.Proofs.YtcebcncpbedkmaaGreat
