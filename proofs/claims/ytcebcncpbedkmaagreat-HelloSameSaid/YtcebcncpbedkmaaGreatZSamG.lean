/- Whether two parts, two lists of parts are the same: the walks of the program. Conditions: none. -/
import Derived.Test.YtcebcncpbedkmaaGreatZSamF
import Derived.Test.YtcebcncpbedkmaaGreatZSamD
namespace Go.Proofs.YtcebcncpbedkmaaGreat
open Go Go.RowKit
set_option maxRecDepth 100000
set_option maxHeartbeats 8000000

theorem eqf_Nums {v1 v2 : Value} {l m : List (List Int)} {w : World} (h1 : RowsOf NumsR 1 w v1 l) (h2 : RowsOf NumsR 1 w v2 m) :
    Calls Tryz.prog 71 #[v1, v2, .func (.func 24) #[] #[]] w (GotEq (decide (l = m)) w) := by
  unfold GotEq
  obtain ⟨a, cap, b, off, rfl, hmx, ha, hit⟩ := rows_open h1
  obtain ⟨a2, cap2, b2, off2, rfl, hmx2, ha2, hit2⟩ := rows_open h2
  unfold maxLen at hmx hmx2
  have A := Lib.hid ha
  have A2 := Lib.hid ha2
  have HIt := Lib.hid hit
  have HIt2 := Lib.hid hit2
  clear h1 h2 ha ha2 hit hit2
  by_cases hl : l.length = m.length
  · have e1 : ((l.length : Int) != (l.length : Int)) = false := by simp
    have HL := Lib.hid hl
    rw [← hl]
    clear hl
    go_enter Tryz.func71, Tryz.ntmps71
    go_wp2_with fail
    go_loopw [17] (fun i wr => ∃ k : Nat, k ≤ l.length ∧ i = .int .i64 k ∧ Hid (Below w.heap.size w wr) ∧ Hid (l.take k = m.take k)) (fun i _ => l.length - (intOf i).toNat)
    case atStart => exact ⟨0, by omega, rfl, Below.refl _ _, rfl⟩
    case round =>
      obtain ⟨k, hk, rfl, HW, HT⟩ := hrel
      by_cases hlt : k < l.length
      · obtain rfl := A.out (by omega)
        obtain rfl := A2.out (by have := HL.out; omega)
        obtain ⟨x, hx⟩ : ∃ x, l[k]? = some x := ⟨_, List.getElem?_eq_getElem hlt⟩
        obtain ⟨y, hy⟩ : ∃ x, m[k]? = some x := ⟨_, List.getElem?_eq_getElem (by have := HL.out; omega)⟩
        obtain ⟨c1, hr1, hc1⟩ := HIt.out k x hx
        obtain ⟨c2, hr2, hc2⟩ := HIt2.out k y hy
        have HX := Lib.hid hx
        have HY := Lib.hid hy
        have HR1 := Lib.hid hr1
        have HR2 := Lib.hid hr2
        obtain ⟨u1, rfl, hu1⟩ := hr1
        obtain ⟨u2, rfl, hu2⟩ := hr2
        obtain ⟨u1A, u1C, u1B, u1O, rfl, -⟩ := hu1.open
        obtain ⟨u2A, u2C, u2B, u2O, rfl, -⟩ := hu2.open
        have e3 : decide ((k : Int) < (l.length : Int)) = true := decide_eq_true (by omega)
        have hlt2 : k < m.length := by have := HL.out; omega
        have hbw := HW.out
        have x0 : w.cell? ⟨b, off + k, none⟩ = some (.slice u1A x.length u1C) := by have := hc1 0 _ rfl; rwa [Nat.mul_one, Nat.add_zero] at this
        have y0 : w.cell? ⟨b2, off2 + k, none⟩ = some (.slice u2A y.length u2C) := by have := hc2 0 _ rfl; rwa [Nat.mul_one, Nat.add_zero] at this
        have x0 := (hbw.cell (World.block_lt_of_cell? _ _ x0)).trans x0
        have y0 := (hbw.cell (World.block_lt_of_cell? _ _ y0)).trans y0
        have HBw2 := Lib.hid hbw
        have HEq := Lib.hid (nums_eq (hu1.below hbw) (hu2.below hbw))
        unfold GotEq at HEq
        clear hbw hx hy hc1 hc2 HR1 HR2 hu1 hu2
        by_cases hpq : x = y
        · have HY : Hid (m[k]? = some x) := Lib.hid (HY.out.trans (by rw [hpq]))
          rw [decide_eq_true hpq] at HEq
          clear hpq
          go_wp2_with fail
          refine HEq.out.mono ?_
          rintro e w3 ⟨rfl, hb⟩
          have HB3 := Lib.hid (HBw2.out.trans (hb.mono HBw2.out.size))
          clear hb
          go_wp2_with fail
          go_roundw
          case rel => exact ⟨k + 1, by omega, by go_num, HB3.out, take_both HX.out HY.out HT.out⟩
          case measure => simp [intOf]; omega
        · have HNE : Hid (decide (l = m) = false) := decide_eq_false (get_ne HX.out HY.out hpq)
          rw [decide_eq_false hpq] at HEq
          clear hpq
          go_wp2_with fail
          refine HEq.out.mono ?_
          rintro e w3 ⟨rfl, hb⟩
          have HB3 := Lib.hid (HBw2.out.trans (hb.mono HBw2.out.size))
          clear hb
          go_wp2_with fail
          go_ret
          exact ⟨by rw [HNE.out]; rfl, HB3.out⟩
      · obtain rfl : k = l.length := by omega
        have HE : Hid (decide (l = m) = true) := by
          have := HT.out
          rw [List.take_length, HL.out, List.take_length] at this
          exact decide_eq_true this
        go_wp2_with fail
        go_ret
        exact ⟨by rw [HE.out]; rfl, HW.out⟩
  · have HNE : Hid (decide (l = m) = false) := decide_eq_false (fun e => hl (by rw [e]))
    have hb : ((l.length : Int) != (m.length : Int)) = true := by simp; omega
    clear hl
    go_enter Tryz.func71, Tryz.ntmps71
    go_wp2_with fail
    go_ret
    exact ⟨by rw [HNE.out]; rfl, Below.refl _ _⟩

theorem cmp_Part {p q : PartV} {c d : List Value} {w : World} (h1 : PartR w p c) (h2 : PartR w q d) : Calls Tryz.prog 29 #[.agg c.toArray, .agg d.toArray] w (GotEq (decide (p = q)) w) := by
  unfold GotEq
  have H1 := Lib.hid h1
  have H2 := Lib.hid h2
  obtain ⟨pnu, pte, pma, pin, pbu, pba, pro, ppo, pta, pda⟩ := p
  obtain ⟨qnu, qte, qma, qin, qbu, qba, qro, qpo, qta, qda⟩ := q
  obtain ⟨xnu, xte, xma, xin, xbu, xba, xro, xpo, xta, xda, rfl, hxnu, hxte, hxma, hxin, hxbu, hxba, hxro, hxpo, hxta, hxda⟩ := h1
  obtain ⟨ynu, yte, yma, yin, ybu, yba, yro, ypo, yta, yda, rfl, hynu, hyte, hyma, hyin, hybu, hyba, hyro, hypo, hyta, hyda⟩ := h2
  dsimp only at *
  obtain ⟨xnuA, xnuC, xnuB, xnuO, rfl, -⟩ := hxnu.open
  obtain ⟨xteA, xteC, xteB, xteO, rfl, -⟩ := rows_open hxte
  obtain ⟨xmaA, xmaC, xmaB, xmaO, rfl, -⟩ := rows_open hxma
  obtain ⟨xinA, xinC, xinB, xinO, rfl, -⟩ := rows_open hxin
  obtain ⟨xbuA, xbuC, xbuB, xbuO, rfl, -⟩ := rows_open hxbu
  obtain ⟨xbaA, xbaC, xbaB, xbaO, rfl, -⟩ := rows_open hxba
  obtain ⟨xroA, xroC, xroB, xroO, rfl, -⟩ := rows_open hxro
  obtain ⟨xpoA, xpoC, xpoB, xpoO, rfl, -⟩ := rows_open hxpo
  obtain ⟨xtaA, xtaC, xtaB, xtaO, rfl, -⟩ := rows_open hxta
  obtain ⟨xdaA, xdaC, xdaB, xdaO, rfl, -⟩ := hxda.open
  obtain ⟨ynuA, ynuC, ynuB, ynuO, rfl, -⟩ := hynu.open
  obtain ⟨yteA, yteC, yteB, yteO, rfl, -⟩ := rows_open hyte
  obtain ⟨ymaA, ymaC, ymaB, ymaO, rfl, -⟩ := rows_open hyma
  obtain ⟨yinA, yinC, yinB, yinO, rfl, -⟩ := rows_open hyin
  obtain ⟨ybuA, ybuC, ybuB, ybuO, rfl, -⟩ := rows_open hybu
  obtain ⟨ybaA, ybaC, ybaB, ybaO, rfl, -⟩ := rows_open hyba
  obtain ⟨yroA, yroC, yroB, yroO, rfl, -⟩ := rows_open hyro
  obtain ⟨ypoA, ypoC, ypoB, ypoO, rfl, -⟩ := rows_open hypo
  obtain ⟨ytaA, ytaC, ytaB, ytaO, rfl, -⟩ := rows_open hyta
  obtain ⟨ydaA, ydaC, ydaB, ydaO, rfl, -⟩ := hyda.open
  have hb0 := below_alloc2 (w := w) (.cells #[.slice xnuA pnu.length xnuC, .slice xteA pte.length xteC, .slice xmaA pma.length xmaC, .slice xinA pin.length xinC, .slice xbuA pbu.length xbuC, .slice xbaA pba.length xbaC, .slice xroA pro.length xroC, .slice xpoA ppo.length xpoC, .slice xtaA pta.length xtaC, .slice xdaA pda.length xdaC] 46)
  have hb1 := below_alloc2 (w := w.alloc (.cells #[.slice xnuA pnu.length xnuC, .slice xteA pte.length xteC, .slice xmaA pma.length xmaC, .slice xinA pin.length xinC, .slice xbuA pbu.length xbuC, .slice xbaA pba.length xbaC, .slice xroA pro.length xroC, .slice xpoA ppo.length xpoC, .slice xtaA pta.length xtaC, .slice xdaA pda.length xdaC] 46)) (.cells #[.slice ynuA qnu.length ynuC, .slice yteA qte.length yteC, .slice ymaA qma.length ymaC, .slice yinA qin.length yinC, .slice ybuA qbu.length ybuC, .slice ybaA qba.length ybaC, .slice yroA qro.length yroC, .slice ypoA qpo.length ypoC, .slice ytaA qta.length ytaC, .slice ydaA qda.length ydaC] 46)
  have HB0 := Lib.hid (hb0.trans (hb1.mono (by simp)))
  have HP0 := Lib.hid (row_below hb1 (heap_alloc_new w (.cells #[.slice xnuA pnu.length xnuC, .slice xteA pte.length xteC, .slice xmaA pma.length xmaC, .slice xinA pin.length xinC, .slice xbuA pbu.length xbuC, .slice xbaA pba.length xbaC, .slice xroA pro.length xroC, .slice xpoA ppo.length xpoC, .slice xtaA pta.length xtaC, .slice xdaA pda.length xdaC] 46)))
  have HQ0 := heap_alloc_new (w.alloc (.cells #[.slice xnuA pnu.length xnuC, .slice xteA pte.length xteC, .slice xmaA pma.length xmaC, .slice xinA pin.length xinC, .slice xbuA pbu.length xbuC, .slice xbaA pba.length xbaC, .slice xroA pro.length xroC, .slice xpoA ppo.length xpoC, .slice xtaA pta.length xtaC, .slice xdaA pda.length xdaC] 46)) (.cells #[.slice ynuA qnu.length ynuC, .slice yteA qte.length yteC, .slice ymaA qma.length ymaC, .slice yinA qin.length yinC, .slice ybuA qbu.length ybuC, .slice ybaA qba.length ybaC, .slice yroA qro.length yroC, .slice ypoA qpo.length ypoC, .slice ytaA qta.length ytaC, .slice ydaA qda.length ydaC] 46)
  rw [World.size_alloc] at HQ0
  have HQ0 := Lib.hid HQ0
  have HC0 := Lib.hid (fun (W : World) (hb : Below w.heap.size w W) => nums_eq (hxnu.below hb) (hynu.below hb))
  have HC1 := Lib.hid (fun (W : World) (hb : Below w.heap.size w W) => texts_eq (hxte.below TextR.lasts hb) (hyte.below TextR.lasts hb))
  have HC2 := Lib.hid (fun (W : World) (hb : Below w.heap.size w W) => bytes_eq (hxda.below hb) (hyda.below hb))
  have HC3 := Lib.hid (fun (W : World) (hb : Below w.heap.size w W) => eqf_Nums (hxro.below NumsR.lasts hb) (hyro.below NumsR.lasts hb))
  have HC4 := Lib.hid (fun (W : World) (hb : Below w.heap.size w W) => same_Oxm (hxma.below OxmR.lasts hb) (hyma.below OxmR.lasts hb))
  have HC5 := Lib.hid (fun (W : World) (hb : Below w.heap.size w W) => same_Ins (hxin.below InsR.lasts hb) (hyin.below InsR.lasts hb))
  have HC6 := Lib.hid (fun (W : World) (hb : Below w.heap.size w W) => same_Bucket (hxbu.below BucketR.lasts hb) (hybu.below BucketR.lasts hb))
  have HC7 := Lib.hid (fun (W : World) (hb : Below w.heap.size w W) => same_Band (hxba.below BandR.lasts hb) (hyba.below BandR.lasts hb))
  have HC8 := Lib.hid (fun (W : World) (hb : Below w.heap.size w W) => same_Port (hxpo.below PortR.lasts hb) (hypo.below PortR.lasts hb))
  have HC9 := Lib.hid (fun (W : World) (hb : Below w.heap.size w W) => same_Table (hxta.below TableR.lasts hb) (hyta.below TableR.lasts hb))
  clear H1 H2 hb0 hb1 hxnu hxte hxma hxin hxbu hxba hxro hxpo hxta hxda hynu hyte hyma hyin hybu hyba hyro hypo hyta hyda
  by_cases h0 : pnu = qnu
  · subst h0
    rw [decide_eq_true (Eq.refl _)] at HC0
    by_cases h1 : pte = qte
    · subst h1
      rw [decide_eq_true (Eq.refl _)] at HC1
      by_cases h2 : pda = qda
      · subst h2
        rw [decide_eq_true (Eq.refl _)] at HC2
        by_cases h3 : pro = qro
        · subst h3
          rw [decide_eq_true (Eq.refl _)] at HC3
          by_cases h4 : pma = qma
          · subst h4
            rw [decide_eq_true (Eq.refl _)] at HC4
            by_cases h5 : pin = qin
            · subst h5
              rw [decide_eq_true (Eq.refl _)] at HC5
              by_cases h6 : pbu = qbu
              · subst h6
                rw [decide_eq_true (Eq.refl _)] at HC6
                by_cases h7 : pba = qba
                · subst h7
                  rw [decide_eq_true (Eq.refl _)] at HC7
                  by_cases h8 : ppo = qpo
                  · subst h8
                    rw [decide_eq_true (Eq.refl _)] at HC8
                    by_cases h9 : pta = qta
                    · subst h9
                      rw [decide_eq_true (Eq.refl _)] at HC9
                      have HEQ : Hid (decide (((pnu, pte, pma, pin, pbu, pba, pro, ppo, pta, pda) : PartV) = (pnu, pte, pma, pin, pbu, pba, pro, ppo, pta, pda)) = true) := decide_eq_true rfl
                      go_enter Tryz.func29, Tryz.ntmps29
                      go_wp2_with fail
                      refine (HC0.out _ HB0.out).mono ?_
                      rintro e w1 ⟨rfl, hb⟩
                      have HB1 := Lib.hid (HB0.out.trans (hb.mono HB0.out.size))
                      have HP1 := Lib.hid (row_below hb HP0.out)
                      have HQ1 := Lib.hid (row_below hb HQ0.out)
                      have c0 := cell_row HP1.out 0
                      have d0 := cell_row HQ1.out 0
                      have c1 := cell_row HP1.out 1
                      have d1 := cell_row HQ1.out 1
                      have c2 := cell_row HP1.out 2
                      have d2 := cell_row HQ1.out 2
                      have c3 := cell_row HP1.out 3
                      have d3 := cell_row HQ1.out 3
                      have c4 := cell_row HP1.out 4
                      have d4 := cell_row HQ1.out 4
                      have c5 := cell_row HP1.out 5
                      have d5 := cell_row HQ1.out 5
                      have c6 := cell_row HP1.out 6
                      have d6 := cell_row HQ1.out 6
                      have c7 := cell_row HP1.out 7
                      have d7 := cell_row HQ1.out 7
                      have c8 := cell_row HP1.out 8
                      have d8 := cell_row HQ1.out 8
                      have c9 := cell_row HP1.out 9
                      have d9 := cell_row HQ1.out 9
                      clear hb
                      go_wp2_with fail
                      refine (HC1.out _ HB1.out).mono ?_
                      rintro e w2 ⟨rfl, hb⟩
                      have HB2 := Lib.hid (HB1.out.trans (hb.mono HB1.out.size))
                      have HP2 := Lib.hid (row_below hb HP1.out)
                      have HQ2 := Lib.hid (row_below hb HQ1.out)
                      clear c0 d0 c1 d1 c2 d2 c3 d3 c4 d4 c5 d5 c6 d6 c7 d7 c8 d8 c9 d9
                      have c0 := cell_row HP2.out 0
                      have d0 := cell_row HQ2.out 0
                      have c1 := cell_row HP2.out 1
                      have d1 := cell_row HQ2.out 1
                      have c2 := cell_row HP2.out 2
                      have d2 := cell_row HQ2.out 2
                      have c3 := cell_row HP2.out 3
                      have d3 := cell_row HQ2.out 3
                      have c4 := cell_row HP2.out 4
                      have d4 := cell_row HQ2.out 4
                      have c5 := cell_row HP2.out 5
                      have d5 := cell_row HQ2.out 5
                      have c6 := cell_row HP2.out 6
                      have d6 := cell_row HQ2.out 6
                      have c7 := cell_row HP2.out 7
                      have d7 := cell_row HQ2.out 7
                      have c8 := cell_row HP2.out 8
                      have d8 := cell_row HQ2.out 8
                      have c9 := cell_row HP2.out 9
                      have d9 := cell_row HQ2.out 9
                      clear hb
                      go_wp2_with fail
                      refine (HC2.out _ HB2.out).mono ?_
                      rintro e w3 ⟨rfl, hb⟩
                      have HB3 := Lib.hid (HB2.out.trans (hb.mono HB2.out.size))
                      have HP3 := Lib.hid (row_below hb HP2.out)
                      have HQ3 := Lib.hid (row_below hb HQ2.out)
                      clear c0 d0 c1 d1 c2 d2 c3 d3 c4 d4 c5 d5 c6 d6 c7 d7 c8 d8 c9 d9
                      have c0 := cell_row HP3.out 0
                      have d0 := cell_row HQ3.out 0
                      have c1 := cell_row HP3.out 1
                      have d1 := cell_row HQ3.out 1
                      have c2 := cell_row HP3.out 2
                      have d2 := cell_row HQ3.out 2
                      have c3 := cell_row HP3.out 3
                      have d3 := cell_row HQ3.out 3
                      have c4 := cell_row HP3.out 4
                      have d4 := cell_row HQ3.out 4
                      have c5 := cell_row HP3.out 5
                      have d5 := cell_row HQ3.out 5
                      have c6 := cell_row HP3.out 6
                      have d6 := cell_row HQ3.out 6
                      have c7 := cell_row HP3.out 7
                      have d7 := cell_row HQ3.out 7
                      have c8 := cell_row HP3.out 8
                      have d8 := cell_row HQ3.out 8
                      have c9 := cell_row HP3.out 9
                      have d9 := cell_row HQ3.out 9
                      clear hb
                      go_wp2_with fail
                      refine (HC3.out _ HB3.out).mono ?_
                      rintro e w4 ⟨rfl, hb⟩
                      have HB4 := Lib.hid (HB3.out.trans (hb.mono HB3.out.size))
                      have HP4 := Lib.hid (row_below hb HP3.out)
                      have HQ4 := Lib.hid (row_below hb HQ3.out)
                      clear c0 d0 c1 d1 c2 d2 c3 d3 c4 d4 c5 d5 c6 d6 c7 d7 c8 d8 c9 d9
                      have c0 := cell_row HP4.out 0
                      have d0 := cell_row HQ4.out 0
                      have c1 := cell_row HP4.out 1
                      have d1 := cell_row HQ4.out 1
                      have c2 := cell_row HP4.out 2
                      have d2 := cell_row HQ4.out 2
                      have c3 := cell_row HP4.out 3
                      have d3 := cell_row HQ4.out 3
                      have c4 := cell_row HP4.out 4
                      have d4 := cell_row HQ4.out 4
                      have c5 := cell_row HP4.out 5
                      have d5 := cell_row HQ4.out 5
                      have c6 := cell_row HP4.out 6
                      have d6 := cell_row HQ4.out 6
                      have c7 := cell_row HP4.out 7
                      have d7 := cell_row HQ4.out 7
                      have c8 := cell_row HP4.out 8
                      have d8 := cell_row HQ4.out 8
                      have c9 := cell_row HP4.out 9
                      have d9 := cell_row HQ4.out 9
                      clear hb
                      go_wp2_with fail
                      refine (HC4.out _ HB4.out).mono ?_
                      rintro e w5 ⟨rfl, hb⟩
                      have HB5 := Lib.hid (HB4.out.trans (hb.mono HB4.out.size))
                      have HP5 := Lib.hid (row_below hb HP4.out)
                      have HQ5 := Lib.hid (row_below hb HQ4.out)
                      clear c0 d0 c1 d1 c2 d2 c3 d3 c4 d4 c5 d5 c6 d6 c7 d7 c8 d8 c9 d9
                      have c0 := cell_row HP5.out 0
                      have d0 := cell_row HQ5.out 0
                      have c1 := cell_row HP5.out 1
                      have d1 := cell_row HQ5.out 1
                      have c2 := cell_row HP5.out 2
                      have d2 := cell_row HQ5.out 2
                      have c3 := cell_row HP5.out 3
                      have d3 := cell_row HQ5.out 3
                      have c4 := cell_row HP5.out 4
                      have d4 := cell_row HQ5.out 4
                      have c5 := cell_row HP5.out 5
                      have d5 := cell_row HQ5.out 5
                      have c6 := cell_row HP5.out 6
                      have d6 := cell_row HQ5.out 6
                      have c7 := cell_row HP5.out 7
                      have d7 := cell_row HQ5.out 7
                      have c8 := cell_row HP5.out 8
                      have d8 := cell_row HQ5.out 8
                      have c9 := cell_row HP5.out 9
                      have d9 := cell_row HQ5.out 9
                      clear hb
                      go_wp2_with fail
                      refine (HC5.out _ HB5.out).mono ?_
                      rintro e w6 ⟨rfl, hb⟩
                      have HB6 := Lib.hid (HB5.out.trans (hb.mono HB5.out.size))
                      have HP6 := Lib.hid (row_below hb HP5.out)
                      have HQ6 := Lib.hid (row_below hb HQ5.out)
                      clear c0 d0 c1 d1 c2 d2 c3 d3 c4 d4 c5 d5 c6 d6 c7 d7 c8 d8 c9 d9
                      have c0 := cell_row HP6.out 0
                      have d0 := cell_row HQ6.out 0
                      have c1 := cell_row HP6.out 1
                      have d1 := cell_row HQ6.out 1
                      have c2 := cell_row HP6.out 2
                      have d2 := cell_row HQ6.out 2
                      have c3 := cell_row HP6.out 3
                      have d3 := cell_row HQ6.out 3
                      have c4 := cell_row HP6.out 4
                      have d4 := cell_row HQ6.out 4
                      have c5 := cell_row HP6.out 5
                      have d5 := cell_row HQ6.out 5
                      have c6 := cell_row HP6.out 6
                      have d6 := cell_row HQ6.out 6
                      have c7 := cell_row HP6.out 7
                      have d7 := cell_row HQ6.out 7
                      have c8 := cell_row HP6.out 8
                      have d8 := cell_row HQ6.out 8
                      have c9 := cell_row HP6.out 9
                      have d9 := cell_row HQ6.out 9
                      clear hb
                      go_wp2_with fail
                      refine (HC6.out _ HB6.out).mono ?_
                      rintro e w7 ⟨rfl, hb⟩
                      have HB7 := Lib.hid (HB6.out.trans (hb.mono HB6.out.size))
                      have HP7 := Lib.hid (row_below hb HP6.out)
                      have HQ7 := Lib.hid (row_below hb HQ6.out)
                      clear c0 d0 c1 d1 c2 d2 c3 d3 c4 d4 c5 d5 c6 d6 c7 d7 c8 d8 c9 d9
                      have c0 := cell_row HP7.out 0
                      have d0 := cell_row HQ7.out 0
                      have c1 := cell_row HP7.out 1
                      have d1 := cell_row HQ7.out 1
                      have c2 := cell_row HP7.out 2
                      have d2 := cell_row HQ7.out 2
                      have c3 := cell_row HP7.out 3
                      have d3 := cell_row HQ7.out 3
                      have c4 := cell_row HP7.out 4
                      have d4 := cell_row HQ7.out 4
                      have c5 := cell_row HP7.out 5
                      have d5 := cell_row HQ7.out 5
                      have c6 := cell_row HP7.out 6
                      have d6 := cell_row HQ7.out 6
                      have c7 := cell_row HP7.out 7
                      have d7 := cell_row HQ7.out 7
                      have c8 := cell_row HP7.out 8
                      have d8 := cell_row HQ7.out 8
                      have c9 := cell_row HP7.out 9
                      have d9 := cell_row HQ7.out 9
                      clear hb
                      go_wp2_with fail
                      refine (HC7.out _ HB7.out).mono ?_
                      rintro e w8 ⟨rfl, hb⟩
                      have HB8 := Lib.hid (HB7.out.trans (hb.mono HB7.out.size))
                      have HP8 := Lib.hid (row_below hb HP7.out)
                      have HQ8 := Lib.hid (row_below hb HQ7.out)
                      clear c0 d0 c1 d1 c2 d2 c3 d3 c4 d4 c5 d5 c6 d6 c7 d7 c8 d8 c9 d9
                      have c0 := cell_row HP8.out 0
                      have d0 := cell_row HQ8.out 0
                      have c1 := cell_row HP8.out 1
                      have d1 := cell_row HQ8.out 1
                      have c2 := cell_row HP8.out 2
                      have d2 := cell_row HQ8.out 2
                      have c3 := cell_row HP8.out 3
                      have d3 := cell_row HQ8.out 3
                      have c4 := cell_row HP8.out 4
                      have d4 := cell_row HQ8.out 4
                      have c5 := cell_row HP8.out 5
                      have d5 := cell_row HQ8.out 5
                      have c6 := cell_row HP8.out 6
                      have d6 := cell_row HQ8.out 6
                      have c7 := cell_row HP8.out 7
                      have d7 := cell_row HQ8.out 7
                      have c8 := cell_row HP8.out 8
                      have d8 := cell_row HQ8.out 8
                      have c9 := cell_row HP8.out 9
                      have d9 := cell_row HQ8.out 9
                      clear hb
                      go_wp2_with fail
                      refine (HC8.out _ HB8.out).mono ?_
                      rintro e w9 ⟨rfl, hb⟩
                      have HB9 := Lib.hid (HB8.out.trans (hb.mono HB8.out.size))
                      have HP9 := Lib.hid (row_below hb HP8.out)
                      have HQ9 := Lib.hid (row_below hb HQ8.out)
                      clear c0 d0 c1 d1 c2 d2 c3 d3 c4 d4 c5 d5 c6 d6 c7 d7 c8 d8 c9 d9
                      have c0 := cell_row HP9.out 0
                      have d0 := cell_row HQ9.out 0
                      have c1 := cell_row HP9.out 1
                      have d1 := cell_row HQ9.out 1
                      have c2 := cell_row HP9.out 2
                      have d2 := cell_row HQ9.out 2
                      have c3 := cell_row HP9.out 3
                      have d3 := cell_row HQ9.out 3
                      have c4 := cell_row HP9.out 4
                      have d4 := cell_row HQ9.out 4
                      have c5 := cell_row HP9.out 5
                      have d5 := cell_row HQ9.out 5
                      have c6 := cell_row HP9.out 6
                      have d6 := cell_row HQ9.out 6
                      have c7 := cell_row HP9.out 7
                      have d7 := cell_row HQ9.out 7
                      have c8 := cell_row HP9.out 8
                      have d8 := cell_row HQ9.out 8
                      have c9 := cell_row HP9.out 9
                      have d9 := cell_row HQ9.out 9
                      clear hb
                      go_wp2_with fail
                      refine (HC9.out _ HB9.out).mono ?_
                      rintro e w10 ⟨rfl, hb⟩
                      have HB10 := Lib.hid (HB9.out.trans (hb.mono HB9.out.size))
                      have HP10 := Lib.hid (row_below hb HP9.out)
                      have HQ10 := Lib.hid (row_below hb HQ9.out)
                      clear c0 d0 c1 d1 c2 d2 c3 d3 c4 d4 c5 d5 c6 d6 c7 d7 c8 d8 c9 d9
                      have c0 := cell_row HP10.out 0
                      have d0 := cell_row HQ10.out 0
                      have c1 := cell_row HP10.out 1
                      have d1 := cell_row HQ10.out 1
                      have c2 := cell_row HP10.out 2
                      have d2 := cell_row HQ10.out 2
                      have c3 := cell_row HP10.out 3
                      have d3 := cell_row HQ10.out 3
                      have c4 := cell_row HP10.out 4
                      have d4 := cell_row HQ10.out 4
                      have c5 := cell_row HP10.out 5
                      have d5 := cell_row HQ10.out 5
                      have c6 := cell_row HP10.out 6
                      have d6 := cell_row HQ10.out 6
                      have c7 := cell_row HP10.out 7
                      have d7 := cell_row HQ10.out 7
                      have c8 := cell_row HP10.out 8
                      have d8 := cell_row HQ10.out 8
                      have c9 := cell_row HP10.out 9
                      have d9 := cell_row HQ10.out 9
                      clear hb
                      go_wp2_with fail
                      go_ret
                      exact ⟨by first | (rw [HEQ.out]; rfl) | simp, HB10.out⟩
                    · have HNE : Hid (decide (((pnu, pte, pma, pin, pbu, pba, pro, ppo, pta, pda) : PartV) = (pnu, pte, pma, pin, pbu, pba, pro, ppo, qta, pda)) = false) := decide_eq_false (fun e => h9 (congrArg (fun z : PartV => z.2.2.2.2.2.2.2.2.1) e))
                      rw [decide_eq_false h9] at HC9
                      clear h9
                      go_enter Tryz.func29, Tryz.ntmps29
                      go_wp2_with fail
                      refine (HC0.out _ HB0.out).mono ?_
                      rintro e w1 ⟨rfl, hb⟩
                      have HB1 := Lib.hid (HB0.out.trans (hb.mono HB0.out.size))
                      have HP1 := Lib.hid (row_below hb HP0.out)
                      have HQ1 := Lib.hid (row_below hb HQ0.out)
                      have c0 := cell_row HP1.out 0
                      have d0 := cell_row HQ1.out 0
                      have c1 := cell_row HP1.out 1
                      have d1 := cell_row HQ1.out 1
                      have c2 := cell_row HP1.out 2
                      have d2 := cell_row HQ1.out 2
                      have c3 := cell_row HP1.out 3
                      have d3 := cell_row HQ1.out 3
                      have c4 := cell_row HP1.out 4
                      have d4 := cell_row HQ1.out 4
                      have c5 := cell_row HP1.out 5
                      have d5 := cell_row HQ1.out 5
                      have c6 := cell_row HP1.out 6
                      have d6 := cell_row HQ1.out 6
                      have c7 := cell_row HP1.out 7
                      have d7 := cell_row HQ1.out 7
                      have c8 := cell_row HP1.out 8
                      have d8 := cell_row HQ1.out 8
                      have c9 := cell_row HP1.out 9
                      have d9 := cell_row HQ1.out 9
                      clear hb
                      go_wp2_with fail
                      refine (HC1.out _ HB1.out).mono ?_
                      rintro e w2 ⟨rfl, hb⟩
                      have HB2 := Lib.hid (HB1.out.trans (hb.mono HB1.out.size))
                      have HP2 := Lib.hid (row_below hb HP1.out)
                      have HQ2 := Lib.hid (row_below hb HQ1.out)
                      clear c0 d0 c1 d1 c2 d2 c3 d3 c4 d4 c5 d5 c6 d6 c7 d7 c8 d8 c9 d9
                      have c0 := cell_row HP2.out 0
                      have d0 := cell_row HQ2.out 0
                      have c1 := cell_row HP2.out 1
                      have d1 := cell_row HQ2.out 1
                      have c2 := cell_row HP2.out 2
                      have d2 := cell_row HQ2.out 2
                      have c3 := cell_row HP2.out 3
                      have d3 := cell_row HQ2.out 3
                      have c4 := cell_row HP2.out 4
                      have d4 := cell_row HQ2.out 4
                      have c5 := cell_row HP2.out 5
                      have d5 := cell_row HQ2.out 5
                      have c6 := cell_row HP2.out 6
                      have d6 := cell_row HQ2.out 6
                      have c7 := cell_row HP2.out 7
                      have d7 := cell_row HQ2.out 7
                      have c8 := cell_row HP2.out 8
                      have d8 := cell_row HQ2.out 8
                      have c9 := cell_row HP2.out 9
                      have d9 := cell_row HQ2.out 9
                      clear hb
                      go_wp2_with fail
                      refine (HC2.out _ HB2.out).mono ?_
                      rintro e w3 ⟨rfl, hb⟩
                      have HB3 := Lib.hid (HB2.out.trans (hb.mono HB2.out.size))
                      have HP3 := Lib.hid (row_below hb HP2.out)
                      have HQ3 := Lib.hid (row_below hb HQ2.out)
                      clear c0 d0 c1 d1 c2 d2 c3 d3 c4 d4 c5 d5 c6 d6 c7 d7 c8 d8 c9 d9
                      have c0 := cell_row HP3.out 0
                      have d0 := cell_row HQ3.out 0
                      have c1 := cell_row HP3.out 1
                      have d1 := cell_row HQ3.out 1
                      have c2 := cell_row HP3.out 2
                      have d2 := cell_row HQ3.out 2
                      have c3 := cell_row HP3.out 3
                      have d3 := cell_row HQ3.out 3
                      have c4 := cell_row HP3.out 4
                      have d4 := cell_row HQ3.out 4
                      have c5 := cell_row HP3.out 5
                      have d5 := cell_row HQ3.out 5
                      have c6 := cell_row HP3.out 6
                      have d6 := cell_row HQ3.out 6
                      have c7 := cell_row HP3.out 7
                      have d7 := cell_row HQ3.out 7
                      have c8 := cell_row HP3.out 8
                      have d8 := cell_row HQ3.out 8
                      have c9 := cell_row HP3.out 9
                      have d9 := cell_row HQ3.out 9
                      clear hb
                      go_wp2_with fail
                      refine (HC3.out _ HB3.out).mono ?_
                      rintro e w4 ⟨rfl, hb⟩
                      have HB4 := Lib.hid (HB3.out.trans (hb.mono HB3.out.size))
                      have HP4 := Lib.hid (row_below hb HP3.out)
                      have HQ4 := Lib.hid (row_below hb HQ3.out)
                      clear c0 d0 c1 d1 c2 d2 c3 d3 c4 d4 c5 d5 c6 d6 c7 d7 c8 d8 c9 d9
                      have c0 := cell_row HP4.out 0
                      have d0 := cell_row HQ4.out 0
                      have c1 := cell_row HP4.out 1
                      have d1 := cell_row HQ4.out 1
                      have c2 := cell_row HP4.out 2
                      have d2 := cell_row HQ4.out 2
                      have c3 := cell_row HP4.out 3
                      have d3 := cell_row HQ4.out 3
                      have c4 := cell_row HP4.out 4
                      have d4 := cell_row HQ4.out 4
                      have c5 := cell_row HP4.out 5
                      have d5 := cell_row HQ4.out 5
                      have c6 := cell_row HP4.out 6
                      have d6 := cell_row HQ4.out 6
                      have c7 := cell_row HP4.out 7
                      have d7 := cell_row HQ4.out 7
                      have c8 := cell_row HP4.out 8
                      have d8 := cell_row HQ4.out 8
                      have c9 := cell_row HP4.out 9
                      have d9 := cell_row HQ4.out 9
                      clear hb
                      go_wp2_with fail
                      refine (HC4.out _ HB4.out).mono ?_
                      rintro e w5 ⟨rfl, hb⟩
                      have HB5 := Lib.hid (HB4.out.trans (hb.mono HB4.out.size))
                      have HP5 := Lib.hid (row_below hb HP4.out)
                      have HQ5 := Lib.hid (row_below hb HQ4.out)
                      clear c0 d0 c1 d1 c2 d2 c3 d3 c4 d4 c5 d5 c6 d6 c7 d7 c8 d8 c9 d9
                      have c0 := cell_row HP5.out 0
                      have d0 := cell_row HQ5.out 0
                      have c1 := cell_row HP5.out 1
                      have d1 := cell_row HQ5.out 1
                      have c2 := cell_row HP5.out 2
                      have d2 := cell_row HQ5.out 2
                      have c3 := cell_row HP5.out 3
                      have d3 := cell_row HQ5.out 3
                      have c4 := cell_row HP5.out 4
                      have d4 := cell_row HQ5.out 4
                      have c5 := cell_row HP5.out 5
                      have d5 := cell_row HQ5.out 5
                      have c6 := cell_row HP5.out 6
                      have d6 := cell_row HQ5.out 6
                      have c7 := cell_row HP5.out 7
                      have d7 := cell_row HQ5.out 7
                      have c8 := cell_row HP5.out 8
                      have d8 := cell_row HQ5.out 8
                      have c9 := cell_row HP5.out 9
                      have d9 := cell_row HQ5.out 9
                      clear hb
                      go_wp2_with fail
                      refine (HC5.out _ HB5.out).mono ?_
                      rintro e w6 ⟨rfl, hb⟩
                      have HB6 := Lib.hid (HB5.out.trans (hb.mono HB5.out.size))
                      have HP6 := Lib.hid (row_below hb HP5.out)
                      have HQ6 := Lib.hid (row_below hb HQ5.out)
                      clear c0 d0 c1 d1 c2 d2 c3 d3 c4 d4 c5 d5 c6 d6 c7 d7 c8 d8 c9 d9
                      have c0 := cell_row HP6.out 0
                      have d0 := cell_row HQ6.out 0
                      have c1 := cell_row HP6.out 1
                      have d1 := cell_row HQ6.out 1
                      have c2 := cell_row HP6.out 2
                      have d2 := cell_row HQ6.out 2
                      have c3 := cell_row HP6.out 3
                      have d3 := cell_row HQ6.out 3
                      have c4 := cell_row HP6.out 4
                      have d4 := cell_row HQ6.out 4
                      have c5 := cell_row HP6.out 5
                      have d5 := cell_row HQ6.out 5
                      have c6 := cell_row HP6.out 6
                      have d6 := cell_row HQ6.out 6
                      have c7 := cell_row HP6.out 7
                      have d7 := cell_row HQ6.out 7
                      have c8 := cell_row HP6.out 8
                      have d8 := cell_row HQ6.out 8
                      have c9 := cell_row HP6.out 9
                      have d9 := cell_row HQ6.out 9
                      clear hb
                      go_wp2_with fail
                      refine (HC6.out _ HB6.out).mono ?_
                      rintro e w7 ⟨rfl, hb⟩
                      have HB7 := Lib.hid (HB6.out.trans (hb.mono HB6.out.size))
                      have HP7 := Lib.hid (row_below hb HP6.out)
                      have HQ7 := Lib.hid (row_below hb HQ6.out)
                      clear c0 d0 c1 d1 c2 d2 c3 d3 c4 d4 c5 d5 c6 d6 c7 d7 c8 d8 c9 d9
                      have c0 := cell_row HP7.out 0
                      have d0 := cell_row HQ7.out 0
                      have c1 := cell_row HP7.out 1
                      have d1 := cell_row HQ7.out 1
                      have c2 := cell_row HP7.out 2
                      have d2 := cell_row HQ7.out 2
                      have c3 := cell_row HP7.out 3
                      have d3 := cell_row HQ7.out 3
                      have c4 := cell_row HP7.out 4
                      have d4 := cell_row HQ7.out 4
                      have c5 := cell_row HP7.out 5
                      have d5 := cell_row HQ7.out 5
                      have c6 := cell_row HP7.out 6
                      have d6 := cell_row HQ7.out 6
                      have c7 := cell_row HP7.out 7
                      have d7 := cell_row HQ7.out 7
                      have c8 := cell_row HP7.out 8
                      have d8 := cell_row HQ7.out 8
                      have c9 := cell_row HP7.out 9
                      have d9 := cell_row HQ7.out 9
                      clear hb
                      go_wp2_with fail
                      refine (HC7.out _ HB7.out).mono ?_
                      rintro e w8 ⟨rfl, hb⟩
                      have HB8 := Lib.hid (HB7.out.trans (hb.mono HB7.out.size))
                      have HP8 := Lib.hid (row_below hb HP7.out)
                      have HQ8 := Lib.hid (row_below hb HQ7.out)
                      clear c0 d0 c1 d1 c2 d2 c3 d3 c4 d4 c5 d5 c6 d6 c7 d7 c8 d8 c9 d9
                      have c0 := cell_row HP8.out 0
                      have d0 := cell_row HQ8.out 0
                      have c1 := cell_row HP8.out 1
                      have d1 := cell_row HQ8.out 1
                      have c2 := cell_row HP8.out 2
                      have d2 := cell_row HQ8.out 2
                      have c3 := cell_row HP8.out 3
                      have d3 := cell_row HQ8.out 3
                      have c4 := cell_row HP8.out 4
                      have d4 := cell_row HQ8.out 4
                      have c5 := cell_row HP8.out 5
                      have d5 := cell_row HQ8.out 5
                      have c6 := cell_row HP8.out 6
                      have d6 := cell_row HQ8.out 6
                      have c7 := cell_row HP8.out 7
                      have d7 := cell_row HQ8.out 7
                      have c8 := cell_row HP8.out 8
                      have d8 := cell_row HQ8.out 8
                      have c9 := cell_row HP8.out 9
                      have d9 := cell_row HQ8.out 9
                      clear hb
                      go_wp2_with fail
                      refine (HC8.out _ HB8.out).mono ?_
                      rintro e w9 ⟨rfl, hb⟩
                      have HB9 := Lib.hid (HB8.out.trans (hb.mono HB8.out.size))
                      have HP9 := Lib.hid (row_below hb HP8.out)
                      have HQ9 := Lib.hid (row_below hb HQ8.out)
                      clear c0 d0 c1 d1 c2 d2 c3 d3 c4 d4 c5 d5 c6 d6 c7 d7 c8 d8 c9 d9
                      have c0 := cell_row HP9.out 0
                      have d0 := cell_row HQ9.out 0
                      have c1 := cell_row HP9.out 1
                      have d1 := cell_row HQ9.out 1
                      have c2 := cell_row HP9.out 2
                      have d2 := cell_row HQ9.out 2
                      have c3 := cell_row HP9.out 3
                      have d3 := cell_row HQ9.out 3
                      have c4 := cell_row HP9.out 4
                      have d4 := cell_row HQ9.out 4
                      have c5 := cell_row HP9.out 5
                      have d5 := cell_row HQ9.out 5
                      have c6 := cell_row HP9.out 6
                      have d6 := cell_row HQ9.out 6
                      have c7 := cell_row HP9.out 7
                      have d7 := cell_row HQ9.out 7
                      have c8 := cell_row HP9.out 8
                      have d8 := cell_row HQ9.out 8
                      have c9 := cell_row HP9.out 9
                      have d9 := cell_row HQ9.out 9
                      clear hb
                      go_wp2_with fail
                      refine (HC9.out _ HB9.out).mono ?_
                      rintro e w10 ⟨rfl, hb⟩
                      have HB10 := Lib.hid (HB9.out.trans (hb.mono HB9.out.size))
                      have HP10 := Lib.hid (row_below hb HP9.out)
                      have HQ10 := Lib.hid (row_below hb HQ9.out)
                      clear c0 d0 c1 d1 c2 d2 c3 d3 c4 d4 c5 d5 c6 d6 c7 d7 c8 d8 c9 d9
                      have c0 := cell_row HP10.out 0
                      have d0 := cell_row HQ10.out 0
                      have c1 := cell_row HP10.out 1
                      have d1 := cell_row HQ10.out 1
                      have c2 := cell_row HP10.out 2
                      have d2 := cell_row HQ10.out 2
                      have c3 := cell_row HP10.out 3
                      have d3 := cell_row HQ10.out 3
                      have c4 := cell_row HP10.out 4
                      have d4 := cell_row HQ10.out 4
                      have c5 := cell_row HP10.out 5
                      have d5 := cell_row HQ10.out 5
                      have c6 := cell_row HP10.out 6
                      have d6 := cell_row HQ10.out 6
                      have c7 := cell_row HP10.out 7
                      have d7 := cell_row HQ10.out 7
                      have c8 := cell_row HP10.out 8
                      have d8 := cell_row HQ10.out 8
                      have c9 := cell_row HP10.out 9
                      have d9 := cell_row HQ10.out 9
                      clear hb
                      go_wp2_with fail
                      go_ret
                      exact ⟨by rw [HNE.out]; rfl, HB10.out⟩
                  · have HNE : Hid (decide (((pnu, pte, pma, pin, pbu, pba, pro, ppo, pta, pda) : PartV) = (pnu, pte, pma, pin, pbu, pba, pro, qpo, qta, pda)) = false) := decide_eq_false (fun e => h8 (congrArg (fun z : PartV => z.2.2.2.2.2.2.2.1) e))
                    rw [decide_eq_false h8] at HC8
                    clear h8
                    go_enter Tryz.func29, Tryz.ntmps29
                    go_wp2_with fail
                    refine (HC0.out _ HB0.out).mono ?_
                    rintro e w1 ⟨rfl, hb⟩
                    have HB1 := Lib.hid (HB0.out.trans (hb.mono HB0.out.size))
                    have HP1 := Lib.hid (row_below hb HP0.out)
                    have HQ1 := Lib.hid (row_below hb HQ0.out)
                    have c0 := cell_row HP1.out 0
                    have d0 := cell_row HQ1.out 0
                    have c1 := cell_row HP1.out 1
                    have d1 := cell_row HQ1.out 1
                    have c2 := cell_row HP1.out 2
                    have d2 := cell_row HQ1.out 2
                    have c3 := cell_row HP1.out 3
                    have d3 := cell_row HQ1.out 3
                    have c4 := cell_row HP1.out 4
                    have d4 := cell_row HQ1.out 4
                    have c5 := cell_row HP1.out 5
                    have d5 := cell_row HQ1.out 5
                    have c6 := cell_row HP1.out 6
                    have d6 := cell_row HQ1.out 6
                    have c7 := cell_row HP1.out 7
                    have d7 := cell_row HQ1.out 7
                    have c8 := cell_row HP1.out 8
                    have d8 := cell_row HQ1.out 8
                    have c9 := cell_row HP1.out 9
                    have d9 := cell_row HQ1.out 9
                    clear hb
                    go_wp2_with fail
                    refine (HC1.out _ HB1.out).mono ?_
                    rintro e w2 ⟨rfl, hb⟩
                    have HB2 := Lib.hid (HB1.out.trans (hb.mono HB1.out.size))
                    have HP2 := Lib.hid (row_below hb HP1.out)
                    have HQ2 := Lib.hid (row_below hb HQ1.out)
                    clear c0 d0 c1 d1 c2 d2 c3 d3 c4 d4 c5 d5 c6 d6 c7 d7 c8 d8 c9 d9
                    have c0 := cell_row HP2.out 0
                    have d0 := cell_row HQ2.out 0
                    have c1 := cell_row HP2.out 1
                    have d1 := cell_row HQ2.out 1
                    have c2 := cell_row HP2.out 2
                    have d2 := cell_row HQ2.out 2
                    have c3 := cell_row HP2.out 3
                    have d3 := cell_row HQ2.out 3
                    have c4 := cell_row HP2.out 4
                    have d4 := cell_row HQ2.out 4
                    have c5 := cell_row HP2.out 5
                    have d5 := cell_row HQ2.out 5
                    have c6 := cell_row HP2.out 6
                    have d6 := cell_row HQ2.out 6
                    have c7 := cell_row HP2.out 7
                    have d7 := cell_row HQ2.out 7
                    have c8 := cell_row HP2.out 8
                    have d8 := cell_row HQ2.out 8
                    have c9 := cell_row HP2.out 9
                    have d9 := cell_row HQ2.out 9
                    clear hb
                    go_wp2_with fail
                    refine (HC2.out _ HB2.out).mono ?_
                    rintro e w3 ⟨rfl, hb⟩
                    have HB3 := Lib.hid (HB2.out.trans (hb.mono HB2.out.size))
                    have HP3 := Lib.hid (row_below hb HP2.out)
                    have HQ3 := Lib.hid (row_below hb HQ2.out)
                    clear c0 d0 c1 d1 c2 d2 c3 d3 c4 d4 c5 d5 c6 d6 c7 d7 c8 d8 c9 d9
                    have c0 := cell_row HP3.out 0
                    have d0 := cell_row HQ3.out 0
                    have c1 := cell_row HP3.out 1
                    have d1 := cell_row HQ3.out 1
                    have c2 := cell_row HP3.out 2
                    have d2 := cell_row HQ3.out 2
                    have c3 := cell_row HP3.out 3
                    have d3 := cell_row HQ3.out 3
                    have c4 := cell_row HP3.out 4
                    have d4 := cell_row HQ3.out 4
                    have c5 := cell_row HP3.out 5
                    have d5 := cell_row HQ3.out 5
                    have c6 := cell_row HP3.out 6
                    have d6 := cell_row HQ3.out 6
                    have c7 := cell_row HP3.out 7
                    have d7 := cell_row HQ3.out 7
                    have c8 := cell_row HP3.out 8
                    have d8 := cell_row HQ3.out 8
                    have c9 := cell_row HP3.out 9
                    have d9 := cell_row HQ3.out 9
                    clear hb
                    go_wp2_with fail
                    refine (HC3.out _ HB3.out).mono ?_
                    rintro e w4 ⟨rfl, hb⟩
                    have HB4 := Lib.hid (HB3.out.trans (hb.mono HB3.out.size))
                    have HP4 := Lib.hid (row_below hb HP3.out)
                    have HQ4 := Lib.hid (row_below hb HQ3.out)
                    clear c0 d0 c1 d1 c2 d2 c3 d3 c4 d4 c5 d5 c6 d6 c7 d7 c8 d8 c9 d9
                    have c0 := cell_row HP4.out 0
                    have d0 := cell_row HQ4.out 0
                    have c1 := cell_row HP4.out 1
                    have d1 := cell_row HQ4.out 1
                    have c2 := cell_row HP4.out 2
                    have d2 := cell_row HQ4.out 2
                    have c3 := cell_row HP4.out 3
                    have d3 := cell_row HQ4.out 3
                    have c4 := cell_row HP4.out 4
                    have d4 := cell_row HQ4.out 4
                    have c5 := cell_row HP4.out 5
                    have d5 := cell_row HQ4.out 5
                    have c6 := cell_row HP4.out 6
                    have d6 := cell_row HQ4.out 6
                    have c7 := cell_row HP4.out 7
                    have d7 := cell_row HQ4.out 7
                    have c8 := cell_row HP4.out 8
                    have d8 := cell_row HQ4.out 8
                    have c9 := cell_row HP4.out 9
                    have d9 := cell_row HQ4.out 9
                    clear hb
                    go_wp2_with fail
                    refine (HC4.out _ HB4.out).mono ?_
                    rintro e w5 ⟨rfl, hb⟩
                    have HB5 := Lib.hid (HB4.out.trans (hb.mono HB4.out.size))
                    have HP5 := Lib.hid (row_below hb HP4.out)
                    have HQ5 := Lib.hid (row_below hb HQ4.out)
                    clear c0 d0 c1 d1 c2 d2 c3 d3 c4 d4 c5 d5 c6 d6 c7 d7 c8 d8 c9 d9
                    have c0 := cell_row HP5.out 0
                    have d0 := cell_row HQ5.out 0
                    have c1 := cell_row HP5.out 1
                    have d1 := cell_row HQ5.out 1
                    have c2 := cell_row HP5.out 2
                    have d2 := cell_row HQ5.out 2
                    have c3 := cell_row HP5.out 3
                    have d3 := cell_row HQ5.out 3
                    have c4 := cell_row HP5.out 4
                    have d4 := cell_row HQ5.out 4
                    have c5 := cell_row HP5.out 5
                    have d5 := cell_row HQ5.out 5
                    have c6 := cell_row HP5.out 6
                    have d6 := cell_row HQ5.out 6
                    have c7 := cell_row HP5.out 7
                    have d7 := cell_row HQ5.out 7
                    have c8 := cell_row HP5.out 8
                    have d8 := cell_row HQ5.out 8
                    have c9 := cell_row HP5.out 9
                    have d9 := cell_row HQ5.out 9
                    clear hb
                    go_wp2_with fail
                    refine (HC5.out _ HB5.out).mono ?_
                    rintro e w6 ⟨rfl, hb⟩
                    have HB6 := Lib.hid (HB5.out.trans (hb.mono HB5.out.size))
                    have HP6 := Lib.hid (row_below hb HP5.out)
                    have HQ6 := Lib.hid (row_below hb HQ5.out)
                    clear c0 d0 c1 d1 c2 d2 c3 d3 c4 d4 c5 d5 c6 d6 c7 d7 c8 d8 c9 d9
                    have c0 := cell_row HP6.out 0
                    have d0 := cell_row HQ6.out 0
                    have c1 := cell_row HP6.out 1
                    have d1 := cell_row HQ6.out 1
                    have c2 := cell_row HP6.out 2
                    have d2 := cell_row HQ6.out 2
                    have c3 := cell_row HP6.out 3
                    have d3 := cell_row HQ6.out 3
                    have c4 := cell_row HP6.out 4
                    have d4 := cell_row HQ6.out 4
                    have c5 := cell_row HP6.out 5
                    have d5 := cell_row HQ6.out 5
                    have c6 := cell_row HP6.out 6
                    have d6 := cell_row HQ6.out 6
                    have c7 := cell_row HP6.out 7
                    have d7 := cell_row HQ6.out 7
                    have c8 := cell_row HP6.out 8
                    have d8 := cell_row HQ6.out 8
                    have c9 := cell_row HP6.out 9
                    have d9 := cell_row HQ6.out 9
                    clear hb
                    go_wp2_with fail
                    refine (HC6.out _ HB6.out).mono ?_
                    rintro e w7 ⟨rfl, hb⟩
                    have HB7 := Lib.hid (HB6.out.trans (hb.mono HB6.out.size))
                    have HP7 := Lib.hid (row_below hb HP6.out)
                    have HQ7 := Lib.hid (row_below hb HQ6.out)
                    clear c0 d0 c1 d1 c2 d2 c3 d3 c4 d4 c5 d5 c6 d6 c7 d7 c8 d8 c9 d9
                    have c0 := cell_row HP7.out 0
                    have d0 := cell_row HQ7.out 0
                    have c1 := cell_row HP7.out 1
                    have d1 := cell_row HQ7.out 1
                    have c2 := cell_row HP7.out 2
                    have d2 := cell_row HQ7.out 2
                    have c3 := cell_row HP7.out 3
                    have d3 := cell_row HQ7.out 3
                    have c4 := cell_row HP7.out 4
                    have d4 := cell_row HQ7.out 4
                    have c5 := cell_row HP7.out 5
                    have d5 := cell_row HQ7.out 5
                    have c6 := cell_row HP7.out 6
                    have d6 := cell_row HQ7.out 6
                    have c7 := cell_row HP7.out 7
                    have d7 := cell_row HQ7.out 7
                    have c8 := cell_row HP7.out 8
                    have d8 := cell_row HQ7.out 8
                    have c9 := cell_row HP7.out 9
                    have d9 := cell_row HQ7.out 9
                    clear hb
                    go_wp2_with fail
                    refine (HC7.out _ HB7.out).mono ?_
                    rintro e w8 ⟨rfl, hb⟩
                    have HB8 := Lib.hid (HB7.out.trans (hb.mono HB7.out.size))
                    have HP8 := Lib.hid (row_below hb HP7.out)
                    have HQ8 := Lib.hid (row_below hb HQ7.out)
                    clear c0 d0 c1 d1 c2 d2 c3 d3 c4 d4 c5 d5 c6 d6 c7 d7 c8 d8 c9 d9
                    have c0 := cell_row HP8.out 0
                    have d0 := cell_row HQ8.out 0
                    have c1 := cell_row HP8.out 1
                    have d1 := cell_row HQ8.out 1
                    have c2 := cell_row HP8.out 2
                    have d2 := cell_row HQ8.out 2
                    have c3 := cell_row HP8.out 3
                    have d3 := cell_row HQ8.out 3
                    have c4 := cell_row HP8.out 4
                    have d4 := cell_row HQ8.out 4
                    have c5 := cell_row HP8.out 5
                    have d5 := cell_row HQ8.out 5
                    have c6 := cell_row HP8.out 6
                    have d6 := cell_row HQ8.out 6
                    have c7 := cell_row HP8.out 7
                    have d7 := cell_row HQ8.out 7
                    have c8 := cell_row HP8.out 8
                    have d8 := cell_row HQ8.out 8
                    have c9 := cell_row HP8.out 9
                    have d9 := cell_row HQ8.out 9
                    clear hb
                    go_wp2_with fail
                    refine (HC8.out _ HB8.out).mono ?_
                    rintro e w9 ⟨rfl, hb⟩
                    have HB9 := Lib.hid (HB8.out.trans (hb.mono HB8.out.size))
                    have HP9 := Lib.hid (row_below hb HP8.out)
                    have HQ9 := Lib.hid (row_below hb HQ8.out)
                    clear c0 d0 c1 d1 c2 d2 c3 d3 c4 d4 c5 d5 c6 d6 c7 d7 c8 d8 c9 d9
                    have c0 := cell_row HP9.out 0
                    have d0 := cell_row HQ9.out 0
                    have c1 := cell_row HP9.out 1
                    have d1 := cell_row HQ9.out 1
                    have c2 := cell_row HP9.out 2
                    have d2 := cell_row HQ9.out 2
                    have c3 := cell_row HP9.out 3
                    have d3 := cell_row HQ9.out 3
                    have c4 := cell_row HP9.out 4
                    have d4 := cell_row HQ9.out 4
                    have c5 := cell_row HP9.out 5
                    have d5 := cell_row HQ9.out 5
                    have c6 := cell_row HP9.out 6
                    have d6 := cell_row HQ9.out 6
                    have c7 := cell_row HP9.out 7
                    have d7 := cell_row HQ9.out 7
                    have c8 := cell_row HP9.out 8
                    have d8 := cell_row HQ9.out 8
                    have c9 := cell_row HP9.out 9
                    have d9 := cell_row HQ9.out 9
                    clear hb
                    go_wp2_with fail
                    go_ret
                    exact ⟨by rw [HNE.out]; rfl, HB9.out⟩
                · have HNE : Hid (decide (((pnu, pte, pma, pin, pbu, pba, pro, ppo, pta, pda) : PartV) = (pnu, pte, pma, pin, pbu, qba, pro, qpo, qta, pda)) = false) := decide_eq_false (fun e => h7 (congrArg (fun z : PartV => z.2.2.2.2.2.1) e))
                  rw [decide_eq_false h7] at HC7
                  clear h7
                  go_enter Tryz.func29, Tryz.ntmps29
                  go_wp2_with fail
                  refine (HC0.out _ HB0.out).mono ?_
                  rintro e w1 ⟨rfl, hb⟩
                  have HB1 := Lib.hid (HB0.out.trans (hb.mono HB0.out.size))
                  have HP1 := Lib.hid (row_below hb HP0.out)
                  have HQ1 := Lib.hid (row_below hb HQ0.out)
                  have c0 := cell_row HP1.out 0
                  have d0 := cell_row HQ1.out 0
                  have c1 := cell_row HP1.out 1
                  have d1 := cell_row HQ1.out 1
                  have c2 := cell_row HP1.out 2
                  have d2 := cell_row HQ1.out 2
                  have c3 := cell_row HP1.out 3
                  have d3 := cell_row HQ1.out 3
                  have c4 := cell_row HP1.out 4
                  have d4 := cell_row HQ1.out 4
                  have c5 := cell_row HP1.out 5
                  have d5 := cell_row HQ1.out 5
                  have c6 := cell_row HP1.out 6
                  have d6 := cell_row HQ1.out 6
                  have c7 := cell_row HP1.out 7
                  have d7 := cell_row HQ1.out 7
                  have c8 := cell_row HP1.out 8
                  have d8 := cell_row HQ1.out 8
                  have c9 := cell_row HP1.out 9
                  have d9 := cell_row HQ1.out 9
                  clear hb
                  go_wp2_with fail
                  refine (HC1.out _ HB1.out).mono ?_
                  rintro e w2 ⟨rfl, hb⟩
                  have HB2 := Lib.hid (HB1.out.trans (hb.mono HB1.out.size))
                  have HP2 := Lib.hid (row_below hb HP1.out)
                  have HQ2 := Lib.hid (row_below hb HQ1.out)
                  clear c0 d0 c1 d1 c2 d2 c3 d3 c4 d4 c5 d5 c6 d6 c7 d7 c8 d8 c9 d9
                  have c0 := cell_row HP2.out 0
                  have d0 := cell_row HQ2.out 0
                  have c1 := cell_row HP2.out 1
                  have d1 := cell_row HQ2.out 1
                  have c2 := cell_row HP2.out 2
                  have d2 := cell_row HQ2.out 2
                  have c3 := cell_row HP2.out 3
                  have d3 := cell_row HQ2.out 3
                  have c4 := cell_row HP2.out 4
                  have d4 := cell_row HQ2.out 4
                  have c5 := cell_row HP2.out 5
                  have d5 := cell_row HQ2.out 5
                  have c6 := cell_row HP2.out 6
                  have d6 := cell_row HQ2.out 6
                  have c7 := cell_row HP2.out 7
                  have d7 := cell_row HQ2.out 7
                  have c8 := cell_row HP2.out 8
                  have d8 := cell_row HQ2.out 8
                  have c9 := cell_row HP2.out 9
                  have d9 := cell_row HQ2.out 9
                  clear hb
                  go_wp2_with fail
                  refine (HC2.out _ HB2.out).mono ?_
                  rintro e w3 ⟨rfl, hb⟩
                  have HB3 := Lib.hid (HB2.out.trans (hb.mono HB2.out.size))
                  have HP3 := Lib.hid (row_below hb HP2.out)
                  have HQ3 := Lib.hid (row_below hb HQ2.out)
                  clear c0 d0 c1 d1 c2 d2 c3 d3 c4 d4 c5 d5 c6 d6 c7 d7 c8 d8 c9 d9
                  have c0 := cell_row HP3.out 0
                  have d0 := cell_row HQ3.out 0
                  have c1 := cell_row HP3.out 1
                  have d1 := cell_row HQ3.out 1
                  have c2 := cell_row HP3.out 2
                  have d2 := cell_row HQ3.out 2
                  have c3 := cell_row HP3.out 3
                  have d3 := cell_row HQ3.out 3
                  have c4 := cell_row HP3.out 4
                  have d4 := cell_row HQ3.out 4
                  have c5 := cell_row HP3.out 5
                  have d5 := cell_row HQ3.out 5
                  have c6 := cell_row HP3.out 6
                  have d6 := cell_row HQ3.out 6
                  have c7 := cell_row HP3.out 7
                  have d7 := cell_row HQ3.out 7
                  have c8 := cell_row HP3.out 8
                  have d8 := cell_row HQ3.out 8
                  have c9 := cell_row HP3.out 9
                  have d9 := cell_row HQ3.out 9
                  clear hb
                  go_wp2_with fail
                  refine (HC3.out _ HB3.out).mono ?_
                  rintro e w4 ⟨rfl, hb⟩
                  have HB4 := Lib.hid (HB3.out.trans (hb.mono HB3.out.size))
                  have HP4 := Lib.hid (row_below hb HP3.out)
                  have HQ4 := Lib.hid (row_below hb HQ3.out)
                  clear c0 d0 c1 d1 c2 d2 c3 d3 c4 d4 c5 d5 c6 d6 c7 d7 c8 d8 c9 d9
                  have c0 := cell_row HP4.out 0
                  have d0 := cell_row HQ4.out 0
                  have c1 := cell_row HP4.out 1
                  have d1 := cell_row HQ4.out 1
                  have c2 := cell_row HP4.out 2
                  have d2 := cell_row HQ4.out 2
                  have c3 := cell_row HP4.out 3
                  have d3 := cell_row HQ4.out 3
                  have c4 := cell_row HP4.out 4
                  have d4 := cell_row HQ4.out 4
                  have c5 := cell_row HP4.out 5
                  have d5 := cell_row HQ4.out 5
                  have c6 := cell_row HP4.out 6
                  have d6 := cell_row HQ4.out 6
                  have c7 := cell_row HP4.out 7
                  have d7 := cell_row HQ4.out 7
                  have c8 := cell_row HP4.out 8
                  have d8 := cell_row HQ4.out 8
                  have c9 := cell_row HP4.out 9
                  have d9 := cell_row HQ4.out 9
                  clear hb
                  go_wp2_with fail
                  refine (HC4.out _ HB4.out).mono ?_
                  rintro e w5 ⟨rfl, hb⟩
                  have HB5 := Lib.hid (HB4.out.trans (hb.mono HB4.out.size))
                  have HP5 := Lib.hid (row_below hb HP4.out)
                  have HQ5 := Lib.hid (row_below hb HQ4.out)
                  clear c0 d0 c1 d1 c2 d2 c3 d3 c4 d4 c5 d5 c6 d6 c7 d7 c8 d8 c9 d9
                  have c0 := cell_row HP5.out 0
                  have d0 := cell_row HQ5.out 0
                  have c1 := cell_row HP5.out 1
                  have d1 := cell_row HQ5.out 1
                  have c2 := cell_row HP5.out 2
                  have d2 := cell_row HQ5.out 2
                  have c3 := cell_row HP5.out 3
                  have d3 := cell_row HQ5.out 3
                  have c4 := cell_row HP5.out 4
                  have d4 := cell_row HQ5.out 4
                  have c5 := cell_row HP5.out 5
                  have d5 := cell_row HQ5.out 5
                  have c6 := cell_row HP5.out 6
                  have d6 := cell_row HQ5.out 6
                  have c7 := cell_row HP5.out 7
                  have d7 := cell_row HQ5.out 7
                  have c8 := cell_row HP5.out 8
                  have d8 := cell_row HQ5.out 8
                  have c9 := cell_row HP5.out 9
                  have d9 := cell_row HQ5.out 9
                  clear hb
                  go_wp2_with fail
                  refine (HC5.out _ HB5.out).mono ?_
                  rintro e w6 ⟨rfl, hb⟩
                  have HB6 := Lib.hid (HB5.out.trans (hb.mono HB5.out.size))
                  have HP6 := Lib.hid (row_below hb HP5.out)
                  have HQ6 := Lib.hid (row_below hb HQ5.out)
                  clear c0 d0 c1 d1 c2 d2 c3 d3 c4 d4 c5 d5 c6 d6 c7 d7 c8 d8 c9 d9
                  have c0 := cell_row HP6.out 0
                  have d0 := cell_row HQ6.out 0
                  have c1 := cell_row HP6.out 1
                  have d1 := cell_row HQ6.out 1
                  have c2 := cell_row HP6.out 2
                  have d2 := cell_row HQ6.out 2
                  have c3 := cell_row HP6.out 3
                  have d3 := cell_row HQ6.out 3
                  have c4 := cell_row HP6.out 4
                  have d4 := cell_row HQ6.out 4
                  have c5 := cell_row HP6.out 5
                  have d5 := cell_row HQ6.out 5
                  have c6 := cell_row HP6.out 6
                  have d6 := cell_row HQ6.out 6
                  have c7 := cell_row HP6.out 7
                  have d7 := cell_row HQ6.out 7
                  have c8 := cell_row HP6.out 8
                  have d8 := cell_row HQ6.out 8
                  have c9 := cell_row HP6.out 9
                  have d9 := cell_row HQ6.out 9
                  clear hb
                  go_wp2_with fail
                  refine (HC6.out _ HB6.out).mono ?_
                  rintro e w7 ⟨rfl, hb⟩
                  have HB7 := Lib.hid (HB6.out.trans (hb.mono HB6.out.size))
                  have HP7 := Lib.hid (row_below hb HP6.out)
                  have HQ7 := Lib.hid (row_below hb HQ6.out)
                  clear c0 d0 c1 d1 c2 d2 c3 d3 c4 d4 c5 d5 c6 d6 c7 d7 c8 d8 c9 d9
                  have c0 := cell_row HP7.out 0
                  have d0 := cell_row HQ7.out 0
                  have c1 := cell_row HP7.out 1
                  have d1 := cell_row HQ7.out 1
                  have c2 := cell_row HP7.out 2
                  have d2 := cell_row HQ7.out 2
                  have c3 := cell_row HP7.out 3
                  have d3 := cell_row HQ7.out 3
                  have c4 := cell_row HP7.out 4
                  have d4 := cell_row HQ7.out 4
                  have c5 := cell_row HP7.out 5
                  have d5 := cell_row HQ7.out 5
                  have c6 := cell_row HP7.out 6
                  have d6 := cell_row HQ7.out 6
                  have c7 := cell_row HP7.out 7
                  have d7 := cell_row HQ7.out 7
                  have c8 := cell_row HP7.out 8
                  have d8 := cell_row HQ7.out 8
                  have c9 := cell_row HP7.out 9
                  have d9 := cell_row HQ7.out 9
                  clear hb
                  go_wp2_with fail
                  refine (HC7.out _ HB7.out).mono ?_
                  rintro e w8 ⟨rfl, hb⟩
                  have HB8 := Lib.hid (HB7.out.trans (hb.mono HB7.out.size))
                  have HP8 := Lib.hid (row_below hb HP7.out)
                  have HQ8 := Lib.hid (row_below hb HQ7.out)
                  clear c0 d0 c1 d1 c2 d2 c3 d3 c4 d4 c5 d5 c6 d6 c7 d7 c8 d8 c9 d9
                  have c0 := cell_row HP8.out 0
                  have d0 := cell_row HQ8.out 0
                  have c1 := cell_row HP8.out 1
                  have d1 := cell_row HQ8.out 1
                  have c2 := cell_row HP8.out 2
                  have d2 := cell_row HQ8.out 2
                  have c3 := cell_row HP8.out 3
                  have d3 := cell_row HQ8.out 3
                  have c4 := cell_row HP8.out 4
                  have d4 := cell_row HQ8.out 4
                  have c5 := cell_row HP8.out 5
                  have d5 := cell_row HQ8.out 5
                  have c6 := cell_row HP8.out 6
                  have d6 := cell_row HQ8.out 6
                  have c7 := cell_row HP8.out 7
                  have d7 := cell_row HQ8.out 7
                  have c8 := cell_row HP8.out 8
                  have d8 := cell_row HQ8.out 8
                  have c9 := cell_row HP8.out 9
                  have d9 := cell_row HQ8.out 9
                  clear hb
                  go_wp2_with fail
                  go_ret
                  exact ⟨by rw [HNE.out]; rfl, HB8.out⟩
              · have HNE : Hid (decide (((pnu, pte, pma, pin, pbu, pba, pro, ppo, pta, pda) : PartV) = (pnu, pte, pma, pin, qbu, qba, pro, qpo, qta, pda)) = false) := decide_eq_false (fun e => h6 (congrArg (fun z : PartV => z.2.2.2.2.1) e))
                rw [decide_eq_false h6] at HC6
                clear h6
                go_enter Tryz.func29, Tryz.ntmps29
                go_wp2_with fail
                refine (HC0.out _ HB0.out).mono ?_
                rintro e w1 ⟨rfl, hb⟩
                have HB1 := Lib.hid (HB0.out.trans (hb.mono HB0.out.size))
                have HP1 := Lib.hid (row_below hb HP0.out)
                have HQ1 := Lib.hid (row_below hb HQ0.out)
                have c0 := cell_row HP1.out 0
                have d0 := cell_row HQ1.out 0
                have c1 := cell_row HP1.out 1
                have d1 := cell_row HQ1.out 1
                have c2 := cell_row HP1.out 2
                have d2 := cell_row HQ1.out 2
                have c3 := cell_row HP1.out 3
                have d3 := cell_row HQ1.out 3
                have c4 := cell_row HP1.out 4
                have d4 := cell_row HQ1.out 4
                have c5 := cell_row HP1.out 5
                have d5 := cell_row HQ1.out 5
                have c6 := cell_row HP1.out 6
                have d6 := cell_row HQ1.out 6
                have c7 := cell_row HP1.out 7
                have d7 := cell_row HQ1.out 7
                have c8 := cell_row HP1.out 8
                have d8 := cell_row HQ1.out 8
                have c9 := cell_row HP1.out 9
                have d9 := cell_row HQ1.out 9
                clear hb
                go_wp2_with fail
                refine (HC1.out _ HB1.out).mono ?_
                rintro e w2 ⟨rfl, hb⟩
                have HB2 := Lib.hid (HB1.out.trans (hb.mono HB1.out.size))
                have HP2 := Lib.hid (row_below hb HP1.out)
                have HQ2 := Lib.hid (row_below hb HQ1.out)
                clear c0 d0 c1 d1 c2 d2 c3 d3 c4 d4 c5 d5 c6 d6 c7 d7 c8 d8 c9 d9
                have c0 := cell_row HP2.out 0
                have d0 := cell_row HQ2.out 0
                have c1 := cell_row HP2.out 1
                have d1 := cell_row HQ2.out 1
                have c2 := cell_row HP2.out 2
                have d2 := cell_row HQ2.out 2
                have c3 := cell_row HP2.out 3
                have d3 := cell_row HQ2.out 3
                have c4 := cell_row HP2.out 4
                have d4 := cell_row HQ2.out 4
                have c5 := cell_row HP2.out 5
                have d5 := cell_row HQ2.out 5
                have c6 := cell_row HP2.out 6
                have d6 := cell_row HQ2.out 6
                have c7 := cell_row HP2.out 7
                have d7 := cell_row HQ2.out 7
                have c8 := cell_row HP2.out 8
                have d8 := cell_row HQ2.out 8
                have c9 := cell_row HP2.out 9
                have d9 := cell_row HQ2.out 9
                clear hb
                go_wp2_with fail
                refine (HC2.out _ HB2.out).mono ?_
                rintro e w3 ⟨rfl, hb⟩
                have HB3 := Lib.hid (HB2.out.trans (hb.mono HB2.out.size))
                have HP3 := Lib.hid (row_below hb HP2.out)
                have HQ3 := Lib.hid (row_below hb HQ2.out)
                clear c0 d0 c1 d1 c2 d2 c3 d3 c4 d4 c5 d5 c6 d6 c7 d7 c8 d8 c9 d9
                have c0 := cell_row HP3.out 0
                have d0 := cell_row HQ3.out 0
                have c1 := cell_row HP3.out 1
                have d1 := cell_row HQ3.out 1
                have c2 := cell_row HP3.out 2
                have d2 := cell_row HQ3.out 2
                have c3 := cell_row HP3.out 3
                have d3 := cell_row HQ3.out 3
                have c4 := cell_row HP3.out 4
                have d4 := cell_row HQ3.out 4
                have c5 := cell_row HP3.out 5
                have d5 := cell_row HQ3.out 5
                have c6 := cell_row HP3.out 6
                have d6 := cell_row HQ3.out 6
                have c7 := cell_row HP3.out 7
                have d7 := cell_row HQ3.out 7
                have c8 := cell_row HP3.out 8
                have d8 := cell_row HQ3.out 8
                have c9 := cell_row HP3.out 9
                have d9 := cell_row HQ3.out 9
                clear hb
                go_wp2_with fail
                refine (HC3.out _ HB3.out).mono ?_
                rintro e w4 ⟨rfl, hb⟩
                have HB4 := Lib.hid (HB3.out.trans (hb.mono HB3.out.size))
                have HP4 := Lib.hid (row_below hb HP3.out)
                have HQ4 := Lib.hid (row_below hb HQ3.out)
                clear c0 d0 c1 d1 c2 d2 c3 d3 c4 d4 c5 d5 c6 d6 c7 d7 c8 d8 c9 d9
                have c0 := cell_row HP4.out 0
                have d0 := cell_row HQ4.out 0
                have c1 := cell_row HP4.out 1
                have d1 := cell_row HQ4.out 1
                have c2 := cell_row HP4.out 2
                have d2 := cell_row HQ4.out 2
                have c3 := cell_row HP4.out 3
                have d3 := cell_row HQ4.out 3
                have c4 := cell_row HP4.out 4
                have d4 := cell_row HQ4.out 4
                have c5 := cell_row HP4.out 5
                have d5 := cell_row HQ4.out 5
                have c6 := cell_row HP4.out 6
                have d6 := cell_row HQ4.out 6
                have c7 := cell_row HP4.out 7
                have d7 := cell_row HQ4.out 7
                have c8 := cell_row HP4.out 8
                have d8 := cell_row HQ4.out 8
                have c9 := cell_row HP4.out 9
                have d9 := cell_row HQ4.out 9
                clear hb
                go_wp2_with fail
                refine (HC4.out _ HB4.out).mono ?_
                rintro e w5 ⟨rfl, hb⟩
                have HB5 := Lib.hid (HB4.out.trans (hb.mono HB4.out.size))
                have HP5 := Lib.hid (row_below hb HP4.out)
                have HQ5 := Lib.hid (row_below hb HQ4.out)
                clear c0 d0 c1 d1 c2 d2 c3 d3 c4 d4 c5 d5 c6 d6 c7 d7 c8 d8 c9 d9
                have c0 := cell_row HP5.out 0
                have d0 := cell_row HQ5.out 0
                have c1 := cell_row HP5.out 1
                have d1 := cell_row HQ5.out 1
                have c2 := cell_row HP5.out 2
                have d2 := cell_row HQ5.out 2
                have c3 := cell_row HP5.out 3
                have d3 := cell_row HQ5.out 3
                have c4 := cell_row HP5.out 4
                have d4 := cell_row HQ5.out 4
                have c5 := cell_row HP5.out 5
                have d5 := cell_row HQ5.out 5
                have c6 := cell_row HP5.out 6
                have d6 := cell_row HQ5.out 6
                have c7 := cell_row HP5.out 7
                have d7 := cell_row HQ5.out 7
                have c8 := cell_row HP5.out 8
                have d8 := cell_row HQ5.out 8
                have c9 := cell_row HP5.out 9
                have d9 := cell_row HQ5.out 9
                clear hb
                go_wp2_with fail
                refine (HC5.out _ HB5.out).mono ?_
                rintro e w6 ⟨rfl, hb⟩
                have HB6 := Lib.hid (HB5.out.trans (hb.mono HB5.out.size))
                have HP6 := Lib.hid (row_below hb HP5.out)
                have HQ6 := Lib.hid (row_below hb HQ5.out)
                clear c0 d0 c1 d1 c2 d2 c3 d3 c4 d4 c5 d5 c6 d6 c7 d7 c8 d8 c9 d9
                have c0 := cell_row HP6.out 0
                have d0 := cell_row HQ6.out 0
                have c1 := cell_row HP6.out 1
                have d1 := cell_row HQ6.out 1
                have c2 := cell_row HP6.out 2
                have d2 := cell_row HQ6.out 2
                have c3 := cell_row HP6.out 3
                have d3 := cell_row HQ6.out 3
                have c4 := cell_row HP6.out 4
                have d4 := cell_row HQ6.out 4
                have c5 := cell_row HP6.out 5
                have d5 := cell_row HQ6.out 5
                have c6 := cell_row HP6.out 6
                have d6 := cell_row HQ6.out 6
                have c7 := cell_row HP6.out 7
                have d7 := cell_row HQ6.out 7
                have c8 := cell_row HP6.out 8
                have d8 := cell_row HQ6.out 8
                have c9 := cell_row HP6.out 9
                have d9 := cell_row HQ6.out 9
                clear hb
                go_wp2_with fail
                refine (HC6.out _ HB6.out).mono ?_
                rintro e w7 ⟨rfl, hb⟩
                have HB7 := Lib.hid (HB6.out.trans (hb.mono HB6.out.size))
                have HP7 := Lib.hid (row_below hb HP6.out)
                have HQ7 := Lib.hid (row_below hb HQ6.out)
                clear c0 d0 c1 d1 c2 d2 c3 d3 c4 d4 c5 d5 c6 d6 c7 d7 c8 d8 c9 d9
                have c0 := cell_row HP7.out 0
                have d0 := cell_row HQ7.out 0
                have c1 := cell_row HP7.out 1
                have d1 := cell_row HQ7.out 1
                have c2 := cell_row HP7.out 2
                have d2 := cell_row HQ7.out 2
                have c3 := cell_row HP7.out 3
                have d3 := cell_row HQ7.out 3
                have c4 := cell_row HP7.out 4
                have d4 := cell_row HQ7.out 4
                have c5 := cell_row HP7.out 5
                have d5 := cell_row HQ7.out 5
                have c6 := cell_row HP7.out 6
                have d6 := cell_row HQ7.out 6
                have c7 := cell_row HP7.out 7
                have d7 := cell_row HQ7.out 7
                have c8 := cell_row HP7.out 8
                have d8 := cell_row HQ7.out 8
                have c9 := cell_row HP7.out 9
                have d9 := cell_row HQ7.out 9
                clear hb
                go_wp2_with fail
                go_ret
                exact ⟨by rw [HNE.out]; rfl, HB7.out⟩
            · have HNE : Hid (decide (((pnu, pte, pma, pin, pbu, pba, pro, ppo, pta, pda) : PartV) = (pnu, pte, pma, qin, qbu, qba, pro, qpo, qta, pda)) = false) := decide_eq_false (fun e => h5 (congrArg (fun z : PartV => z.2.2.2.1) e))
              rw [decide_eq_false h5] at HC5
              clear h5
              go_enter Tryz.func29, Tryz.ntmps29
              go_wp2_with fail
              refine (HC0.out _ HB0.out).mono ?_
              rintro e w1 ⟨rfl, hb⟩
              have HB1 := Lib.hid (HB0.out.trans (hb.mono HB0.out.size))
              have HP1 := Lib.hid (row_below hb HP0.out)
              have HQ1 := Lib.hid (row_below hb HQ0.out)
              have c0 := cell_row HP1.out 0
              have d0 := cell_row HQ1.out 0
              have c1 := cell_row HP1.out 1
              have d1 := cell_row HQ1.out 1
              have c2 := cell_row HP1.out 2
              have d2 := cell_row HQ1.out 2
              have c3 := cell_row HP1.out 3
              have d3 := cell_row HQ1.out 3
              have c4 := cell_row HP1.out 4
              have d4 := cell_row HQ1.out 4
              have c5 := cell_row HP1.out 5
              have d5 := cell_row HQ1.out 5
              have c6 := cell_row HP1.out 6
              have d6 := cell_row HQ1.out 6
              have c7 := cell_row HP1.out 7
              have d7 := cell_row HQ1.out 7
              have c8 := cell_row HP1.out 8
              have d8 := cell_row HQ1.out 8
              have c9 := cell_row HP1.out 9
              have d9 := cell_row HQ1.out 9
              clear hb
              go_wp2_with fail
              refine (HC1.out _ HB1.out).mono ?_
              rintro e w2 ⟨rfl, hb⟩
              have HB2 := Lib.hid (HB1.out.trans (hb.mono HB1.out.size))
              have HP2 := Lib.hid (row_below hb HP1.out)
              have HQ2 := Lib.hid (row_below hb HQ1.out)
              clear c0 d0 c1 d1 c2 d2 c3 d3 c4 d4 c5 d5 c6 d6 c7 d7 c8 d8 c9 d9
              have c0 := cell_row HP2.out 0
              have d0 := cell_row HQ2.out 0
              have c1 := cell_row HP2.out 1
              have d1 := cell_row HQ2.out 1
              have c2 := cell_row HP2.out 2
              have d2 := cell_row HQ2.out 2
              have c3 := cell_row HP2.out 3
              have d3 := cell_row HQ2.out 3
              have c4 := cell_row HP2.out 4
              have d4 := cell_row HQ2.out 4
              have c5 := cell_row HP2.out 5
              have d5 := cell_row HQ2.out 5
              have c6 := cell_row HP2.out 6
              have d6 := cell_row HQ2.out 6
              have c7 := cell_row HP2.out 7
              have d7 := cell_row HQ2.out 7
              have c8 := cell_row HP2.out 8
              have d8 := cell_row HQ2.out 8
              have c9 := cell_row HP2.out 9
              have d9 := cell_row HQ2.out 9
              clear hb
              go_wp2_with fail
              refine (HC2.out _ HB2.out).mono ?_
              rintro e w3 ⟨rfl, hb⟩
              have HB3 := Lib.hid (HB2.out.trans (hb.mono HB2.out.size))
              have HP3 := Lib.hid (row_below hb HP2.out)
              have HQ3 := Lib.hid (row_below hb HQ2.out)
              clear c0 d0 c1 d1 c2 d2 c3 d3 c4 d4 c5 d5 c6 d6 c7 d7 c8 d8 c9 d9
              have c0 := cell_row HP3.out 0
              have d0 := cell_row HQ3.out 0
              have c1 := cell_row HP3.out 1
              have d1 := cell_row HQ3.out 1
              have c2 := cell_row HP3.out 2
              have d2 := cell_row HQ3.out 2
              have c3 := cell_row HP3.out 3
              have d3 := cell_row HQ3.out 3
              have c4 := cell_row HP3.out 4
              have d4 := cell_row HQ3.out 4
              have c5 := cell_row HP3.out 5
              have d5 := cell_row HQ3.out 5
              have c6 := cell_row HP3.out 6
              have d6 := cell_row HQ3.out 6
              have c7 := cell_row HP3.out 7
              have d7 := cell_row HQ3.out 7
              have c8 := cell_row HP3.out 8
              have d8 := cell_row HQ3.out 8
              have c9 := cell_row HP3.out 9
              have d9 := cell_row HQ3.out 9
              clear hb
              go_wp2_with fail
              refine (HC3.out _ HB3.out).mono ?_
              rintro e w4 ⟨rfl, hb⟩
              have HB4 := Lib.hid (HB3.out.trans (hb.mono HB3.out.size))
              have HP4 := Lib.hid (row_below hb HP3.out)
              have HQ4 := Lib.hid (row_below hb HQ3.out)
              clear c0 d0 c1 d1 c2 d2 c3 d3 c4 d4 c5 d5 c6 d6 c7 d7 c8 d8 c9 d9
              have c0 := cell_row HP4.out 0
              have d0 := cell_row HQ4.out 0
              have c1 := cell_row HP4.out 1
              have d1 := cell_row HQ4.out 1
              have c2 := cell_row HP4.out 2
              have d2 := cell_row HQ4.out 2
              have c3 := cell_row HP4.out 3
              have d3 := cell_row HQ4.out 3
              have c4 := cell_row HP4.out 4
              have d4 := cell_row HQ4.out 4
              have c5 := cell_row HP4.out 5
              have d5 := cell_row HQ4.out 5
              have c6 := cell_row HP4.out 6
              have d6 := cell_row HQ4.out 6
              have c7 := cell_row HP4.out 7
              have d7 := cell_row HQ4.out 7
              have c8 := cell_row HP4.out 8
              have d8 := cell_row HQ4.out 8
              have c9 := cell_row HP4.out 9
              have d9 := cell_row HQ4.out 9
              clear hb
              go_wp2_with fail
              refine (HC4.out _ HB4.out).mono ?_
              rintro e w5 ⟨rfl, hb⟩
              have HB5 := Lib.hid (HB4.out.trans (hb.mono HB4.out.size))
              have HP5 := Lib.hid (row_below hb HP4.out)
              have HQ5 := Lib.hid (row_below hb HQ4.out)
              clear c0 d0 c1 d1 c2 d2 c3 d3 c4 d4 c5 d5 c6 d6 c7 d7 c8 d8 c9 d9
              have c0 := cell_row HP5.out 0
              have d0 := cell_row HQ5.out 0
              have c1 := cell_row HP5.out 1
              have d1 := cell_row HQ5.out 1
              have c2 := cell_row HP5.out 2
              have d2 := cell_row HQ5.out 2
              have c3 := cell_row HP5.out 3
              have d3 := cell_row HQ5.out 3
              have c4 := cell_row HP5.out 4
              have d4 := cell_row HQ5.out 4
              have c5 := cell_row HP5.out 5
              have d5 := cell_row HQ5.out 5
              have c6 := cell_row HP5.out 6
              have d6 := cell_row HQ5.out 6
              have c7 := cell_row HP5.out 7
              have d7 := cell_row HQ5.out 7
              have c8 := cell_row HP5.out 8
              have d8 := cell_row HQ5.out 8
              have c9 := cell_row HP5.out 9
              have d9 := cell_row HQ5.out 9
              clear hb
              go_wp2_with fail
              refine (HC5.out _ HB5.out).mono ?_
              rintro e w6 ⟨rfl, hb⟩
              have HB6 := Lib.hid (HB5.out.trans (hb.mono HB5.out.size))
              have HP6 := Lib.hid (row_below hb HP5.out)
              have HQ6 := Lib.hid (row_below hb HQ5.out)
              clear c0 d0 c1 d1 c2 d2 c3 d3 c4 d4 c5 d5 c6 d6 c7 d7 c8 d8 c9 d9
              have c0 := cell_row HP6.out 0
              have d0 := cell_row HQ6.out 0
              have c1 := cell_row HP6.out 1
              have d1 := cell_row HQ6.out 1
              have c2 := cell_row HP6.out 2
              have d2 := cell_row HQ6.out 2
              have c3 := cell_row HP6.out 3
              have d3 := cell_row HQ6.out 3
              have c4 := cell_row HP6.out 4
              have d4 := cell_row HQ6.out 4
              have c5 := cell_row HP6.out 5
              have d5 := cell_row HQ6.out 5
              have c6 := cell_row HP6.out 6
              have d6 := cell_row HQ6.out 6
              have c7 := cell_row HP6.out 7
              have d7 := cell_row HQ6.out 7
              have c8 := cell_row HP6.out 8
              have d8 := cell_row HQ6.out 8
              have c9 := cell_row HP6.out 9
              have d9 := cell_row HQ6.out 9
              clear hb
              go_wp2_with fail
              go_ret
              exact ⟨by rw [HNE.out]; rfl, HB6.out⟩
          · have HNE : Hid (decide (((pnu, pte, pma, pin, pbu, pba, pro, ppo, pta, pda) : PartV) = (pnu, pte, qma, qin, qbu, qba, pro, qpo, qta, pda)) = false) := decide_eq_false (fun e => h4 (congrArg (fun z : PartV => z.2.2.1) e))
            rw [decide_eq_false h4] at HC4
            clear h4
            go_enter Tryz.func29, Tryz.ntmps29
            go_wp2_with fail
            refine (HC0.out _ HB0.out).mono ?_
            rintro e w1 ⟨rfl, hb⟩
            have HB1 := Lib.hid (HB0.out.trans (hb.mono HB0.out.size))
            have HP1 := Lib.hid (row_below hb HP0.out)
            have HQ1 := Lib.hid (row_below hb HQ0.out)
            have c0 := cell_row HP1.out 0
            have d0 := cell_row HQ1.out 0
            have c1 := cell_row HP1.out 1
            have d1 := cell_row HQ1.out 1
            have c2 := cell_row HP1.out 2
            have d2 := cell_row HQ1.out 2
            have c3 := cell_row HP1.out 3
            have d3 := cell_row HQ1.out 3
            have c4 := cell_row HP1.out 4
            have d4 := cell_row HQ1.out 4
            have c5 := cell_row HP1.out 5
            have d5 := cell_row HQ1.out 5
            have c6 := cell_row HP1.out 6
            have d6 := cell_row HQ1.out 6
            have c7 := cell_row HP1.out 7
            have d7 := cell_row HQ1.out 7
            have c8 := cell_row HP1.out 8
            have d8 := cell_row HQ1.out 8
            have c9 := cell_row HP1.out 9
            have d9 := cell_row HQ1.out 9
            clear hb
            go_wp2_with fail
            refine (HC1.out _ HB1.out).mono ?_
            rintro e w2 ⟨rfl, hb⟩
            have HB2 := Lib.hid (HB1.out.trans (hb.mono HB1.out.size))
            have HP2 := Lib.hid (row_below hb HP1.out)
            have HQ2 := Lib.hid (row_below hb HQ1.out)
            clear c0 d0 c1 d1 c2 d2 c3 d3 c4 d4 c5 d5 c6 d6 c7 d7 c8 d8 c9 d9
            have c0 := cell_row HP2.out 0
            have d0 := cell_row HQ2.out 0
            have c1 := cell_row HP2.out 1
            have d1 := cell_row HQ2.out 1
            have c2 := cell_row HP2.out 2
            have d2 := cell_row HQ2.out 2
            have c3 := cell_row HP2.out 3
            have d3 := cell_row HQ2.out 3
            have c4 := cell_row HP2.out 4
            have d4 := cell_row HQ2.out 4
            have c5 := cell_row HP2.out 5
            have d5 := cell_row HQ2.out 5
            have c6 := cell_row HP2.out 6
            have d6 := cell_row HQ2.out 6
            have c7 := cell_row HP2.out 7
            have d7 := cell_row HQ2.out 7
            have c8 := cell_row HP2.out 8
            have d8 := cell_row HQ2.out 8
            have c9 := cell_row HP2.out 9
            have d9 := cell_row HQ2.out 9
            clear hb
            go_wp2_with fail
            refine (HC2.out _ HB2.out).mono ?_
            rintro e w3 ⟨rfl, hb⟩
            have HB3 := Lib.hid (HB2.out.trans (hb.mono HB2.out.size))
            have HP3 := Lib.hid (row_below hb HP2.out)
            have HQ3 := Lib.hid (row_below hb HQ2.out)
            clear c0 d0 c1 d1 c2 d2 c3 d3 c4 d4 c5 d5 c6 d6 c7 d7 c8 d8 c9 d9
            have c0 := cell_row HP3.out 0
            have d0 := cell_row HQ3.out 0
            have c1 := cell_row HP3.out 1
            have d1 := cell_row HQ3.out 1
            have c2 := cell_row HP3.out 2
            have d2 := cell_row HQ3.out 2
            have c3 := cell_row HP3.out 3
            have d3 := cell_row HQ3.out 3
            have c4 := cell_row HP3.out 4
            have d4 := cell_row HQ3.out 4
            have c5 := cell_row HP3.out 5
            have d5 := cell_row HQ3.out 5
            have c6 := cell_row HP3.out 6
            have d6 := cell_row HQ3.out 6
            have c7 := cell_row HP3.out 7
            have d7 := cell_row HQ3.out 7
            have c8 := cell_row HP3.out 8
            have d8 := cell_row HQ3.out 8
            have c9 := cell_row HP3.out 9
            have d9 := cell_row HQ3.out 9
            clear hb
            go_wp2_with fail
            refine (HC3.out _ HB3.out).mono ?_
            rintro e w4 ⟨rfl, hb⟩
            have HB4 := Lib.hid (HB3.out.trans (hb.mono HB3.out.size))
            have HP4 := Lib.hid (row_below hb HP3.out)
            have HQ4 := Lib.hid (row_below hb HQ3.out)
            clear c0 d0 c1 d1 c2 d2 c3 d3 c4 d4 c5 d5 c6 d6 c7 d7 c8 d8 c9 d9
            have c0 := cell_row HP4.out 0
            have d0 := cell_row HQ4.out 0
            have c1 := cell_row HP4.out 1
            have d1 := cell_row HQ4.out 1
            have c2 := cell_row HP4.out 2
            have d2 := cell_row HQ4.out 2
            have c3 := cell_row HP4.out 3
            have d3 := cell_row HQ4.out 3
            have c4 := cell_row HP4.out 4
            have d4 := cell_row HQ4.out 4
            have c5 := cell_row HP4.out 5
            have d5 := cell_row HQ4.out 5
            have c6 := cell_row HP4.out 6
            have d6 := cell_row HQ4.out 6
            have c7 := cell_row HP4.out 7
            have d7 := cell_row HQ4.out 7
            have c8 := cell_row HP4.out 8
            have d8 := cell_row HQ4.out 8
            have c9 := cell_row HP4.out 9
            have d9 := cell_row HQ4.out 9
            clear hb
            go_wp2_with fail
            refine (HC4.out _ HB4.out).mono ?_
            rintro e w5 ⟨rfl, hb⟩
            have HB5 := Lib.hid (HB4.out.trans (hb.mono HB4.out.size))
            have HP5 := Lib.hid (row_below hb HP4.out)
            have HQ5 := Lib.hid (row_below hb HQ4.out)
            clear c0 d0 c1 d1 c2 d2 c3 d3 c4 d4 c5 d5 c6 d6 c7 d7 c8 d8 c9 d9
            have c0 := cell_row HP5.out 0
            have d0 := cell_row HQ5.out 0
            have c1 := cell_row HP5.out 1
            have d1 := cell_row HQ5.out 1
            have c2 := cell_row HP5.out 2
            have d2 := cell_row HQ5.out 2
            have c3 := cell_row HP5.out 3
            have d3 := cell_row HQ5.out 3
            have c4 := cell_row HP5.out 4
            have d4 := cell_row HQ5.out 4
            have c5 := cell_row HP5.out 5
            have d5 := cell_row HQ5.out 5
            have c6 := cell_row HP5.out 6
            have d6 := cell_row HQ5.out 6
            have c7 := cell_row HP5.out 7
            have d7 := cell_row HQ5.out 7
            have c8 := cell_row HP5.out 8
            have d8 := cell_row HQ5.out 8
            have c9 := cell_row HP5.out 9
            have d9 := cell_row HQ5.out 9
            clear hb
            go_wp2_with fail
            go_ret
            exact ⟨by rw [HNE.out]; rfl, HB5.out⟩
        · have HNE : Hid (decide (((pnu, pte, pma, pin, pbu, pba, pro, ppo, pta, pda) : PartV) = (pnu, pte, qma, qin, qbu, qba, qro, qpo, qta, pda)) = false) := decide_eq_false (fun e => h3 (congrArg (fun z : PartV => z.2.2.2.2.2.2.1) e))
          rw [decide_eq_false h3] at HC3
          clear h3
          go_enter Tryz.func29, Tryz.ntmps29
          go_wp2_with fail
          refine (HC0.out _ HB0.out).mono ?_
          rintro e w1 ⟨rfl, hb⟩
          have HB1 := Lib.hid (HB0.out.trans (hb.mono HB0.out.size))
          have HP1 := Lib.hid (row_below hb HP0.out)
          have HQ1 := Lib.hid (row_below hb HQ0.out)
          have c0 := cell_row HP1.out 0
          have d0 := cell_row HQ1.out 0
          have c1 := cell_row HP1.out 1
          have d1 := cell_row HQ1.out 1
          have c2 := cell_row HP1.out 2
          have d2 := cell_row HQ1.out 2
          have c3 := cell_row HP1.out 3
          have d3 := cell_row HQ1.out 3
          have c4 := cell_row HP1.out 4
          have d4 := cell_row HQ1.out 4
          have c5 := cell_row HP1.out 5
          have d5 := cell_row HQ1.out 5
          have c6 := cell_row HP1.out 6
          have d6 := cell_row HQ1.out 6
          have c7 := cell_row HP1.out 7
          have d7 := cell_row HQ1.out 7
          have c8 := cell_row HP1.out 8
          have d8 := cell_row HQ1.out 8
          have c9 := cell_row HP1.out 9
          have d9 := cell_row HQ1.out 9
          clear hb
          go_wp2_with fail
          refine (HC1.out _ HB1.out).mono ?_
          rintro e w2 ⟨rfl, hb⟩
          have HB2 := Lib.hid (HB1.out.trans (hb.mono HB1.out.size))
          have HP2 := Lib.hid (row_below hb HP1.out)
          have HQ2 := Lib.hid (row_below hb HQ1.out)
          clear c0 d0 c1 d1 c2 d2 c3 d3 c4 d4 c5 d5 c6 d6 c7 d7 c8 d8 c9 d9
          have c0 := cell_row HP2.out 0
          have d0 := cell_row HQ2.out 0
          have c1 := cell_row HP2.out 1
          have d1 := cell_row HQ2.out 1
          have c2 := cell_row HP2.out 2
          have d2 := cell_row HQ2.out 2
          have c3 := cell_row HP2.out 3
          have d3 := cell_row HQ2.out 3
          have c4 := cell_row HP2.out 4
          have d4 := cell_row HQ2.out 4
          have c5 := cell_row HP2.out 5
          have d5 := cell_row HQ2.out 5
          have c6 := cell_row HP2.out 6
          have d6 := cell_row HQ2.out 6
          have c7 := cell_row HP2.out 7
          have d7 := cell_row HQ2.out 7
          have c8 := cell_row HP2.out 8
          have d8 := cell_row HQ2.out 8
          have c9 := cell_row HP2.out 9
          have d9 := cell_row HQ2.out 9
          clear hb
          go_wp2_with fail
          refine (HC2.out _ HB2.out).mono ?_
          rintro e w3 ⟨rfl, hb⟩
          have HB3 := Lib.hid (HB2.out.trans (hb.mono HB2.out.size))
          have HP3 := Lib.hid (row_below hb HP2.out)
          have HQ3 := Lib.hid (row_below hb HQ2.out)
          clear c0 d0 c1 d1 c2 d2 c3 d3 c4 d4 c5 d5 c6 d6 c7 d7 c8 d8 c9 d9
          have c0 := cell_row HP3.out 0
          have d0 := cell_row HQ3.out 0
          have c1 := cell_row HP3.out 1
          have d1 := cell_row HQ3.out 1
          have c2 := cell_row HP3.out 2
          have d2 := cell_row HQ3.out 2
          have c3 := cell_row HP3.out 3
          have d3 := cell_row HQ3.out 3
          have c4 := cell_row HP3.out 4
          have d4 := cell_row HQ3.out 4
          have c5 := cell_row HP3.out 5
          have d5 := cell_row HQ3.out 5
          have c6 := cell_row HP3.out 6
          have d6 := cell_row HQ3.out 6
          have c7 := cell_row HP3.out 7
          have d7 := cell_row HQ3.out 7
          have c8 := cell_row HP3.out 8
          have d8 := cell_row HQ3.out 8
          have c9 := cell_row HP3.out 9
          have d9 := cell_row HQ3.out 9
          clear hb
          go_wp2_with fail
          refine (HC3.out _ HB3.out).mono ?_
          rintro e w4 ⟨rfl, hb⟩
          have HB4 := Lib.hid (HB3.out.trans (hb.mono HB3.out.size))
          have HP4 := Lib.hid (row_below hb HP3.out)
          have HQ4 := Lib.hid (row_below hb HQ3.out)
          clear c0 d0 c1 d1 c2 d2 c3 d3 c4 d4 c5 d5 c6 d6 c7 d7 c8 d8 c9 d9
          have c0 := cell_row HP4.out 0
          have d0 := cell_row HQ4.out 0
          have c1 := cell_row HP4.out 1
          have d1 := cell_row HQ4.out 1
          have c2 := cell_row HP4.out 2
          have d2 := cell_row HQ4.out 2
          have c3 := cell_row HP4.out 3
          have d3 := cell_row HQ4.out 3
          have c4 := cell_row HP4.out 4
          have d4 := cell_row HQ4.out 4
          have c5 := cell_row HP4.out 5
          have d5 := cell_row HQ4.out 5
          have c6 := cell_row HP4.out 6
          have d6 := cell_row HQ4.out 6
          have c7 := cell_row HP4.out 7
          have d7 := cell_row HQ4.out 7
          have c8 := cell_row HP4.out 8
          have d8 := cell_row HQ4.out 8
          have c9 := cell_row HP4.out 9
          have d9 := cell_row HQ4.out 9
          clear hb
          go_wp2_with fail
          go_ret
          exact ⟨by rw [HNE.out]; rfl, HB4.out⟩
      · have HNE : Hid (decide (((pnu, pte, pma, pin, pbu, pba, pro, ppo, pta, pda) : PartV) = (pnu, pte, qma, qin, qbu, qba, qro, qpo, qta, qda)) = false) := decide_eq_false (fun e => h2 (congrArg (fun z : PartV => z.2.2.2.2.2.2.2.2.2) e))
        rw [decide_eq_false h2] at HC2
        clear h2
        go_enter Tryz.func29, Tryz.ntmps29
        go_wp2_with fail
        refine (HC0.out _ HB0.out).mono ?_
        rintro e w1 ⟨rfl, hb⟩
        have HB1 := Lib.hid (HB0.out.trans (hb.mono HB0.out.size))
        have HP1 := Lib.hid (row_below hb HP0.out)
        have HQ1 := Lib.hid (row_below hb HQ0.out)
        have c0 := cell_row HP1.out 0
        have d0 := cell_row HQ1.out 0
        have c1 := cell_row HP1.out 1
        have d1 := cell_row HQ1.out 1
        have c2 := cell_row HP1.out 2
        have d2 := cell_row HQ1.out 2
        have c3 := cell_row HP1.out 3
        have d3 := cell_row HQ1.out 3
        have c4 := cell_row HP1.out 4
        have d4 := cell_row HQ1.out 4
        have c5 := cell_row HP1.out 5
        have d5 := cell_row HQ1.out 5
        have c6 := cell_row HP1.out 6
        have d6 := cell_row HQ1.out 6
        have c7 := cell_row HP1.out 7
        have d7 := cell_row HQ1.out 7
        have c8 := cell_row HP1.out 8
        have d8 := cell_row HQ1.out 8
        have c9 := cell_row HP1.out 9
        have d9 := cell_row HQ1.out 9
        clear hb
        go_wp2_with fail
        refine (HC1.out _ HB1.out).mono ?_
        rintro e w2 ⟨rfl, hb⟩
        have HB2 := Lib.hid (HB1.out.trans (hb.mono HB1.out.size))
        have HP2 := Lib.hid (row_below hb HP1.out)
        have HQ2 := Lib.hid (row_below hb HQ1.out)
        clear c0 d0 c1 d1 c2 d2 c3 d3 c4 d4 c5 d5 c6 d6 c7 d7 c8 d8 c9 d9
        have c0 := cell_row HP2.out 0
        have d0 := cell_row HQ2.out 0
        have c1 := cell_row HP2.out 1
        have d1 := cell_row HQ2.out 1
        have c2 := cell_row HP2.out 2
        have d2 := cell_row HQ2.out 2
        have c3 := cell_row HP2.out 3
        have d3 := cell_row HQ2.out 3
        have c4 := cell_row HP2.out 4
        have d4 := cell_row HQ2.out 4
        have c5 := cell_row HP2.out 5
        have d5 := cell_row HQ2.out 5
        have c6 := cell_row HP2.out 6
        have d6 := cell_row HQ2.out 6
        have c7 := cell_row HP2.out 7
        have d7 := cell_row HQ2.out 7
        have c8 := cell_row HP2.out 8
        have d8 := cell_row HQ2.out 8
        have c9 := cell_row HP2.out 9
        have d9 := cell_row HQ2.out 9
        clear hb
        go_wp2_with fail
        refine (HC2.out _ HB2.out).mono ?_
        rintro e w3 ⟨rfl, hb⟩
        have HB3 := Lib.hid (HB2.out.trans (hb.mono HB2.out.size))
        have HP3 := Lib.hid (row_below hb HP2.out)
        have HQ3 := Lib.hid (row_below hb HQ2.out)
        clear c0 d0 c1 d1 c2 d2 c3 d3 c4 d4 c5 d5 c6 d6 c7 d7 c8 d8 c9 d9
        have c0 := cell_row HP3.out 0
        have d0 := cell_row HQ3.out 0
        have c1 := cell_row HP3.out 1
        have d1 := cell_row HQ3.out 1
        have c2 := cell_row HP3.out 2
        have d2 := cell_row HQ3.out 2
        have c3 := cell_row HP3.out 3
        have d3 := cell_row HQ3.out 3
        have c4 := cell_row HP3.out 4
        have d4 := cell_row HQ3.out 4
        have c5 := cell_row HP3.out 5
        have d5 := cell_row HQ3.out 5
        have c6 := cell_row HP3.out 6
        have d6 := cell_row HQ3.out 6
        have c7 := cell_row HP3.out 7
        have d7 := cell_row HQ3.out 7
        have c8 := cell_row HP3.out 8
        have d8 := cell_row HQ3.out 8
        have c9 := cell_row HP3.out 9
        have d9 := cell_row HQ3.out 9
        clear hb
        go_wp2_with fail
        go_ret
        exact ⟨by rw [HNE.out]; rfl, HB3.out⟩
    · have HNE : Hid (decide (((pnu, pte, pma, pin, pbu, pba, pro, ppo, pta, pda) : PartV) = (pnu, qte, qma, qin, qbu, qba, qro, qpo, qta, qda)) = false) := decide_eq_false (fun e => h1 (congrArg (fun z : PartV => z.2.1) e))
      rw [decide_eq_false h1] at HC1
      clear h1
      go_enter Tryz.func29, Tryz.ntmps29
      go_wp2_with fail
      refine (HC0.out _ HB0.out).mono ?_
      rintro e w1 ⟨rfl, hb⟩
      have HB1 := Lib.hid (HB0.out.trans (hb.mono HB0.out.size))
      have HP1 := Lib.hid (row_below hb HP0.out)
      have HQ1 := Lib.hid (row_below hb HQ0.out)
      have c0 := cell_row HP1.out 0
      have d0 := cell_row HQ1.out 0
      have c1 := cell_row HP1.out 1
      have d1 := cell_row HQ1.out 1
      have c2 := cell_row HP1.out 2
      have d2 := cell_row HQ1.out 2
      have c3 := cell_row HP1.out 3
      have d3 := cell_row HQ1.out 3
      have c4 := cell_row HP1.out 4
      have d4 := cell_row HQ1.out 4
      have c5 := cell_row HP1.out 5
      have d5 := cell_row HQ1.out 5
      have c6 := cell_row HP1.out 6
      have d6 := cell_row HQ1.out 6
      have c7 := cell_row HP1.out 7
      have d7 := cell_row HQ1.out 7
      have c8 := cell_row HP1.out 8
      have d8 := cell_row HQ1.out 8
      have c9 := cell_row HP1.out 9
      have d9 := cell_row HQ1.out 9
      clear hb
      go_wp2_with fail
      refine (HC1.out _ HB1.out).mono ?_
      rintro e w2 ⟨rfl, hb⟩
      have HB2 := Lib.hid (HB1.out.trans (hb.mono HB1.out.size))
      have HP2 := Lib.hid (row_below hb HP1.out)
      have HQ2 := Lib.hid (row_below hb HQ1.out)
      clear c0 d0 c1 d1 c2 d2 c3 d3 c4 d4 c5 d5 c6 d6 c7 d7 c8 d8 c9 d9
      have c0 := cell_row HP2.out 0
      have d0 := cell_row HQ2.out 0
      have c1 := cell_row HP2.out 1
      have d1 := cell_row HQ2.out 1
      have c2 := cell_row HP2.out 2
      have d2 := cell_row HQ2.out 2
      have c3 := cell_row HP2.out 3
      have d3 := cell_row HQ2.out 3
      have c4 := cell_row HP2.out 4
      have d4 := cell_row HQ2.out 4
      have c5 := cell_row HP2.out 5
      have d5 := cell_row HQ2.out 5
      have c6 := cell_row HP2.out 6
      have d6 := cell_row HQ2.out 6
      have c7 := cell_row HP2.out 7
      have d7 := cell_row HQ2.out 7
      have c8 := cell_row HP2.out 8
      have d8 := cell_row HQ2.out 8
      have c9 := cell_row HP2.out 9
      have d9 := cell_row HQ2.out 9
      clear hb
      go_wp2_with fail
      go_ret
      exact ⟨by rw [HNE.out]; rfl, HB2.out⟩
  · have HNE : Hid (decide (((pnu, pte, pma, pin, pbu, pba, pro, ppo, pta, pda) : PartV) = (qnu, qte, qma, qin, qbu, qba, qro, qpo, qta, qda)) = false) := decide_eq_false (fun e => h0 (congrArg (fun z : PartV => z.1) e))
    rw [decide_eq_false h0] at HC0
    clear h0
    go_enter Tryz.func29, Tryz.ntmps29
    go_wp2_with fail
    refine (HC0.out _ HB0.out).mono ?_
    rintro e w1 ⟨rfl, hb⟩
    have HB1 := Lib.hid (HB0.out.trans (hb.mono HB0.out.size))
    have HP1 := Lib.hid (row_below hb HP0.out)
    have HQ1 := Lib.hid (row_below hb HQ0.out)
    have c0 := cell_row HP1.out 0
    have d0 := cell_row HQ1.out 0
    have c1 := cell_row HP1.out 1
    have d1 := cell_row HQ1.out 1
    have c2 := cell_row HP1.out 2
    have d2 := cell_row HQ1.out 2
    have c3 := cell_row HP1.out 3
    have d3 := cell_row HQ1.out 3
    have c4 := cell_row HP1.out 4
    have d4 := cell_row HQ1.out 4
    have c5 := cell_row HP1.out 5
    have d5 := cell_row HQ1.out 5
    have c6 := cell_row HP1.out 6
    have d6 := cell_row HQ1.out 6
    have c7 := cell_row HP1.out 7
    have d7 := cell_row HQ1.out 7
    have c8 := cell_row HP1.out 8
    have d8 := cell_row HQ1.out 8
    have c9 := cell_row HP1.out 9
    have d9 := cell_row HQ1.out 9
    clear hb
    go_wp2_with fail
    go_ret
    exact ⟨by rw [HNE.out]; rfl, HB1.out⟩

theorem eqf_Part {v1 v2 : Value} {l m : List PartV} {w : World} (h1 : RowsOf PartR 10 w v1 l) (h2 : RowsOf PartR 10 w v2 m) :
    Calls Tryz.prog 28 #[v1, v2, .func (.func 29) #[] #[]] w (GotEq (decide (l = m)) w) := by
  unfold GotEq
  obtain ⟨a, cap, b, off, rfl, hmx, ha, hit⟩ := rows_open h1
  obtain ⟨a2, cap2, b2, off2, rfl, hmx2, ha2, hit2⟩ := rows_open h2
  unfold maxLen at hmx hmx2
  have A := Lib.hid ha
  have A2 := Lib.hid ha2
  have HIt := Lib.hid hit
  have HIt2 := Lib.hid hit2
  clear h1 h2 ha ha2 hit hit2
  by_cases hl : l.length = m.length
  · have e1 : ((l.length : Int) != (l.length : Int)) = false := by simp
    have HL := Lib.hid hl
    rw [← hl]
    clear hl
    go_enter Tryz.func28, Tryz.ntmps28
    go_wp2_with fail
    go_loopw [17] (fun i wr => ∃ k : Nat, k ≤ l.length ∧ i = .int .i64 k ∧ Hid (Below w.heap.size w wr) ∧ Hid (l.take k = m.take k)) (fun i _ => l.length - (intOf i).toNat)
    case atStart => exact ⟨0, by omega, rfl, Below.refl _ _, rfl⟩
    case round =>
      obtain ⟨k, hk, rfl, HW, HT⟩ := hrel
      by_cases hlt : k < l.length
      · obtain rfl := A.out (by omega)
        obtain rfl := A2.out (by have := HL.out; omega)
        obtain ⟨x, hx⟩ : ∃ x, l[k]? = some x := ⟨_, List.getElem?_eq_getElem hlt⟩
        obtain ⟨y, hy⟩ : ∃ x, m[k]? = some x := ⟨_, List.getElem?_eq_getElem (by have := HL.out; omega)⟩
        obtain ⟨c1, hr1, hc1⟩ := HIt.out k x hx
        obtain ⟨c2, hr2, hc2⟩ := HIt2.out k y hy
        have HX := Lib.hid hx
        have HY := Lib.hid hy
        have HR1 := Lib.hid hr1
        have HR2 := Lib.hid hr2
        obtain ⟨xnu, xte, xma, xin, xbu, xba, xro, xpo, xta, xda, rfl, hxnu, hxte, hxma, hxin, hxbu, hxba, hxro, hxpo, hxta, hxda⟩ := hr1
        obtain ⟨ynu, yte, yma, yin, ybu, yba, yro, ypo, yta, yda, rfl, hynu, hyte, hyma, hyin, hybu, hyba, hyro, hypo, hyta, hyda⟩ := hr2
        obtain ⟨xnuA, xnuC, xnuB, xnuO, rfl, -⟩ := hxnu.open
        obtain ⟨xteA, xteC, xteB, xteO, rfl, -⟩ := rows_open hxte
        obtain ⟨xmaA, xmaC, xmaB, xmaO, rfl, -⟩ := rows_open hxma
        obtain ⟨xinA, xinC, xinB, xinO, rfl, -⟩ := rows_open hxin
        obtain ⟨xbuA, xbuC, xbuB, xbuO, rfl, -⟩ := rows_open hxbu
        obtain ⟨xbaA, xbaC, xbaB, xbaO, rfl, -⟩ := rows_open hxba
        obtain ⟨xroA, xroC, xroB, xroO, rfl, -⟩ := rows_open hxro
        obtain ⟨xpoA, xpoC, xpoB, xpoO, rfl, -⟩ := rows_open hxpo
        obtain ⟨xtaA, xtaC, xtaB, xtaO, rfl, -⟩ := rows_open hxta
        obtain ⟨xdaA, xdaC, xdaB, xdaO, rfl, -⟩ := hxda.open
        obtain ⟨ynuA, ynuC, ynuB, ynuO, rfl, -⟩ := hynu.open
        obtain ⟨yteA, yteC, yteB, yteO, rfl, -⟩ := rows_open hyte
        obtain ⟨ymaA, ymaC, ymaB, ymaO, rfl, -⟩ := rows_open hyma
        obtain ⟨yinA, yinC, yinB, yinO, rfl, -⟩ := rows_open hyin
        obtain ⟨ybuA, ybuC, ybuB, ybuO, rfl, -⟩ := rows_open hybu
        obtain ⟨ybaA, ybaC, ybaB, ybaO, rfl, -⟩ := rows_open hyba
        obtain ⟨yroA, yroC, yroB, yroO, rfl, -⟩ := rows_open hyro
        obtain ⟨ypoA, ypoC, ypoB, ypoO, rfl, -⟩ := rows_open hypo
        obtain ⟨ytaA, ytaC, ytaB, ytaO, rfl, -⟩ := rows_open hyta
        obtain ⟨ydaA, ydaC, ydaB, ydaO, rfl, -⟩ := hyda.open
        have e3 : decide ((k : Int) < (l.length : Int)) = true := decide_eq_true (by omega)
        have hlt2 : k < m.length := by have := HL.out; omega
        have hbw := HW.out
        have x0 : w.cell? ⟨b, off + k * 10, none⟩ = some (.slice xnuA x.1.length xnuC) := hc1 0 _ rfl
        have x1 : w.cell? ⟨b, off + k * 10 + 1, none⟩ = some (.slice xteA x.2.1.length xteC) := hc1 1 _ rfl
        have x2 : w.cell? ⟨b, off + k * 10 + 2, none⟩ = some (.slice xmaA x.2.2.1.length xmaC) := hc1 2 _ rfl
        have x3 : w.cell? ⟨b, off + k * 10 + 3, none⟩ = some (.slice xinA x.2.2.2.1.length xinC) := hc1 3 _ rfl
        have x4 : w.cell? ⟨b, off + k * 10 + 4, none⟩ = some (.slice xbuA x.2.2.2.2.1.length xbuC) := hc1 4 _ rfl
        have x5 : w.cell? ⟨b, off + k * 10 + 5, none⟩ = some (.slice xbaA x.2.2.2.2.2.1.length xbaC) := hc1 5 _ rfl
        have x6 : w.cell? ⟨b, off + k * 10 + 6, none⟩ = some (.slice xroA x.2.2.2.2.2.2.1.length xroC) := hc1 6 _ rfl
        have x7 : w.cell? ⟨b, off + k * 10 + 7, none⟩ = some (.slice xpoA x.2.2.2.2.2.2.2.1.length xpoC) := hc1 7 _ rfl
        have x8 : w.cell? ⟨b, off + k * 10 + 8, none⟩ = some (.slice xtaA x.2.2.2.2.2.2.2.2.1.length xtaC) := hc1 8 _ rfl
        have x9 : w.cell? ⟨b, off + k * 10 + 9, none⟩ = some (.slice xdaA x.2.2.2.2.2.2.2.2.2.length xdaC) := hc1 9 _ rfl
        have y0 : w.cell? ⟨b2, off2 + k * 10, none⟩ = some (.slice ynuA y.1.length ynuC) := hc2 0 _ rfl
        have y1 : w.cell? ⟨b2, off2 + k * 10 + 1, none⟩ = some (.slice yteA y.2.1.length yteC) := hc2 1 _ rfl
        have y2 : w.cell? ⟨b2, off2 + k * 10 + 2, none⟩ = some (.slice ymaA y.2.2.1.length ymaC) := hc2 2 _ rfl
        have y3 : w.cell? ⟨b2, off2 + k * 10 + 3, none⟩ = some (.slice yinA y.2.2.2.1.length yinC) := hc2 3 _ rfl
        have y4 : w.cell? ⟨b2, off2 + k * 10 + 4, none⟩ = some (.slice ybuA y.2.2.2.2.1.length ybuC) := hc2 4 _ rfl
        have y5 : w.cell? ⟨b2, off2 + k * 10 + 5, none⟩ = some (.slice ybaA y.2.2.2.2.2.1.length ybaC) := hc2 5 _ rfl
        have y6 : w.cell? ⟨b2, off2 + k * 10 + 6, none⟩ = some (.slice yroA y.2.2.2.2.2.2.1.length yroC) := hc2 6 _ rfl
        have y7 : w.cell? ⟨b2, off2 + k * 10 + 7, none⟩ = some (.slice ypoA y.2.2.2.2.2.2.2.1.length ypoC) := hc2 7 _ rfl
        have y8 : w.cell? ⟨b2, off2 + k * 10 + 8, none⟩ = some (.slice ytaA y.2.2.2.2.2.2.2.2.1.length ytaC) := hc2 8 _ rfl
        have y9 : w.cell? ⟨b2, off2 + k * 10 + 9, none⟩ = some (.slice ydaA y.2.2.2.2.2.2.2.2.2.length ydaC) := hc2 9 _ rfl
        have x0 := (hbw.cell (World.block_lt_of_cell? _ _ x0)).trans x0
        have x1 := (hbw.cell (World.block_lt_of_cell? _ _ x1)).trans x1
        have x2 := (hbw.cell (World.block_lt_of_cell? _ _ x2)).trans x2
        have x3 := (hbw.cell (World.block_lt_of_cell? _ _ x3)).trans x3
        have x4 := (hbw.cell (World.block_lt_of_cell? _ _ x4)).trans x4
        have x5 := (hbw.cell (World.block_lt_of_cell? _ _ x5)).trans x5
        have x6 := (hbw.cell (World.block_lt_of_cell? _ _ x6)).trans x6
        have x7 := (hbw.cell (World.block_lt_of_cell? _ _ x7)).trans x7
        have x8 := (hbw.cell (World.block_lt_of_cell? _ _ x8)).trans x8
        have x9 := (hbw.cell (World.block_lt_of_cell? _ _ x9)).trans x9
        have HB1 := below_alloc2 (w := wr) (.cells #[.slice xnuA x.1.length xnuC, .slice xteA x.2.1.length xteC, .slice xmaA x.2.2.1.length xmaC, .slice xinA x.2.2.2.1.length xinC, .slice xbuA x.2.2.2.2.1.length xbuC, .slice xbaA x.2.2.2.2.2.1.length xbaC, .slice xroA x.2.2.2.2.2.2.1.length xroC, .slice xpoA x.2.2.2.2.2.2.2.1.length xpoC, .slice xtaA x.2.2.2.2.2.2.2.2.1.length xtaC, .slice xdaA x.2.2.2.2.2.2.2.2.2.length xdaC] 46)
        have HB2 := HB1.trans ((below_alloc2 (w := wr.alloc (.cells #[.slice xnuA x.1.length xnuC, .slice xteA x.2.1.length xteC, .slice xmaA x.2.2.1.length xmaC, .slice xinA x.2.2.2.1.length xinC, .slice xbuA x.2.2.2.2.1.length xbuC, .slice xbaA x.2.2.2.2.2.1.length xbaC, .slice xroA x.2.2.2.2.2.2.1.length xroC, .slice xpoA x.2.2.2.2.2.2.2.1.length xpoC, .slice xtaA x.2.2.2.2.2.2.2.2.1.length xtaC, .slice xdaA x.2.2.2.2.2.2.2.2.2.length xdaC] 46)) (.cells #[.slice ynuA y.1.length ynuC, .slice yteA y.2.1.length yteC, .slice ymaA y.2.2.1.length ymaC, .slice yinA y.2.2.2.1.length yinC, .slice ybuA y.2.2.2.2.1.length ybuC, .slice ybaA y.2.2.2.2.2.1.length ybaC, .slice yroA y.2.2.2.2.2.2.1.length yroC, .slice ypoA y.2.2.2.2.2.2.2.1.length ypoC, .slice ytaA y.2.2.2.2.2.2.2.2.1.length ytaC, .slice ydaA y.2.2.2.2.2.2.2.2.2.length ydaC] 46)).mono (by simp))
        have hbw1 := hbw.trans (HB1.mono hbw.size)
        have y0 := (hbw1.cell (World.block_lt_of_cell? _ _ y0)).trans y0
        have y1 := (hbw1.cell (World.block_lt_of_cell? _ _ y1)).trans y1
        have y2 := (hbw1.cell (World.block_lt_of_cell? _ _ y2)).trans y2
        have y3 := (hbw1.cell (World.block_lt_of_cell? _ _ y3)).trans y3
        have y4 := (hbw1.cell (World.block_lt_of_cell? _ _ y4)).trans y4
        have y5 := (hbw1.cell (World.block_lt_of_cell? _ _ y5)).trans y5
        have y6 := (hbw1.cell (World.block_lt_of_cell? _ _ y6)).trans y6
        have y7 := (hbw1.cell (World.block_lt_of_cell? _ _ y7)).trans y7
        have y8 := (hbw1.cell (World.block_lt_of_cell? _ _ y8)).trans y8
        have y9 := (hbw1.cell (World.block_lt_of_cell? _ _ y9)).trans y9
        have HBw2 := Lib.hid (hbw.trans (HB2.mono hbw.size))
        have HEq := Lib.hid (cmp_Part (PartR.lasts _ _ _ _ HBw2.out HR1.out) (PartR.lasts _ _ _ _ HBw2.out HR2.out))
        clear HB1 HB2 hbw1
        unfold GotEq at HEq
        clear hbw hx hy hc1 hc2 HR1 HR2 hxnu hxte hxma hxin hxbu hxba hxro hxpo hxta hxda hynu hyte hyma hyin hybu hyba hyro hypo hyta hyda
        by_cases hpq : x = y
        · have HY : Hid (m[k]? = some x) := Lib.hid (HY.out.trans (by rw [hpq]))
          rw [decide_eq_true hpq] at HEq
          clear hpq
          go_wp2_with fail
          refine HEq.out.mono ?_
          rintro e w3 ⟨rfl, hb⟩
          have HB3 := Lib.hid (HBw2.out.trans (hb.mono HBw2.out.size))
          clear hb
          go_wp2_with fail
          go_roundw
          case rel => exact ⟨k + 1, by omega, by go_num, HB3.out, take_both HX.out HY.out HT.out⟩
          case measure => simp [intOf]; omega
        · have HNE : Hid (decide (l = m) = false) := decide_eq_false (get_ne HX.out HY.out hpq)
          rw [decide_eq_false hpq] at HEq
          clear hpq
          go_wp2_with fail
          refine HEq.out.mono ?_
          rintro e w3 ⟨rfl, hb⟩
          have HB3 := Lib.hid (HBw2.out.trans (hb.mono HBw2.out.size))
          clear hb
          go_wp2_with fail
          go_ret
          exact ⟨by rw [HNE.out]; rfl, HB3.out⟩
      · obtain rfl : k = l.length := by omega
        have HE : Hid (decide (l = m) = true) := by
          have := HT.out
          rw [List.take_length, HL.out, List.take_length] at this
          exact decide_eq_true this
        go_wp2_with fail
        go_ret
        exact ⟨by rw [HE.out]; rfl, HW.out⟩
  · have HNE : Hid (decide (l = m) = false) := decide_eq_false (fun e => hl (by rw [e]))
    have hb : ((l.length : Int) != (m.length : Int)) = true := by simp; omega
    clear hl
    go_enter Tryz.func28, Tryz.ntmps28
    go_wp2_with fail
    go_ret
    exact ⟨by rw [HNE.out]; rfl, Below.refl _ _⟩
end Go.Proofs.YtcebcncpbedkmaaGreat
