/- Whether two parts are the same: the walk of the document. Conditions: none. -/
import Derived.Test.YtcebcncpbedkmaaGreatZSamN
import Derived.Test.YtcebcncpbedkmaaGreatZSamO
import Derived.Test.YtcebcncpbedkmaaGreatZSamR
import Derived.Test.YtcebcncpbedkmaaGreatZSamL
import Derived.Test.YtcebcncpbedkmaaGreatZSamK
namespace Go.Proofs.YtcebcncpbedkmaaGreat
open Go Go.RowKit
set_option maxRecDepth 100000
set_option maxHeartbeats 8000000

theorem rcmp_Part {p q : PartV} {c d : List Value} {w : World} (h1 : PartR w p c) (h2 : PartR w q d) : Calls Tryz.prog 38 #[.agg c.toArray, .agg d.toArray] w (GotEq (decide (p = q)) w) := by
  unfold GotEq
  obtain ⟨pnu, pte, pma, pin, pbu, pba, pro, ppo, pta, pda⟩ := p
  obtain ⟨qnu, qte, qma, qin, qbu, qba, qro, qpo, qta, qda⟩ := q
  obtain ⟨xnu, xte, xma, xin, xbu, xba, xro, xpo, xta, xda, rfl, hxnu, hxte, hxma, hxin, hxbu, hxba, hxro, hxpo, hxta, hxda⟩ := h1
  obtain ⟨ynu, yte, yma, yin, ybu, yba, yro, ypo, yta, yda, rfl, hynu, hyte, hyma, hyin, hybu, hyba, hyro, hypo, hyta, hyda⟩ := h2
  dsimp only at *
  obtain ⟨xnuA, xnuC, xnuB, xnuO, rfl, -⟩ := hxnu.open
  obtain ⟨xteA, xteC, xteB, xteO, rfl, mxte, axte, ixte⟩ := rows_open hxte
  obtain ⟨xmaA, xmaC, xmaB, xmaO, rfl, -⟩ := rows_open hxma
  obtain ⟨xinA, xinC, xinB, xinO, rfl, -⟩ := rows_open hxin
  obtain ⟨xbuA, xbuC, xbuB, xbuO, rfl, -⟩ := rows_open hxbu
  obtain ⟨xbaA, xbaC, xbaB, xbaO, rfl, -⟩ := rows_open hxba
  obtain ⟨xroA, xroC, xroB, xroO, rfl, mxro, axro, ixro⟩ := rows_open hxro
  obtain ⟨xpoA, xpoC, xpoB, xpoO, rfl, -⟩ := rows_open hxpo
  obtain ⟨xtaA, xtaC, xtaB, xtaO, rfl, -⟩ := rows_open hxta
  obtain ⟨xdaA, xdaC, xdaB, xdaO, rfl, -⟩ := hxda.open
  obtain ⟨ynuA, ynuC, ynuB, ynuO, rfl, -⟩ := hynu.open
  obtain ⟨yteA, yteC, yteB, yteO, rfl, myte, ayte, iyte⟩ := rows_open hyte
  obtain ⟨ymaA, ymaC, ymaB, ymaO, rfl, -⟩ := rows_open hyma
  obtain ⟨yinA, yinC, yinB, yinO, rfl, -⟩ := rows_open hyin
  obtain ⟨ybuA, ybuC, ybuB, ybuO, rfl, -⟩ := rows_open hybu
  obtain ⟨ybaA, ybaC, ybaB, ybaO, rfl, -⟩ := rows_open hyba
  obtain ⟨yroA, yroC, yroB, yroO, rfl, myro, ayro, iyro⟩ := rows_open hyro
  obtain ⟨ypoA, ypoC, ypoB, ypoO, rfl, -⟩ := rows_open hypo
  obtain ⟨ytaA, ytaC, ytaB, ytaO, rfl, -⟩ := rows_open hyta
  obtain ⟨ydaA, ydaC, ydaB, ydaO, rfl, -⟩ := hyda.open
  have hb0 := below_alloc2 (w := w) (.cells #[.slice xnuA pnu.length xnuC, .slice xteA pte.length xteC, .slice xmaA pma.length xmaC, .slice xinA pin.length xinC, .slice xbuA pbu.length xbuC, .slice xbaA pba.length xbaC, .slice xroA pro.length xroC, .slice xpoA ppo.length xpoC, .slice xtaA pta.length xtaC, .slice xdaA pda.length xdaC] 46)
  have hb1 := below_alloc2 (w := w.alloc (.cells #[.slice xnuA pnu.length xnuC, .slice xteA pte.length xteC, .slice xmaA pma.length xmaC, .slice xinA pin.length xinC, .slice xbuA pbu.length xbuC, .slice xbaA pba.length xbaC, .slice xroA pro.length xroC, .slice xpoA ppo.length xpoC, .slice xtaA pta.length xtaC, .slice xdaA pda.length xdaC] 46)) (.cells #[.slice ynuA qnu.length ynuC, .slice yteA qte.length yteC, .slice ymaA qma.length ymaC, .slice yinA qin.length yinC, .slice ybuA qbu.length ybuC, .slice ybaA qba.length ybaC, .slice yroA qro.length yroC, .slice ypoA qpo.length ypoC, .slice ytaA qta.length ytaC, .slice ydaA qda.length ydaC] 46)
  have HB0 := Lib.hid (hb0.trans (hb1.mono (by simp)))
  have HP0 := Lib.hid (row_below hb1 (heap_alloc_new w (.cells #[.slice xnuA pnu.length xnuC, .slice xteA pte.length xteC, .slice xmaA pma.length xmaC, .slice xinA pin.length xinC, .slice xbuA pbu.length xbuC, .slice xbaA pba.length xbaC, .slice xroA pro.length xroC, .slice xpoA ppo.length xpoC, .slice xtaA pta.length xtaC, .slice xdaA pda.length xdaC] 46)))
  have HQ0 := heap_alloc_new (w.alloc (.cells #[.slice xnuA pnu.length xnuC, .slice xteA pte.length xteC, .slice xmaA pma.length xmaC, .slice xinA pin.length xinC, .slice xbuA pbu.length xbuC, .slice xbaA pba.length xbaC, .slice xroA pro.length xroC, .slice xpoA ppo.length xpoC, .slice xtaA pta.length xtaC, .slice xdaA pda.length xdaC] 46)) (.cells #[.slice ynuA qnu.length ynuC, .slice yteA qte.length yteC, .slice ymaA qma.length ymaC, .slice yinA qin.length yinC, .slice ybuA qbu.length ybuC, .slice ybaA qba.length ybaC, .slice yroA qro.length yroC, .slice ypoA qpo.length ypoC, .slice ytaA qta.length ytaC, .slice ydaA qda.length ydaC] 46)
  rw [World.size_alloc] at HQ0
  have HQ0 := Lib.hid HQ0
  unfold maxLen at mxte myte mxro myro
  have HCnu := Lib.hid (fun (W : World) (hb : Below w.heap.size w W) => rnums_eq (hxnu.below hb) (hynu.below hb))
  have HCda := Lib.hid (fun (W : World) (hb : Below w.heap.size w W) => rbytes_eq (hxda.below hb) (hyda.below hb))
  have HCma := Lib.hid (fun (W : World) (hb : Below w.heap.size w W) => rsame_Oxm (hxma.below OxmR.lasts hb) (hyma.below OxmR.lasts hb))
  have HCin := Lib.hid (fun (W : World) (hb : Below w.heap.size w W) => rsame_Ins (hxin.below InsR.lasts hb) (hyin.below InsR.lasts hb))
  have HCbu := Lib.hid (fun (W : World) (hb : Below w.heap.size w W) => rsame_Bucket (hxbu.below BucketR.lasts hb) (hybu.below BucketR.lasts hb))
  have HCba := Lib.hid (fun (W : World) (hb : Below w.heap.size w W) => rsame_Band (hxba.below BandR.lasts hb) (hyba.below BandR.lasts hb))
  have HCpo := Lib.hid (fun (W : World) (hb : Below w.heap.size w W) => rsame_Port (hxpo.below PortR.lasts hb) (hypo.below PortR.lasts hb))
  have HCta := Lib.hid (fun (W : World) (hb : Below w.heap.size w W) => rsame_Table (hxta.below TableR.lasts hb) (hyta.below TableR.lasts hb))
  have Axte := Lib.hid axte
  have Ixte := Lib.hid ixte
  have Ayte := Lib.hid ayte
  have Iyte := Lib.hid iyte
  have Axro := Lib.hid axro
  have Ixro := Lib.hid ixro
  have Ayro := Lib.hid ayro
  have Iyro := Lib.hid iyro
  clear hb0 hb1 hxnu hxte hxma hxin hxbu hxba hxro hxpo hxta hxda hynu hyte hyma hyin hybu hyba hyro hypo hyta hyda axte ixte ayte iyte axro ixro ayro iyro
  by_cases hnu : pnu = qnu
  · have Knu := Lib.hid hnu
    rw [decide_eq_true hnu] at HCnu
    clear hnu
    by_cases hte : pte.length = qte.length
    · have KTe := Lib.hid hte
      have e1 : ((pte.length : Int) != (qte.length : Int)) = false := by simp [hte]
      clear hte
      by_cases hro : pro.length = qro.length
      · have KRo := Lib.hid hro
        have e2 : ((pro.length : Int) != (qro.length : Int)) = false := by simp [hro]
        clear hro
        by_cases hda : pda = qda
        · have Kda := Lib.hid hda
          rw [decide_eq_true hda] at HCda
          clear hda
          go_enter Tryz.func38, Tryz.ntmps38
          go_wp2_with fail
          refine (HCnu.out _ HB0.out).mono ?_
          rintro e w1 ⟨rfl, hb⟩
          have HB1 := Lib.hid (HB0.out.trans (hb.mono HB0.out.size))
          have HP1 := Lib.hid (row_below hb HP0.out)
          have HQ1 := Lib.hid (row_below hb HQ0.out)
          have c0 := cell_row HP1.out 0
          have d0 := cell_row HQ1.out 0
          have c1 := cell_row HP1.out 1
          have d1 := cell_row HQ1.out 1
          have c2 := cell_row HP1.out 2
          have d2 := cell_row HQ1.out 2
          have c3 := cell_row HP1.out 3
          have d3 := cell_row HQ1.out 3
          have c4 := cell_row HP1.out 4
          have d4 := cell_row HQ1.out 4
          have c5 := cell_row HP1.out 5
          have d5 := cell_row HQ1.out 5
          have c6 := cell_row HP1.out 6
          have d6 := cell_row HQ1.out 6
          have c7 := cell_row HP1.out 7
          have d7 := cell_row HQ1.out 7
          have c8 := cell_row HP1.out 8
          have d8 := cell_row HQ1.out 8
          have c9 := cell_row HP1.out 9
          have d9 := cell_row HQ1.out 9
          clear hb
          go_wp2_with fail
          refine (HCda.out _ HB1.out).mono ?_
          rintro e w2 ⟨rfl, hb⟩
          have HB2 := Lib.hid (HB1.out.trans (hb.mono HB1.out.size))
          have HP2 := Lib.hid (row_below hb HP1.out)
          have HQ2 := Lib.hid (row_below hb HQ1.out)
          clear c0 d0 c1 d1 c2 d2 c3 d3 c4 d4 c5 d5 c6 d6 c7 d7 c8 d8 c9 d9
          have c0 := cell_row HP2.out 0
          have d0 := cell_row HQ2.out 0
          have c1 := cell_row HP2.out 1
          have d1 := cell_row HQ2.out 1
          have c2 := cell_row HP2.out 2
          have d2 := cell_row HQ2.out 2
          have c3 := cell_row HP2.out 3
          have d3 := cell_row HQ2.out 3
          have c4 := cell_row HP2.out 4
          have d4 := cell_row HQ2.out 4
          have c5 := cell_row HP2.out 5
          have d5 := cell_row HQ2.out 5
          have c6 := cell_row HP2.out 6
          have d6 := cell_row HQ2.out 6
          have c7 := cell_row HP2.out 7
          have d7 := cell_row HQ2.out 7
          have c8 := cell_row HP2.out 8
          have d8 := cell_row HQ2.out 8
          have c9 := cell_row HP2.out 9
          have d9 := cell_row HQ2.out 9
          clear hb
          go_wp2_with fail
          clear c0 d0 c1 d1 c2 d2 c3 d3 c4 d4 c5 d5 c6 d6 c7 d7 c8 d8 c9 d9
          go_loopw [4, 5] (fun rr i wr => ∃ k : Nat, k ≤ pte.length ∧ i = .int .i64 k ∧ rr = .bool false ∧ Hid (Below w2.heap.size w2 wr) ∧ Hid (pte.take k = qte.take k)) (fun _ i _ => pte.length - (intOf i).toNat)
          case atStart => exact ⟨0, by omega, rfl, rfl, Below.refl _ _, rfl⟩
          case round =>
            obtain ⟨wq, rfl⟩ : ∃ wq : World, wq = wr := ⟨_, rfl⟩
            obtain ⟨k, hk, rfl, rfl, HW, HT⟩ := hrel
            have HPq := Lib.hid (row_below HW.out HP2.out)
            have HQq := Lib.hid (row_below HW.out HQ2.out)
            have HBq := Lib.hid (HB2.out.trans (HW.out.mono HB2.out.size))
            have c1 := cell_row HPq.out 1
            have d1 := cell_row HQq.out 1
            by_cases hlt : k < pte.length
            · obtain rfl := Axte.out (by omega)
              obtain rfl := Ayte.out (by have := KTe.out; omega)
              obtain ⟨x, hx⟩ : ∃ x, pte[k]? = some x := ⟨_, List.getElem?_eq_getElem hlt⟩
              obtain ⟨y, hy⟩ : ∃ y, qte[k]? = some y := ⟨_, List.getElem?_eq_getElem (by have := KTe.out; omega)⟩
              obtain ⟨u, ⟨s1, rfl, hs1⟩, hcx⟩ := Ixte.out k x hx
              obtain ⟨u2, ⟨s2, rfl, hs2⟩, hcy⟩ := Iyte.out k y hy
              have x0 : w.cell? ⟨xteB, xteO + k, none⟩ = some (.string s1) := by have := hcx 0 _ rfl; rwa [Nat.mul_one, Nat.add_zero] at this
              have y0 : w.cell? ⟨yteB, yteO + k, none⟩ = some (.string s2) := by have := hcy 0 _ rfl; rwa [Nat.mul_one, Nat.add_zero] at this
              have x0 := (HBq.out.cell (World.block_lt_of_cell? _ _ x0)).trans x0
              have y0 := (HBq.out.cell (World.block_lt_of_cell? _ _ y0)).trans y0
              have hlt' : (k : Int) < pte.length := by omega
              have hlt2 : (k : Int) < qte.length := by have := KTe.out; omega
              have HX := Lib.hid hx
              have HY := Lib.hid hy
              have HS1 := Lib.hid hs1
              have HS2 := Lib.hid hs2
              clear hx hy hs1 hs2 hcx hcy
              by_cases he : x = y
              · subst he
                have e5 : (s1.toList == s2.toList) = true := by rw [HS1.out, HS2.out]; simp
                have e6 : (s1.toList != s2.toList) = false := by rw [HS1.out, HS2.out]; simp
                go_wp2_with fail
                go_quiet (fail)
                go_wp2_with fail
                go_roundw
                case rel => exact ⟨k + 1, by omega, by go_num, rfl, below_drewN HW.out _, take_both HX.out HY.out HT.out⟩
                case measure => simp [intOf]; omega
              · have HNE : Hid (decide (((pnu, pte, pma, pin, pbu, pba, pro, ppo, pta, pda) : PartV) = (qnu, qte, qma, qin, qbu, qba, qro, qpo, qta, qda)) = false) := decide_eq_false (fun e => get_ne HX.out HY.out he (congrArg (fun z : PartV => z.2.1) e))
                have e5 : (s1.toList == s2.toList) = false := by rw [HS1.out, HS2.out]; simpa using he
                have e6 : (s1.toList != s2.toList) = true := by rw [HS1.out, HS2.out]; simpa using he
                clear he
                go_wp2_with fail
                go_quiet (fail)
                go_wp2_with fail
                go_ret
                exact ⟨by rw [HNE.out]; rfl, below_drewN HBq.out _⟩
            · obtain rfl : k = pte.length := by omega
              have Kte : Hid (pte = qte) := by
                have := HT.out
                rw [List.take_length, KTe.out, List.take_length] at this
                exact this
              go_wp2_with fail
              clear c1 d1 hlt hk
              go_loopw [4, 6] (fun rr i wr => ∃ k : Nat, k ≤ pro.length ∧ i = .int .i64 k ∧ rr = .bool false ∧ Hid (Below wq.heap.size wq wr) ∧ Hid (pro.take k = qro.take k)) (fun _ i _ => pro.length - (intOf i).toNat)
              case atStart => exact ⟨0, by omega, rfl, rfl, Below.refl _ _, rfl⟩
              case round =>
                obtain ⟨wp, rfl⟩ : ∃ wp : World, wp = wr := ⟨_, rfl⟩
                obtain ⟨k, hk, rfl, rfl, HW2, HT2⟩ := hrel
                have HPp := Lib.hid (row_below HW2.out HPq.out)
                have HQp := Lib.hid (row_below HW2.out HQq.out)
                have HBp := Lib.hid (HBq.out.trans (HW2.out.mono HBq.out.size))
                have c6 := cell_row HPp.out 6
                have d6 := cell_row HQp.out 6
                by_cases hlt : k < pro.length
                · obtain rfl := Axro.out (by omega)
                  obtain rfl := Ayro.out (by have := KRo.out; omega)
                  obtain ⟨x, hx⟩ : ∃ x, pro[k]? = some x := ⟨_, List.getElem?_eq_getElem hlt⟩
                  obtain ⟨y, hy⟩ : ∃ y, qro[k]? = some y := ⟨_, List.getElem?_eq_getElem (by have := KRo.out; omega)⟩
                  obtain ⟨u, ⟨u1, rfl, hu1⟩, hcx⟩ := Ixro.out k x hx
                  obtain ⟨u', ⟨u2, rfl, hu2⟩, hcy⟩ := Iyro.out k y hy
                  have HCq : Hid (∀ n, Calls Tryz.prog 37 #[u1, u2] (wp.drewN n) fun e w' => e = .returned (.bool (decide (x = y))) ∧ ∃ q, w' = (wp.drewN n).drewN q) := fun n => ref_nums_q _ _ _ _ _ ((hu1.below HBp.out).below (below_drewN (Below.refl _ _) n)) ((hu2.below HBp.out).below (below_drewN (Below.refl _ _) n))
                  have x0 : w.cell? ⟨xroB, xroO + k, none⟩ = some u1 := by have := hcx 0 _ rfl; rwa [Nat.mul_one, Nat.add_zero] at this
                  have y0 : w.cell? ⟨yroB, yroO + k, none⟩ = some u2 := by have := hcy 0 _ rfl; rwa [Nat.mul_one, Nat.add_zero] at this
                  have x0 := (HBp.out.cell (World.block_lt_of_cell? _ _ x0)).trans x0
                  have y0 := (HBp.out.cell (World.block_lt_of_cell? _ _ y0)).trans y0
                  obtain ⟨u1A, u1C, u1B, u1O, rfl, -⟩ := hu1.open
                  obtain ⟨u2A, u2C, u2B, u2O, rfl, -⟩ := hu2.open
                  have hlt' : (k : Int) < pro.length := by omega
                  have hlt2 : (k : Int) < qro.length := by have := KRo.out; omega
                  have HX := Lib.hid hx
                  have HY := Lib.hid hy
                  clear hx hy hcx hcy hu1 hu2
                  by_cases he : x = y
                  · have HY2 : Hid (qro[k]? = some x) := Lib.hid (HY.out.trans (by rw [he]))
                    rw [decide_eq_true he] at HCq
                    clear he
                    go_wp2_with fail
                    go_quiet ((go_at_call 37; exact quiet_some (HCq.out _)))
                    go_wp2_with fail
                    go_roundw
                    case rel => exact ⟨k + 1, by omega, by go_num, rfl, below_drewN HW2.out _, take_both HX.out HY2.out HT2.out⟩
                    case measure => simp [intOf]; omega
                  · have HNE : Hid (decide (((pnu, pte, pma, pin, pbu, pba, pro, ppo, pta, pda) : PartV) = (qnu, qte, qma, qin, qbu, qba, qro, qpo, qta, qda)) = false) := decide_eq_false (fun e => get_ne HX.out HY.out he (congrArg (fun z : PartV => z.2.2.2.2.2.2.1) e))
                    rw [decide_eq_false he] at HCq
                    clear he
                    go_wp2_with fail
                    go_quiet ((go_at_call 37; exact quiet_some (HCq.out _)))
                    go_wp2_with fail
                    go_ret
                    exact ⟨by rw [HNE.out]; rfl, below_drewN HBp.out _⟩
                · obtain rfl : k = pro.length := by omega
                  have Kro : Hid (pro = qro) := by
                    have := HT2.out
                    rw [List.take_length, KRo.out, List.take_length] at this
                    exact this
                  clear c6 d6 hlt hk
                  have c0 := cell_row HPp.out 0
                  have d0 := cell_row HQp.out 0
                  have c1 := cell_row HPp.out 1
                  have d1 := cell_row HQp.out 1
                  have c2 := cell_row HPp.out 2
                  have d2 := cell_row HQp.out 2
                  have c3 := cell_row HPp.out 3
                  have d3 := cell_row HQp.out 3
                  have c4 := cell_row HPp.out 4
                  have d4 := cell_row HQp.out 4
                  have c5 := cell_row HPp.out 5
                  have d5 := cell_row HQp.out 5
                  have c6 := cell_row HPp.out 6
                  have d6 := cell_row HQp.out 6
                  have c7 := cell_row HPp.out 7
                  have d7 := cell_row HQp.out 7
                  have c8 := cell_row HPp.out 8
                  have d8 := cell_row HQp.out 8
                  have c9 := cell_row HPp.out 9
                  have d9 := cell_row HQp.out 9
                  by_cases hma : pma = qma
                  · have Kma := Lib.hid hma
                    rw [decide_eq_true hma] at HCma
                    clear hma
                    by_cases hin : pin = qin
                    · have Kin := Lib.hid hin
                      rw [decide_eq_true hin] at HCin
                      clear hin
                      by_cases hbu : pbu = qbu
                      · have Kbu := Lib.hid hbu
                        rw [decide_eq_true hbu] at HCbu
                        clear hbu
                        by_cases hba : pba = qba
                        · have Kba := Lib.hid hba
                          rw [decide_eq_true hba] at HCba
                          clear hba
                          by_cases hpo : ppo = qpo
                          · have Kpo := Lib.hid hpo
                            rw [decide_eq_true hpo] at HCpo
                            clear hpo
                            by_cases hta : pta = qta
                            · have Kta := Lib.hid hta
                              rw [decide_eq_true hta] at HCta
                              clear hta
                              have HEQ : Hid (decide (((pnu, pte, pma, pin, pbu, pba, pro, ppo, pta, pda) : PartV) = (qnu, qte, qma, qin, qbu, qba, qro, qpo, qta, qda)) = true) := decide_eq_true (Prod.ext Knu.out (Prod.ext Kte.out (Prod.ext Kma.out (Prod.ext Kin.out (Prod.ext Kbu.out (Prod.ext Kba.out (Prod.ext Kro.out (Prod.ext Kpo.out (Prod.ext Kta.out (Kda.out))))))))))
                              go_wp2_with fail
                              refine (HCma.out _ HBp.out).mono ?_
                              rintro e w11 ⟨rfl, hb⟩
                              have HB11 := Lib.hid (HBp.out.trans (hb.mono HBp.out.size))
                              have HP11 := Lib.hid (row_below hb HPp.out)
                              have HQ11 := Lib.hid (row_below hb HQp.out)
                              clear c0 d0 c1 d1 c2 d2 c3 d3 c4 d4 c5 d5 c6 d6 c7 d7 c8 d8 c9 d9
                              have c0 := cell_row HP11.out 0
                              have d0 := cell_row HQ11.out 0
                              have c1 := cell_row HP11.out 1
                              have d1 := cell_row HQ11.out 1
                              have c2 := cell_row HP11.out 2
                              have d2 := cell_row HQ11.out 2
                              have c3 := cell_row HP11.out 3
                              have d3 := cell_row HQ11.out 3
                              have c4 := cell_row HP11.out 4
                              have d4 := cell_row HQ11.out 4
                              have c5 := cell_row HP11.out 5
                              have d5 := cell_row HQ11.out 5
                              have c6 := cell_row HP11.out 6
                              have d6 := cell_row HQ11.out 6
                              have c7 := cell_row HP11.out 7
                              have d7 := cell_row HQ11.out 7
                              have c8 := cell_row HP11.out 8
                              have d8 := cell_row HQ11.out 8
                              have c9 := cell_row HP11.out 9
                              have d9 := cell_row HQ11.out 9
                              clear hb
                              go_wp2_with fail
                              refine (HCin.out _ HB11.out).mono ?_
                              rintro e w12 ⟨rfl, hb⟩
                              have HB12 := Lib.hid (HB11.out.trans (hb.mono HB11.out.size))
                              have HP12 := Lib.hid (row_below hb HP11.out)
                              have HQ12 := Lib.hid (row_below hb HQ11.out)
                              clear c0 d0 c1 d1 c2 d2 c3 d3 c4 d4 c5 d5 c6 d6 c7 d7 c8 d8 c9 d9
                              have c0 := cell_row HP12.out 0
                              have d0 := cell_row HQ12.out 0
                              have c1 := cell_row HP12.out 1
                              have d1 := cell_row HQ12.out 1
                              have c2 := cell_row HP12.out 2
                              have d2 := cell_row HQ12.out 2
                              have c3 := cell_row HP12.out 3
                              have d3 := cell_row HQ12.out 3
                              have c4 := cell_row HP12.out 4
                              have d4 := cell_row HQ12.out 4
                              have c5 := cell_row HP12.out 5
                              have d5 := cell_row HQ12.out 5
                              have c6 := cell_row HP12.out 6
                              have d6 := cell_row HQ12.out 6
                              have c7 := cell_row HP12.out 7
                              have d7 := cell_row HQ12.out 7
                              have c8 := cell_row HP12.out 8
                              have d8 := cell_row HQ12.out 8
                              have c9 := cell_row HP12.out 9
                              have d9 := cell_row HQ12.out 9
                              clear hb
                              go_wp2_with fail
                              refine (HCbu.out _ HB12.out).mono ?_
                              rintro e w13 ⟨rfl, hb⟩
                              have HB13 := Lib.hid (HB12.out.trans (hb.mono HB12.out.size))
                              have HP13 := Lib.hid (row_below hb HP12.out)
                              have HQ13 := Lib.hid (row_below hb HQ12.out)
                              clear c0 d0 c1 d1 c2 d2 c3 d3 c4 d4 c5 d5 c6 d6 c7 d7 c8 d8 c9 d9
                              have c0 := cell_row HP13.out 0
                              have d0 := cell_row HQ13.out 0
                              have c1 := cell_row HP13.out 1
                              have d1 := cell_row HQ13.out 1
                              have c2 := cell_row HP13.out 2
                              have d2 := cell_row HQ13.out 2
                              have c3 := cell_row HP13.out 3
                              have d3 := cell_row HQ13.out 3
                              have c4 := cell_row HP13.out 4
                              have d4 := cell_row HQ13.out 4
                              have c5 := cell_row HP13.out 5
                              have d5 := cell_row HQ13.out 5
                              have c6 := cell_row HP13.out 6
                              have d6 := cell_row HQ13.out 6
                              have c7 := cell_row HP13.out 7
                              have d7 := cell_row HQ13.out 7
                              have c8 := cell_row HP13.out 8
                              have d8 := cell_row HQ13.out 8
                              have c9 := cell_row HP13.out 9
                              have d9 := cell_row HQ13.out 9
                              clear hb
                              go_wp2_with fail
                              refine (HCba.out _ HB13.out).mono ?_
                              rintro e w14 ⟨rfl, hb⟩
                              have HB14 := Lib.hid (HB13.out.trans (hb.mono HB13.out.size))
                              have HP14 := Lib.hid (row_below hb HP13.out)
                              have HQ14 := Lib.hid (row_below hb HQ13.out)
                              clear c0 d0 c1 d1 c2 d2 c3 d3 c4 d4 c5 d5 c6 d6 c7 d7 c8 d8 c9 d9
                              have c0 := cell_row HP14.out 0
                              have d0 := cell_row HQ14.out 0
                              have c1 := cell_row HP14.out 1
                              have d1 := cell_row HQ14.out 1
                              have c2 := cell_row HP14.out 2
                              have d2 := cell_row HQ14.out 2
                              have c3 := cell_row HP14.out 3
                              have d3 := cell_row HQ14.out 3
                              have c4 := cell_row HP14.out 4
                              have d4 := cell_row HQ14.out 4
                              have c5 := cell_row HP14.out 5
                              have d5 := cell_row HQ14.out 5
                              have c6 := cell_row HP14.out 6
                              have d6 := cell_row HQ14.out 6
                              have c7 := cell_row HP14.out 7
                              have d7 := cell_row HQ14.out 7
                              have c8 := cell_row HP14.out 8
                              have d8 := cell_row HQ14.out 8
                              have c9 := cell_row HP14.out 9
                              have d9 := cell_row HQ14.out 9
                              clear hb
                              go_wp2_with fail
                              refine (HCpo.out _ HB14.out).mono ?_
                              rintro e w15 ⟨rfl, hb⟩
                              have HB15 := Lib.hid (HB14.out.trans (hb.mono HB14.out.size))
                              have HP15 := Lib.hid (row_below hb HP14.out)
                              have HQ15 := Lib.hid (row_below hb HQ14.out)
                              clear c0 d0 c1 d1 c2 d2 c3 d3 c4 d4 c5 d5 c6 d6 c7 d7 c8 d8 c9 d9
                              have c0 := cell_row HP15.out 0
                              have d0 := cell_row HQ15.out 0
                              have c1 := cell_row HP15.out 1
                              have d1 := cell_row HQ15.out 1
                              have c2 := cell_row HP15.out 2
                              have d2 := cell_row HQ15.out 2
                              have c3 := cell_row HP15.out 3
                              have d3 := cell_row HQ15.out 3
                              have c4 := cell_row HP15.out 4
                              have d4 := cell_row HQ15.out 4
                              have c5 := cell_row HP15.out 5
                              have d5 := cell_row HQ15.out 5
                              have c6 := cell_row HP15.out 6
                              have d6 := cell_row HQ15.out 6
                              have c7 := cell_row HP15.out 7
                              have d7 := cell_row HQ15.out 7
                              have c8 := cell_row HP15.out 8
                              have d8 := cell_row HQ15.out 8
                              have c9 := cell_row HP15.out 9
                              have d9 := cell_row HQ15.out 9
                              clear hb
                              go_wp2_with fail
                              refine (HCta.out _ HB15.out).mono ?_
                              rintro e w16 ⟨rfl, hb⟩
                              have HB16 := Lib.hid (HB15.out.trans (hb.mono HB15.out.size))
                              have HP16 := Lib.hid (row_below hb HP15.out)
                              have HQ16 := Lib.hid (row_below hb HQ15.out)
                              clear c0 d0 c1 d1 c2 d2 c3 d3 c4 d4 c5 d5 c6 d6 c7 d7 c8 d8 c9 d9
                              have c0 := cell_row HP16.out 0
                              have d0 := cell_row HQ16.out 0
                              have c1 := cell_row HP16.out 1
                              have d1 := cell_row HQ16.out 1
                              have c2 := cell_row HP16.out 2
                              have d2 := cell_row HQ16.out 2
                              have c3 := cell_row HP16.out 3
                              have d3 := cell_row HQ16.out 3
                              have c4 := cell_row HP16.out 4
                              have d4 := cell_row HQ16.out 4
                              have c5 := cell_row HP16.out 5
                              have d5 := cell_row HQ16.out 5
                              have c6 := cell_row HP16.out 6
                              have d6 := cell_row HQ16.out 6
                              have c7 := cell_row HP16.out 7
                              have d7 := cell_row HQ16.out 7
                              have c8 := cell_row HP16.out 8
                              have d8 := cell_row HQ16.out 8
                              have c9 := cell_row HP16.out 9
                              have d9 := cell_row HQ16.out 9
                              clear hb
                              go_wp2_with fail
                              go_ret
                              exact ⟨by rw [HEQ.out]; rfl, HB16.out⟩
                            · have HNE : Hid (decide (((pnu, pte, pma, pin, pbu, pba, pro, ppo, pta, pda) : PartV) = (qnu, qte, qma, qin, qbu, qba, qro, qpo, qta, qda)) = false) := decide_eq_false (fun e => hta (congrArg (fun z : PartV => z.2.2.2.2.2.2.2.2.1) e))
                              rw [decide_eq_false hta] at HCta
                              clear hta
                              go_wp2_with fail
                              refine (HCma.out _ HBp.out).mono ?_
                              rintro e w11 ⟨rfl, hb⟩
                              have HB11 := Lib.hid (HBp.out.trans (hb.mono HBp.out.size))
                              have HP11 := Lib.hid (row_below hb HPp.out)
                              have HQ11 := Lib.hid (row_below hb HQp.out)
                              clear c0 d0 c1 d1 c2 d2 c3 d3 c4 d4 c5 d5 c6 d6 c7 d7 c8 d8 c9 d9
                              have c0 := cell_row HP11.out 0
                              have d0 := cell_row HQ11.out 0
                              have c1 := cell_row HP11.out 1
                              have d1 := cell_row HQ11.out 1
                              have c2 := cell_row HP11.out 2
                              have d2 := cell_row HQ11.out 2
                              have c3 := cell_row HP11.out 3
                              have d3 := cell_row HQ11.out 3
                              have c4 := cell_row HP11.out 4
                              have d4 := cell_row HQ11.out 4
                              have c5 := cell_row HP11.out 5
                              have d5 := cell_row HQ11.out 5
                              have c6 := cell_row HP11.out 6
                              have d6 := cell_row HQ11.out 6
                              have c7 := cell_row HP11.out 7
                              have d7 := cell_row HQ11.out 7
                              have c8 := cell_row HP11.out 8
                              have d8 := cell_row HQ11.out 8
                              have c9 := cell_row HP11.out 9
                              have d9 := cell_row HQ11.out 9
                              clear hb
                              go_wp2_with fail
                              refine (HCin.out _ HB11.out).mono ?_
                              rintro e w12 ⟨rfl, hb⟩
                              have HB12 := Lib.hid (HB11.out.trans (hb.mono HB11.out.size))
                              have HP12 := Lib.hid (row_below hb HP11.out)
                              have HQ12 := Lib.hid (row_below hb HQ11.out)
                              clear c0 d0 c1 d1 c2 d2 c3 d3 c4 d4 c5 d5 c6 d6 c7 d7 c8 d8 c9 d9
                              have c0 := cell_row HP12.out 0
                              have d0 := cell_row HQ12.out 0
                              have c1 := cell_row HP12.out 1
                              have d1 := cell_row HQ12.out 1
                              have c2 := cell_row HP12.out 2
                              have d2 := cell_row HQ12.out 2
                              have c3 := cell_row HP12.out 3
                              have d3 := cell_row HQ12.out 3
                              have c4 := cell_row HP12.out 4
                              have d4 := cell_row HQ12.out 4
                              have c5 := cell_row HP12.out 5
                              have d5 := cell_row HQ12.out 5
                              have c6 := cell_row HP12.out 6
                              have d6 := cell_row HQ12.out 6
                              have c7 := cell_row HP12.out 7
                              have d7 := cell_row HQ12.out 7
                              have c8 := cell_row HP12.out 8
                              have d8 := cell_row HQ12.out 8
                              have c9 := cell_row HP12.out 9
                              have d9 := cell_row HQ12.out 9
                              clear hb
                              go_wp2_with fail
                              refine (HCbu.out _ HB12.out).mono ?_
                              rintro e w13 ⟨rfl, hb⟩
                              have HB13 := Lib.hid (HB12.out.trans (hb.mono HB12.out.size))
                              have HP13 := Lib.hid (row_below hb HP12.out)
                              have HQ13 := Lib.hid (row_below hb HQ12.out)
                              clear c0 d0 c1 d1 c2 d2 c3 d3 c4 d4 c5 d5 c6 d6 c7 d7 c8 d8 c9 d9
                              have c0 := cell_row HP13.out 0
                              have d0 := cell_row HQ13.out 0
                              have c1 := cell_row HP13.out 1
                              have d1 := cell_row HQ13.out 1
                              have c2 := cell_row HP13.out 2
                              have d2 := cell_row HQ13.out 2
                              have c3 := cell_row HP13.out 3
                              have d3 := cell_row HQ13.out 3
                              have c4 := cell_row HP13.out 4
                              have d4 := cell_row HQ13.out 4
                              have c5 := cell_row HP13.out 5
                              have d5 := cell_row HQ13.out 5
                              have c6 := cell_row HP13.out 6
                              have d6 := cell_row HQ13.out 6
                              have c7 := cell_row HP13.out 7
                              have d7 := cell_row HQ13.out 7
                              have c8 := cell_row HP13.out 8
                              have d8 := cell_row HQ13.out 8
                              have c9 := cell_row HP13.out 9
                              have d9 := cell_row HQ13.out 9
                              clear hb
                              go_wp2_with fail
                              refine (HCba.out _ HB13.out).mono ?_
                              rintro e w14 ⟨rfl, hb⟩
                              have HB14 := Lib.hid (HB13.out.trans (hb.mono HB13.out.size))
                              have HP14 := Lib.hid (row_below hb HP13.out)
                              have HQ14 := Lib.hid (row_below hb HQ13.out)
                              clear c0 d0 c1 d1 c2 d2 c3 d3 c4 d4 c5 d5 c6 d6 c7 d7 c8 d8 c9 d9
                              have c0 := cell_row HP14.out 0
                              have d0 := cell_row HQ14.out 0
                              have c1 := cell_row HP14.out 1
                              have d1 := cell_row HQ14.out 1
                              have c2 := cell_row HP14.out 2
                              have d2 := cell_row HQ14.out 2
                              have c3 := cell_row HP14.out 3
                              have d3 := cell_row HQ14.out 3
                              have c4 := cell_row HP14.out 4
                              have d4 := cell_row HQ14.out 4
                              have c5 := cell_row HP14.out 5
                              have d5 := cell_row HQ14.out 5
                              have c6 := cell_row HP14.out 6
                              have d6 := cell_row HQ14.out 6
                              have c7 := cell_row HP14.out 7
                              have d7 := cell_row HQ14.out 7
                              have c8 := cell_row HP14.out 8
                              have d8 := cell_row HQ14.out 8
                              have c9 := cell_row HP14.out 9
                              have d9 := cell_row HQ14.out 9
                              clear hb
                              go_wp2_with fail
                              refine (HCpo.out _ HB14.out).mono ?_
                              rintro e w15 ⟨rfl, hb⟩
                              have HB15 := Lib.hid (HB14.out.trans (hb.mono HB14.out.size))
                              have HP15 := Lib.hid (row_below hb HP14.out)
                              have HQ15 := Lib.hid (row_below hb HQ14.out)
                              clear c0 d0 c1 d1 c2 d2 c3 d3 c4 d4 c5 d5 c6 d6 c7 d7 c8 d8 c9 d9
                              have c0 := cell_row HP15.out 0
                              have d0 := cell_row HQ15.out 0
                              have c1 := cell_row HP15.out 1
                              have d1 := cell_row HQ15.out 1
                              have c2 := cell_row HP15.out 2
                              have d2 := cell_row HQ15.out 2
                              have c3 := cell_row HP15.out 3
                              have d3 := cell_row HQ15.out 3
                              have c4 := cell_row HP15.out 4
                              have d4 := cell_row HQ15.out 4
                              have c5 := cell_row HP15.out 5
                              have d5 := cell_row HQ15.out 5
                              have c6 := cell_row HP15.out 6
                              have d6 := cell_row HQ15.out 6
                              have c7 := cell_row HP15.out 7
                              have d7 := cell_row HQ15.out 7
                              have c8 := cell_row HP15.out 8
                              have d8 := cell_row HQ15.out 8
                              have c9 := cell_row HP15.out 9
                              have d9 := cell_row HQ15.out 9
                              clear hb
                              go_wp2_with fail
                              refine (HCta.out _ HB15.out).mono ?_
                              rintro e w16 ⟨rfl, hb⟩
                              have HB16 := Lib.hid (HB15.out.trans (hb.mono HB15.out.size))
                              have HP16 := Lib.hid (row_below hb HP15.out)
                              have HQ16 := Lib.hid (row_below hb HQ15.out)
                              clear c0 d0 c1 d1 c2 d2 c3 d3 c4 d4 c5 d5 c6 d6 c7 d7 c8 d8 c9 d9
                              have c0 := cell_row HP16.out 0
                              have d0 := cell_row HQ16.out 0
                              have c1 := cell_row HP16.out 1
                              have d1 := cell_row HQ16.out 1
                              have c2 := cell_row HP16.out 2
                              have d2 := cell_row HQ16.out 2
                              have c3 := cell_row HP16.out 3
                              have d3 := cell_row HQ16.out 3
                              have c4 := cell_row HP16.out 4
                              have d4 := cell_row HQ16.out 4
                              have c5 := cell_row HP16.out 5
                              have d5 := cell_row HQ16.out 5
                              have c6 := cell_row HP16.out 6
                              have d6 := cell_row HQ16.out 6
                              have c7 := cell_row HP16.out 7
                              have d7 := cell_row HQ16.out 7
                              have c8 := cell_row HP16.out 8
                              have d8 := cell_row HQ16.out 8
                              have c9 := cell_row HP16.out 9
                              have d9 := cell_row HQ16.out 9
                              clear hb
                              go_wp2_with fail
                              go_ret
                              exact ⟨by rw [HNE.out]; rfl, HB16.out⟩
                          · have HNE : Hid (decide (((pnu, pte, pma, pin, pbu, pba, pro, ppo, pta, pda) : PartV) = (qnu, qte, qma, qin, qbu, qba, qro, qpo, qta, qda)) = false) := decide_eq_false (fun e => hpo (congrArg (fun z : PartV => z.2.2.2.2.2.2.2.1) e))
                            rw [decide_eq_false hpo] at HCpo
                            clear hpo
                            go_wp2_with fail
                            refine (HCma.out _ HBp.out).mono ?_
                            rintro e w11 ⟨rfl, hb⟩
                            have HB11 := Lib.hid (HBp.out.trans (hb.mono HBp.out.size))
                            have HP11 := Lib.hid (row_below hb HPp.out)
                            have HQ11 := Lib.hid (row_below hb HQp.out)
                            clear c0 d0 c1 d1 c2 d2 c3 d3 c4 d4 c5 d5 c6 d6 c7 d7 c8 d8 c9 d9
                            have c0 := cell_row HP11.out 0
                            have d0 := cell_row HQ11.out 0
                            have c1 := cell_row HP11.out 1
                            have d1 := cell_row HQ11.out 1
                            have c2 := cell_row HP11.out 2
                            have d2 := cell_row HQ11.out 2
                            have c3 := cell_row HP11.out 3
                            have d3 := cell_row HQ11.out 3
                            have c4 := cell_row HP11.out 4
                            have d4 := cell_row HQ11.out 4
                            have c5 := cell_row HP11.out 5
                            have d5 := cell_row HQ11.out 5
                            have c6 := cell_row HP11.out 6
                            have d6 := cell_row HQ11.out 6
                            have c7 := cell_row HP11.out 7
                            have d7 := cell_row HQ11.out 7
                            have c8 := cell_row HP11.out 8
                            have d8 := cell_row HQ11.out 8
                            have c9 := cell_row HP11.out 9
                            have d9 := cell_row HQ11.out 9
                            clear hb
                            go_wp2_with fail
                            refine (HCin.out _ HB11.out).mono ?_
                            rintro e w12 ⟨rfl, hb⟩
                            have HB12 := Lib.hid (HB11.out.trans (hb.mono HB11.out.size))
                            have HP12 := Lib.hid (row_below hb HP11.out)
                            have HQ12 := Lib.hid (row_below hb HQ11.out)
                            clear c0 d0 c1 d1 c2 d2 c3 d3 c4 d4 c5 d5 c6 d6 c7 d7 c8 d8 c9 d9
                            have c0 := cell_row HP12.out 0
                            have d0 := cell_row HQ12.out 0
                            have c1 := cell_row HP12.out 1
                            have d1 := cell_row HQ12.out 1
                            have c2 := cell_row HP12.out 2
                            have d2 := cell_row HQ12.out 2
                            have c3 := cell_row HP12.out 3
                            have d3 := cell_row HQ12.out 3
                            have c4 := cell_row HP12.out 4
                            have d4 := cell_row HQ12.out 4
                            have c5 := cell_row HP12.out 5
                            have d5 := cell_row HQ12.out 5
                            have c6 := cell_row HP12.out 6
                            have d6 := cell_row HQ12.out 6
                            have c7 := cell_row HP12.out 7
                            have d7 := cell_row HQ12.out 7
                            have c8 := cell_row HP12.out 8
                            have d8 := cell_row HQ12.out 8
                            have c9 := cell_row HP12.out 9
                            have d9 := cell_row HQ12.out 9
                            clear hb
                            go_wp2_with fail
                            refine (HCbu.out _ HB12.out).mono ?_
                            rintro e w13 ⟨rfl, hb⟩
                            have HB13 := Lib.hid (HB12.out.trans (hb.mono HB12.out.size))
                            have HP13 := Lib.hid (row_below hb HP12.out)
                            have HQ13 := Lib.hid (row_below hb HQ12.out)
                            clear c0 d0 c1 d1 c2 d2 c3 d3 c4 d4 c5 d5 c6 d6 c7 d7 c8 d8 c9 d9
                            have c0 := cell_row HP13.out 0
                            have d0 := cell_row HQ13.out 0
                            have c1 := cell_row HP13.out 1
                            have d1 := cell_row HQ13.out 1
                            have c2 := cell_row HP13.out 2
                            have d2 := cell_row HQ13.out 2
                            have c3 := cell_row HP13.out 3
                            have d3 := cell_row HQ13.out 3
                            have c4 := cell_row HP13.out 4
                            have d4 := cell_row HQ13.out 4
                            have c5 := cell_row HP13.out 5
                            have d5 := cell_row HQ13.out 5
                            have c6 := cell_row HP13.out 6
                            have d6 := cell_row HQ13.out 6
                            have c7 := cell_row HP13.out 7
                            have d7 := cell_row HQ13.out 7
                            have c8 := cell_row HP13.out 8
                            have d8 := cell_row HQ13.out 8
                            have c9 := cell_row HP13.out 9
                            have d9 := cell_row HQ13.out 9
                            clear hb
                            go_wp2_with fail
                            refine (HCba.out _ HB13.out).mono ?_
                            rintro e w14 ⟨rfl, hb⟩
                            have HB14 := Lib.hid (HB13.out.trans (hb.mono HB13.out.size))
                            have HP14 := Lib.hid (row_below hb HP13.out)
                            have HQ14 := Lib.hid (row_below hb HQ13.out)
                            clear c0 d0 c1 d1 c2 d2 c3 d3 c4 d4 c5 d5 c6 d6 c7 d7 c8 d8 c9 d9
                            have c0 := cell_row HP14.out 0
                            have d0 := cell_row HQ14.out 0
                            have c1 := cell_row HP14.out 1
                            have d1 := cell_row HQ14.out 1
                            have c2 := cell_row HP14.out 2
                            have d2 := cell_row HQ14.out 2
                            have c3 := cell_row HP14.out 3
                            have d3 := cell_row HQ14.out 3
                            have c4 := cell_row HP14.out 4
                            have d4 := cell_row HQ14.out 4
                            have c5 := cell_row HP14.out 5
                            have d5 := cell_row HQ14.out 5
                            have c6 := cell_row HP14.out 6
                            have d6 := cell_row HQ14.out 6
                            have c7 := cell_row HP14.out 7
                            have d7 := cell_row HQ14.out 7
                            have c8 := cell_row HP14.out 8
                            have d8 := cell_row HQ14.out 8
                            have c9 := cell_row HP14.out 9
                            have d9 := cell_row HQ14.out 9
                            clear hb
                            go_wp2_with fail
                            refine (HCpo.out _ HB14.out).mono ?_
                            rintro e w15 ⟨rfl, hb⟩
                            have HB15 := Lib.hid (HB14.out.trans (hb.mono HB14.out.size))
                            have HP15 := Lib.hid (row_below hb HP14.out)
                            have HQ15 := Lib.hid (row_below hb HQ14.out)
                            clear c0 d0 c1 d1 c2 d2 c3 d3 c4 d4 c5 d5 c6 d6 c7 d7 c8 d8 c9 d9
                            have c0 := cell_row HP15.out 0
                            have d0 := cell_row HQ15.out 0
                            have c1 := cell_row HP15.out 1
                            have d1 := cell_row HQ15.out 1
                            have c2 := cell_row HP15.out 2
                            have d2 := cell_row HQ15.out 2
                            have c3 := cell_row HP15.out 3
                            have d3 := cell_row HQ15.out 3
                            have c4 := cell_row HP15.out 4
                            have d4 := cell_row HQ15.out 4
                            have c5 := cell_row HP15.out 5
                            have d5 := cell_row HQ15.out 5
                            have c6 := cell_row HP15.out 6
                            have d6 := cell_row HQ15.out 6
                            have c7 := cell_row HP15.out 7
                            have d7 := cell_row HQ15.out 7
                            have c8 := cell_row HP15.out 8
                            have d8 := cell_row HQ15.out 8
                            have c9 := cell_row HP15.out 9
                            have d9 := cell_row HQ15.out 9
                            clear hb
                            go_wp2_with fail
                            go_ret
                            exact ⟨by rw [HNE.out]; rfl, HB15.out⟩
                        · have HNE : Hid (decide (((pnu, pte, pma, pin, pbu, pba, pro, ppo, pta, pda) : PartV) = (qnu, qte, qma, qin, qbu, qba, qro, qpo, qta, qda)) = false) := decide_eq_false (fun e => hba (congrArg (fun z : PartV => z.2.2.2.2.2.1) e))
                          rw [decide_eq_false hba] at HCba
                          clear hba
                          go_wp2_with fail
                          refine (HCma.out _ HBp.out).mono ?_
                          rintro e w11 ⟨rfl, hb⟩
                          have HB11 := Lib.hid (HBp.out.trans (hb.mono HBp.out.size))
                          have HP11 := Lib.hid (row_below hb HPp.out)
                          have HQ11 := Lib.hid (row_below hb HQp.out)
                          clear c0 d0 c1 d1 c2 d2 c3 d3 c4 d4 c5 d5 c6 d6 c7 d7 c8 d8 c9 d9
                          have c0 := cell_row HP11.out 0
                          have d0 := cell_row HQ11.out 0
                          have c1 := cell_row HP11.out 1
                          have d1 := cell_row HQ11.out 1
                          have c2 := cell_row HP11.out 2
                          have d2 := cell_row HQ11.out 2
                          have c3 := cell_row HP11.out 3
                          have d3 := cell_row HQ11.out 3
                          have c4 := cell_row HP11.out 4
                          have d4 := cell_row HQ11.out 4
                          have c5 := cell_row HP11.out 5
                          have d5 := cell_row HQ11.out 5
                          have c6 := cell_row HP11.out 6
                          have d6 := cell_row HQ11.out 6
                          have c7 := cell_row HP11.out 7
                          have d7 := cell_row HQ11.out 7
                          have c8 := cell_row HP11.out 8
                          have d8 := cell_row HQ11.out 8
                          have c9 := cell_row HP11.out 9
                          have d9 := cell_row HQ11.out 9
                          clear hb
                          go_wp2_with fail
                          refine (HCin.out _ HB11.out).mono ?_
                          rintro e w12 ⟨rfl, hb⟩
                          have HB12 := Lib.hid (HB11.out.trans (hb.mono HB11.out.size))
                          have HP12 := Lib.hid (row_below hb HP11.out)
                          have HQ12 := Lib.hid (row_below hb HQ11.out)
                          clear c0 d0 c1 d1 c2 d2 c3 d3 c4 d4 c5 d5 c6 d6 c7 d7 c8 d8 c9 d9
                          have c0 := cell_row HP12.out 0
                          have d0 := cell_row HQ12.out 0
                          have c1 := cell_row HP12.out 1
                          have d1 := cell_row HQ12.out 1
                          have c2 := cell_row HP12.out 2
                          have d2 := cell_row HQ12.out 2
                          have c3 := cell_row HP12.out 3
                          have d3 := cell_row HQ12.out 3
                          have c4 := cell_row HP12.out 4
                          have d4 := cell_row HQ12.out 4
                          have c5 := cell_row HP12.out 5
                          have d5 := cell_row HQ12.out 5
                          have c6 := cell_row HP12.out 6
                          have d6 := cell_row HQ12.out 6
                          have c7 := cell_row HP12.out 7
                          have d7 := cell_row HQ12.out 7
                          have c8 := cell_row HP12.out 8
                          have d8 := cell_row HQ12.out 8
                          have c9 := cell_row HP12.out 9
                          have d9 := cell_row HQ12.out 9
                          clear hb
                          go_wp2_with fail
                          refine (HCbu.out _ HB12.out).mono ?_
                          rintro e w13 ⟨rfl, hb⟩
                          have HB13 := Lib.hid (HB12.out.trans (hb.mono HB12.out.size))
                          have HP13 := Lib.hid (row_below hb HP12.out)
                          have HQ13 := Lib.hid (row_below hb HQ12.out)
                          clear c0 d0 c1 d1 c2 d2 c3 d3 c4 d4 c5 d5 c6 d6 c7 d7 c8 d8 c9 d9
                          have c0 := cell_row HP13.out 0
                          have d0 := cell_row HQ13.out 0
                          have c1 := cell_row HP13.out 1
                          have d1 := cell_row HQ13.out 1
                          have c2 := cell_row HP13.out 2
                          have d2 := cell_row HQ13.out 2
                          have c3 := cell_row HP13.out 3
                          have d3 := cell_row HQ13.out 3
                          have c4 := cell_row HP13.out 4
                          have d4 := cell_row HQ13.out 4
                          have c5 := cell_row HP13.out 5
                          have d5 := cell_row HQ13.out 5
                          have c6 := cell_row HP13.out 6
                          have d6 := cell_row HQ13.out 6
                          have c7 := cell_row HP13.out 7
                          have d7 := cell_row HQ13.out 7
                          have c8 := cell_row HP13.out 8
                          have d8 := cell_row HQ13.out 8
                          have c9 := cell_row HP13.out 9
                          have d9 := cell_row HQ13.out 9
                          clear hb
                          go_wp2_with fail
                          refine (HCba.out _ HB13.out).mono ?_
                          rintro e w14 ⟨rfl, hb⟩
                          have HB14 := Lib.hid (HB13.out.trans (hb.mono HB13.out.size))
                          have HP14 := Lib.hid (row_below hb HP13.out)
                          have HQ14 := Lib.hid (row_below hb HQ13.out)
                          clear c0 d0 c1 d1 c2 d2 c3 d3 c4 d4 c5 d5 c6 d6 c7 d7 c8 d8 c9 d9
                          have c0 := cell_row HP14.out 0
                          have d0 := cell_row HQ14.out 0
                          have c1 := cell_row HP14.out 1
                          have d1 := cell_row HQ14.out 1
                          have c2 := cell_row HP14.out 2
                          have d2 := cell_row HQ14.out 2
                          have c3 := cell_row HP14.out 3
                          have d3 := cell_row HQ14.out 3
                          have c4 := cell_row HP14.out 4
                          have d4 := cell_row HQ14.out 4
                          have c5 := cell_row HP14.out 5
                          have d5 := cell_row HQ14.out 5
                          have c6 := cell_row HP14.out 6
                          have d6 := cell_row HQ14.out 6
                          have c7 := cell_row HP14.out 7
                          have d7 := cell_row HQ14.out 7
                          have c8 := cell_row HP14.out 8
                          have d8 := cell_row HQ14.out 8
                          have c9 := cell_row HP14.out 9
                          have d9 := cell_row HQ14.out 9
                          clear hb
                          go_wp2_with fail
                          go_ret
                          exact ⟨by rw [HNE.out]; rfl, HB14.out⟩
                      · have HNE : Hid (decide (((pnu, pte, pma, pin, pbu, pba, pro, ppo, pta, pda) : PartV) = (qnu, qte, qma, qin, qbu, qba, qro, qpo, qta, qda)) = false) := decide_eq_false (fun e => hbu (congrArg (fun z : PartV => z.2.2.2.2.1) e))
                        rw [decide_eq_false hbu] at HCbu
                        clear hbu
                        go_wp2_with fail
                        refine (HCma.out _ HBp.out).mono ?_
                        rintro e w11 ⟨rfl, hb⟩
                        have HB11 := Lib.hid (HBp.out.trans (hb.mono HBp.out.size))
                        have HP11 := Lib.hid (row_below hb HPp.out)
                        have HQ11 := Lib.hid (row_below hb HQp.out)
                        clear c0 d0 c1 d1 c2 d2 c3 d3 c4 d4 c5 d5 c6 d6 c7 d7 c8 d8 c9 d9
                        have c0 := cell_row HP11.out 0
                        have d0 := cell_row HQ11.out 0
                        have c1 := cell_row HP11.out 1
                        have d1 := cell_row HQ11.out 1
                        have c2 := cell_row HP11.out 2
                        have d2 := cell_row HQ11.out 2
                        have c3 := cell_row HP11.out 3
                        have d3 := cell_row HQ11.out 3
                        have c4 := cell_row HP11.out 4
                        have d4 := cell_row HQ11.out 4
                        have c5 := cell_row HP11.out 5
                        have d5 := cell_row HQ11.out 5
                        have c6 := cell_row HP11.out 6
                        have d6 := cell_row HQ11.out 6
                        have c7 := cell_row HP11.out 7
                        have d7 := cell_row HQ11.out 7
                        have c8 := cell_row HP11.out 8
                        have d8 := cell_row HQ11.out 8
                        have c9 := cell_row HP11.out 9
                        have d9 := cell_row HQ11.out 9
                        clear hb
                        go_wp2_with fail
                        refine (HCin.out _ HB11.out).mono ?_
                        rintro e w12 ⟨rfl, hb⟩
                        have HB12 := Lib.hid (HB11.out.trans (hb.mono HB11.out.size))
                        have HP12 := Lib.hid (row_below hb HP11.out)
                        have HQ12 := Lib.hid (row_below hb HQ11.out)
                        clear c0 d0 c1 d1 c2 d2 c3 d3 c4 d4 c5 d5 c6 d6 c7 d7 c8 d8 c9 d9
                        have c0 := cell_row HP12.out 0
                        have d0 := cell_row HQ12.out 0
                        have c1 := cell_row HP12.out 1
                        have d1 := cell_row HQ12.out 1
                        have c2 := cell_row HP12.out 2
                        have d2 := cell_row HQ12.out 2
                        have c3 := cell_row HP12.out 3
                        have d3 := cell_row HQ12.out 3
                        have c4 := cell_row HP12.out 4
                        have d4 := cell_row HQ12.out 4
                        have c5 := cell_row HP12.out 5
                        have d5 := cell_row HQ12.out 5
                        have c6 := cell_row HP12.out 6
                        have d6 := cell_row HQ12.out 6
                        have c7 := cell_row HP12.out 7
                        have d7 := cell_row HQ12.out 7
                        have c8 := cell_row HP12.out 8
                        have d8 := cell_row HQ12.out 8
                        have c9 := cell_row HP12.out 9
                        have d9 := cell_row HQ12.out 9
                        clear hb
                        go_wp2_with fail
                        refine (HCbu.out _ HB12.out).mono ?_
                        rintro e w13 ⟨rfl, hb⟩
                        have HB13 := Lib.hid (HB12.out.trans (hb.mono HB12.out.size))
                        have HP13 := Lib.hid (row_below hb HP12.out)
                        have HQ13 := Lib.hid (row_below hb HQ12.out)
                        clear c0 d0 c1 d1 c2 d2 c3 d3 c4 d4 c5 d5 c6 d6 c7 d7 c8 d8 c9 d9
                        have c0 := cell_row HP13.out 0
                        have d0 := cell_row HQ13.out 0
                        have c1 := cell_row HP13.out 1
                        have d1 := cell_row HQ13.out 1
                        have c2 := cell_row HP13.out 2
                        have d2 := cell_row HQ13.out 2
                        have c3 := cell_row HP13.out 3
                        have d3 := cell_row HQ13.out 3
                        have c4 := cell_row HP13.out 4
                        have d4 := cell_row HQ13.out 4
                        have c5 := cell_row HP13.out 5
                        have d5 := cell_row HQ13.out 5
                        have c6 := cell_row HP13.out 6
                        have d6 := cell_row HQ13.out 6
                        have c7 := cell_row HP13.out 7
                        have d7 := cell_row HQ13.out 7
                        have c8 := cell_row HP13.out 8
                        have d8 := cell_row HQ13.out 8
                        have c9 := cell_row HP13.out 9
                        have d9 := cell_row HQ13.out 9
                        clear hb
                        go_wp2_with fail
                        go_ret
                        exact ⟨by rw [HNE.out]; rfl, HB13.out⟩
                    · have HNE : Hid (decide (((pnu, pte, pma, pin, pbu, pba, pro, ppo, pta, pda) : PartV) = (qnu, qte, qma, qin, qbu, qba, qro, qpo, qta, qda)) = false) := decide_eq_false (fun e => hin (congrArg (fun z : PartV => z.2.2.2.1) e))
                      rw [decide_eq_false hin] at HCin
                      clear hin
                      go_wp2_with fail
                      refine (HCma.out _ HBp.out).mono ?_
                      rintro e w11 ⟨rfl, hb⟩
                      have HB11 := Lib.hid (HBp.out.trans (hb.mono HBp.out.size))
                      have HP11 := Lib.hid (row_below hb HPp.out)
                      have HQ11 := Lib.hid (row_below hb HQp.out)
                      clear c0 d0 c1 d1 c2 d2 c3 d3 c4 d4 c5 d5 c6 d6 c7 d7 c8 d8 c9 d9
                      have c0 := cell_row HP11.out 0
                      have d0 := cell_row HQ11.out 0
                      have c1 := cell_row HP11.out 1
                      have d1 := cell_row HQ11.out 1
                      have c2 := cell_row HP11.out 2
                      have d2 := cell_row HQ11.out 2
                      have c3 := cell_row HP11.out 3
                      have d3 := cell_row HQ11.out 3
                      have c4 := cell_row HP11.out 4
                      have d4 := cell_row HQ11.out 4
                      have c5 := cell_row HP11.out 5
                      have d5 := cell_row HQ11.out 5
                      have c6 := cell_row HP11.out 6
                      have d6 := cell_row HQ11.out 6
                      have c7 := cell_row HP11.out 7
                      have d7 := cell_row HQ11.out 7
                      have c8 := cell_row HP11.out 8
                      have d8 := cell_row HQ11.out 8
                      have c9 := cell_row HP11.out 9
                      have d9 := cell_row HQ11.out 9
                      clear hb
                      go_wp2_with fail
                      refine (HCin.out _ HB11.out).mono ?_
                      rintro e w12 ⟨rfl, hb⟩
                      have HB12 := Lib.hid (HB11.out.trans (hb.mono HB11.out.size))
                      have HP12 := Lib.hid (row_below hb HP11.out)
                      have HQ12 := Lib.hid (row_below hb HQ11.out)
                      clear c0 d0 c1 d1 c2 d2 c3 d3 c4 d4 c5 d5 c6 d6 c7 d7 c8 d8 c9 d9
                      have c0 := cell_row HP12.out 0
                      have d0 := cell_row HQ12.out 0
                      have c1 := cell_row HP12.out 1
                      have d1 := cell_row HQ12.out 1
                      have c2 := cell_row HP12.out 2
                      have d2 := cell_row HQ12.out 2
                      have c3 := cell_row HP12.out 3
                      have d3 := cell_row HQ12.out 3
                      have c4 := cell_row HP12.out 4
                      have d4 := cell_row HQ12.out 4
                      have c5 := cell_row HP12.out 5
                      have d5 := cell_row HQ12.out 5
                      have c6 := cell_row HP12.out 6
                      have d6 := cell_row HQ12.out 6
                      have c7 := cell_row HP12.out 7
                      have d7 := cell_row HQ12.out 7
                      have c8 := cell_row HP12.out 8
                      have d8 := cell_row HQ12.out 8
                      have c9 := cell_row HP12.out 9
                      have d9 := cell_row HQ12.out 9
                      clear hb
                      go_wp2_with fail
                      go_ret
                      exact ⟨by rw [HNE.out]; rfl, HB12.out⟩
                  · have HNE : Hid (decide (((pnu, pte, pma, pin, pbu, pba, pro, ppo, pta, pda) : PartV) = (qnu, qte, qma, qin, qbu, qba, qro, qpo, qta, qda)) = false) := decide_eq_false (fun e => hma (congrArg (fun z : PartV => z.2.2.1) e))
                    rw [decide_eq_false hma] at HCma
                    clear hma
                    go_wp2_with fail
                    refine (HCma.out _ HBp.out).mono ?_
                    rintro e w11 ⟨rfl, hb⟩
                    have HB11 := Lib.hid (HBp.out.trans (hb.mono HBp.out.size))
                    have HP11 := Lib.hid (row_below hb HPp.out)
                    have HQ11 := Lib.hid (row_below hb HQp.out)
                    clear c0 d0 c1 d1 c2 d2 c3 d3 c4 d4 c5 d5 c6 d6 c7 d7 c8 d8 c9 d9
                    have c0 := cell_row HP11.out 0
                    have d0 := cell_row HQ11.out 0
                    have c1 := cell_row HP11.out 1
                    have d1 := cell_row HQ11.out 1
                    have c2 := cell_row HP11.out 2
                    have d2 := cell_row HQ11.out 2
                    have c3 := cell_row HP11.out 3
                    have d3 := cell_row HQ11.out 3
                    have c4 := cell_row HP11.out 4
                    have d4 := cell_row HQ11.out 4
                    have c5 := cell_row HP11.out 5
                    have d5 := cell_row HQ11.out 5
                    have c6 := cell_row HP11.out 6
                    have d6 := cell_row HQ11.out 6
                    have c7 := cell_row HP11.out 7
                    have d7 := cell_row HQ11.out 7
                    have c8 := cell_row HP11.out 8
                    have d8 := cell_row HQ11.out 8
                    have c9 := cell_row HP11.out 9
                    have d9 := cell_row HQ11.out 9
                    clear hb
                    go_wp2_with fail
                    go_ret
                    exact ⟨by rw [HNE.out]; rfl, HB11.out⟩
        · have HNE : Hid (decide (((pnu, pte, pma, pin, pbu, pba, pro, ppo, pta, pda) : PartV) = (qnu, qte, qma, qin, qbu, qba, qro, qpo, qta, qda)) = false) := decide_eq_false (fun e => hda (congrArg (fun z : PartV => z.2.2.2.2.2.2.2.2.2) e))
          rw [decide_eq_false hda] at HCda
          clear hda
          go_enter Tryz.func38, Tryz.ntmps38
          go_wp2_with fail
          refine (HCnu.out _ HB0.out).mono ?_
          rintro e w1 ⟨rfl, hb⟩
          have HB1 := Lib.hid (HB0.out.trans (hb.mono HB0.out.size))
          have HP1 := Lib.hid (row_below hb HP0.out)
          have HQ1 := Lib.hid (row_below hb HQ0.out)
          have c0 := cell_row HP1.out 0
          have d0 := cell_row HQ1.out 0
          have c1 := cell_row HP1.out 1
          have d1 := cell_row HQ1.out 1
          have c2 := cell_row HP1.out 2
          have d2 := cell_row HQ1.out 2
          have c3 := cell_row HP1.out 3
          have d3 := cell_row HQ1.out 3
          have c4 := cell_row HP1.out 4
          have d4 := cell_row HQ1.out 4
          have c5 := cell_row HP1.out 5
          have d5 := cell_row HQ1.out 5
          have c6 := cell_row HP1.out 6
          have d6 := cell_row HQ1.out 6
          have c7 := cell_row HP1.out 7
          have d7 := cell_row HQ1.out 7
          have c8 := cell_row HP1.out 8
          have d8 := cell_row HQ1.out 8
          have c9 := cell_row HP1.out 9
          have d9 := cell_row HQ1.out 9
          clear hb
          go_wp2_with fail
          refine (HCda.out _ HB1.out).mono ?_
          rintro e w2 ⟨rfl, hb⟩
          have HB2 := Lib.hid (HB1.out.trans (hb.mono HB1.out.size))
          have HP2 := Lib.hid (row_below hb HP1.out)
          have HQ2 := Lib.hid (row_below hb HQ1.out)
          clear c0 d0 c1 d1 c2 d2 c3 d3 c4 d4 c5 d5 c6 d6 c7 d7 c8 d8 c9 d9
          have c0 := cell_row HP2.out 0
          have d0 := cell_row HQ2.out 0
          have c1 := cell_row HP2.out 1
          have d1 := cell_row HQ2.out 1
          have c2 := cell_row HP2.out 2
          have d2 := cell_row HQ2.out 2
          have c3 := cell_row HP2.out 3
          have d3 := cell_row HQ2.out 3
          have c4 := cell_row HP2.out 4
          have d4 := cell_row HQ2.out 4
          have c5 := cell_row HP2.out 5
          have d5 := cell_row HQ2.out 5
          have c6 := cell_row HP2.out 6
          have d6 := cell_row HQ2.out 6
          have c7 := cell_row HP2.out 7
          have d7 := cell_row HQ2.out 7
          have c8 := cell_row HP2.out 8
          have d8 := cell_row HQ2.out 8
          have c9 := cell_row HP2.out 9
          have d9 := cell_row HQ2.out 9
          clear hb
          go_wp2_with fail
          go_ret
          exact ⟨by rw [HNE.out]; rfl, HB2.out⟩
      · have HNE : Hid (decide (((pnu, pte, pma, pin, pbu, pba, pro, ppo, pta, pda) : PartV) = (qnu, qte, qma, qin, qbu, qba, qro, qpo, qta, qda)) = false) := decide_eq_false (fun e => hro (congrArg (fun z : PartV => z.2.2.2.2.2.2.1.length) e))
        have e2 : ((pro.length : Int) != (qro.length : Int)) = true := by simp; omega
        clear hro
        go_enter Tryz.func38, Tryz.ntmps38
        go_wp2_with fail
        refine (HCnu.out _ HB0.out).mono ?_
        rintro e w1 ⟨rfl, hb⟩
        have HB1 := Lib.hid (HB0.out.trans (hb.mono HB0.out.size))
        have HP1 := Lib.hid (row_below hb HP0.out)
        have HQ1 := Lib.hid (row_below hb HQ0.out)
        have c0 := cell_row HP1.out 0
        have d0 := cell_row HQ1.out 0
        have c1 := cell_row HP1.out 1
        have d1 := cell_row HQ1.out 1
        have c2 := cell_row HP1.out 2
        have d2 := cell_row HQ1.out 2
        have c3 := cell_row HP1.out 3
        have d3 := cell_row HQ1.out 3
        have c4 := cell_row HP1.out 4
        have d4 := cell_row HQ1.out 4
        have c5 := cell_row HP1.out 5
        have d5 := cell_row HQ1.out 5
        have c6 := cell_row HP1.out 6
        have d6 := cell_row HQ1.out 6
        have c7 := cell_row HP1.out 7
        have d7 := cell_row HQ1.out 7
        have c8 := cell_row HP1.out 8
        have d8 := cell_row HQ1.out 8
        have c9 := cell_row HP1.out 9
        have d9 := cell_row HQ1.out 9
        clear hb
        go_wp2_with fail
        go_ret
        exact ⟨by rw [HNE.out]; rfl, HB1.out⟩
    · have HNE : Hid (decide (((pnu, pte, pma, pin, pbu, pba, pro, ppo, pta, pda) : PartV) = (qnu, qte, qma, qin, qbu, qba, qro, qpo, qta, qda)) = false) := decide_eq_false (fun e => hte (congrArg (fun z : PartV => z.2.1.length) e))
      have e1 : ((pte.length : Int) != (qte.length : Int)) = true := by simp; omega
      clear hte
      go_enter Tryz.func38, Tryz.ntmps38
      go_wp2_with fail
      refine (HCnu.out _ HB0.out).mono ?_
      rintro e w1 ⟨rfl, hb⟩
      have HB1 := Lib.hid (HB0.out.trans (hb.mono HB0.out.size))
      have HP1 := Lib.hid (row_below hb HP0.out)
      have HQ1 := Lib.hid (row_below hb HQ0.out)
      have c0 := cell_row HP1.out 0
      have d0 := cell_row HQ1.out 0
      have c1 := cell_row HP1.out 1
      have d1 := cell_row HQ1.out 1
      have c2 := cell_row HP1.out 2
      have d2 := cell_row HQ1.out 2
      have c3 := cell_row HP1.out 3
      have d3 := cell_row HQ1.out 3
      have c4 := cell_row HP1.out 4
      have d4 := cell_row HQ1.out 4
      have c5 := cell_row HP1.out 5
      have d5 := cell_row HQ1.out 5
      have c6 := cell_row HP1.out 6
      have d6 := cell_row HQ1.out 6
      have c7 := cell_row HP1.out 7
      have d7 := cell_row HQ1.out 7
      have c8 := cell_row HP1.out 8
      have d8 := cell_row HQ1.out 8
      have c9 := cell_row HP1.out 9
      have d9 := cell_row HQ1.out 9
      clear hb
      go_wp2_with fail
      go_ret
      exact ⟨by rw [HNE.out]; rfl, HB1.out⟩
  · have HNE : Hid (decide (((pnu, pte, pma, pin, pbu, pba, pro, ppo, pta, pda) : PartV) = (qnu, qte, qma, qin, qbu, qba, qro, qpo, qta, qda)) = false) := decide_eq_false (fun e => hnu (congrArg (fun z : PartV => z.1) e))
    rw [decide_eq_false hnu] at HCnu
    clear hnu
    go_enter Tryz.func38, Tryz.ntmps38
    go_wp2_with fail
    refine (HCnu.out _ HB0.out).mono ?_
    rintro e w1 ⟨rfl, hb⟩
    have HB1 := Lib.hid (HB0.out.trans (hb.mono HB0.out.size))
    have HP1 := Lib.hid (row_below hb HP0.out)
    have HQ1 := Lib.hid (row_below hb HQ0.out)
    have c0 := cell_row HP1.out 0
    have d0 := cell_row HQ1.out 0
    have c1 := cell_row HP1.out 1
    have d1 := cell_row HQ1.out 1
    have c2 := cell_row HP1.out 2
    have d2 := cell_row HQ1.out 2
    have c3 := cell_row HP1.out 3
    have d3 := cell_row HQ1.out 3
    have c4 := cell_row HP1.out 4
    have d4 := cell_row HQ1.out 4
    have c5 := cell_row HP1.out 5
    have d5 := cell_row HQ1.out 5
    have c6 := cell_row HP1.out 6
    have d6 := cell_row HQ1.out 6
    have c7 := cell_row HP1.out 7
    have d7 := cell_row HQ1.out 7
    have c8 := cell_row HP1.out 8
    have d8 := cell_row HQ1.out 8
    have c9 := cell_row HP1.out 9
    have d9 := cell_row HQ1.out 9
    clear hb
    go_wp2_with fail
    go_ret
    exact ⟨by rw [HNE.out]; rfl, HB1.out⟩
end Go.Proofs.YtcebcncpbedkmaaGreat
