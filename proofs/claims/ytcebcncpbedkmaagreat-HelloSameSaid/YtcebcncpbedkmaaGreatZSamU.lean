/- Whether two messages are the same: the walk of the document's Same. Conditions: none. -/
import Derived.Test.YtcebcncpbedkmaaGreatZSamH
import Derived.Test.YtcebcncpbedkmaaGreatZSamS
import Derived.Test.YtcebcncpbedkmaaGreatZSamV
namespace Go.Proofs.YtcebcncpbedkmaaGreat
open Go Go.RowKit
set_option maxRecDepth 100000
set_option maxHeartbeats 8000000

theorem ref_same21 {v v2 : Value} {m n : MsgV} {r s : RestV} {w : World} (h1 : MsgOk w v m) (g1 : RestR w m.L r) (h2 : MsgOk w v2 n) (g2 : RestR w n.L s) : Calls Tryz.prog 7 #[v, v2] w (GotEq (sameM m n r s) w) := by
  unfold GotEq
  obtain ⟨res, hres⟩ : ∃ b, b = sameM m n r s := ⟨_, rfl⟩
  rw [← hres]
  obtain ⟨ty, xid, vn, vd, nums, ds, els, ⟨xa4, xn4, xc4, xa5, xn5, xc5, xa6, xn6, xc6, xa7, xn7, xc7, xa8, xn8, xc8, xa9, xn9, xc9, xa10, xn10, xc10, xa11, xn11, xc11, xa14, xn14, xc14, kind, flags⟩⟩ := m
  obtain ⟨zty, zxid, zvn, zvd, znums, zds, zels, ⟨za4, zn4, zc4, za5, zn5, zc5, za6, zn6, zc6, za7, zn7, zc7, za8, zn8, zc8, za9, zn9, zc9, za10, zn10, zc10, za11, zn11, zc11, za14, zn14, zc14, zkind, zflags⟩⟩ := n
  obtain ⟨an, cn, ad, cd, rfl, hn1, hd1⟩ := h1.cut
  obtain ⟨an2, cn2, ad2, cd2, rfl, hn2, hd2⟩ := h2.cut
  have hels1 := h1.elems
  have hels2 := h2.elems
  have k5 := g1.h5
  have k6 := g1.h6
  have k7 := g1.h7
  have k8 := g1.h8
  have k9 := g1.h9
  have k10 := g1.h10
  have k11 := g1.h11
  have k14 := g1.h14
  have l5 := g2.h5
  have l6 := g2.h6
  have l7 := g2.h7
  have l8 := g2.h8
  have l9 := g2.h9
  have l10 := g2.h10
  have l11 := g2.h11
  have l14 := g2.h14
  have HRes := Lib.hid hres
  clear h1 h2 g1 g2 hres
  dsimp only at *
  obtain ⟨pA, pC, pB, pO, e14, hpm, hpa, hpi⟩ := rows_open k14
  injection e14 with e141 e142 e143
  subst e141 e142 e143
  obtain ⟨qA, qC, qB, qO, e14, hqm, hqa, hqi⟩ := rows_open l14
  injection e14 with e141 e142 e143
  subst e141 e142 e143
  unfold maxLen at hpm hqm
  have hb0 := below_alloc2 (w := w) (.cells #[.int .i64 ty, .int .u32 xid, .slice an nums.length cn, .slice ad ds.length cd, .slice xa4 xn4 xc4, .slice xa5 xn5 xc5, .slice xa6 xn6 xc6, .slice xa7 xn7 xc7, .slice xa8 xn8 xc8, .slice xa9 xn9 xc9, .slice xa10 xn10 xc10, .slice xa11 xn11 xc11, .int .i64 kind, .int .i64 flags, .slice xa14 r.parts.length xc14] 35)
  have hb1 := below_alloc2 (w := w.alloc (.cells #[.int .i64 ty, .int .u32 xid, .slice an nums.length cn, .slice ad ds.length cd, .slice xa4 xn4 xc4, .slice xa5 xn5 xc5, .slice xa6 xn6 xc6, .slice xa7 xn7 xc7, .slice xa8 xn8 xc8, .slice xa9 xn9 xc9, .slice xa10 xn10 xc10, .slice xa11 xn11 xc11, .int .i64 kind, .int .i64 flags, .slice xa14 r.parts.length xc14] 35)) (.cells #[.int .i64 zty, .int .u32 zxid, .slice an2 znums.length cn2, .slice ad2 zds.length cd2, .slice za4 zn4 zc4, .slice za5 zn5 zc5, .slice za6 zn6 zc6, .slice za7 zn7 zc7, .slice za8 zn8 zc8, .slice za9 zn9 zc9, .slice za10 zn10 zc10, .slice za11 zn11 zc11, .int .i64 zkind, .int .i64 zflags, .slice za14 s.parts.length zc14] 35)
  have HB0 := Lib.hid (hb0.trans (hb1.mono (by simp)))
  have HP0 := Lib.hid (row_below hb1 (heap_alloc_new w (.cells #[.int .i64 ty, .int .u32 xid, .slice an nums.length cn, .slice ad ds.length cd, .slice xa4 xn4 xc4, .slice xa5 xn5 xc5, .slice xa6 xn6 xc6, .slice xa7 xn7 xc7, .slice xa8 xn8 xc8, .slice xa9 xn9 xc9, .slice xa10 xn10 xc10, .slice xa11 xn11 xc11, .int .i64 kind, .int .i64 flags, .slice xa14 r.parts.length xc14] 35)))
  have HQ0 := heap_alloc_new (w.alloc (.cells #[.int .i64 ty, .int .u32 xid, .slice an nums.length cn, .slice ad ds.length cd, .slice xa4 xn4 xc4, .slice xa5 xn5 xc5, .slice xa6 xn6 xc6, .slice xa7 xn7 xc7, .slice xa8 xn8 xc8, .slice xa9 xn9 xc9, .slice xa10 xn10 xc10, .slice xa11 xn11 xc11, .int .i64 kind, .int .i64 flags, .slice xa14 r.parts.length xc14] 35)) (.cells #[.int .i64 zty, .int .u32 zxid, .slice an2 znums.length cn2, .slice ad2 zds.length cd2, .slice za4 zn4 zc4, .slice za5 zn5 zc5, .slice za6 zn6 zc6, .slice za7 zn7 zc7, .slice za8 zn8 zc8, .slice za9 zn9 zc9, .slice za10 zn10 zc10, .slice za11 zn11 zc11, .int .i64 zkind, .int .i64 zflags, .slice za14 s.parts.length zc14] 35)
  rw [World.size_alloc] at HQ0
  have HQ0 := Lib.hid HQ0
  have HCnums := Lib.hid (fun (W : World) (hb : Below w.heap.size w W) => rnums_eq (hn1.below hb) (hn2.below hb))
  have HCds := Lib.hid (fun (W : World) (hb : Below w.heap.size w W) => rbytes_eq (hd1.below hb) (hd2.below hb))
  have HCels := Lib.hid (fun (W : World) (hb : Below w.heap.size w W) => rsame_Elem (hels1.below ItemR.lasts hb) (hels2.below ItemR.lasts hb))
  have HCoxms := Lib.hid (fun (W : World) (hb : Below w.heap.size w W) => rsame_Oxm (k5.below OxmR.lasts hb) (l5.below OxmR.lasts hb))
  have HCacts := Lib.hid (fun (W : World) (hb : Below w.heap.size w W) => rsame_Act (k6.below ActR.lasts hb) (l6.below ActR.lasts hb))
  have HCinss := Lib.hid (fun (W : World) (hb : Below w.heap.size w W) => rsame_Ins (k7.below InsR.lasts hb) (l7.below InsR.lasts hb))
  have HCbucks := Lib.hid (fun (W : World) (hb : Below w.heap.size w W) => rsame_Bucket (k8.below BucketR.lasts hb) (l8.below BucketR.lasts hb))
  have HCbands := Lib.hid (fun (W : World) (hb : Below w.heap.size w W) => rsame_Band (k9.below BandR.lasts hb) (l9.below BandR.lasts hb))
  have HCques := Lib.hid (fun (W : World) (hb : Below w.heap.size w W) => rsame_Queue (k10.below QueueR.lasts hb) (l10.below QueueR.lasts hb))
  have HCports := Lib.hid (fun (W : World) (hb : Below w.heap.size w W) => rsame_Port (k11.below PortR.lasts hb) (l11.below PortR.lasts hb))
  have HPa := Lib.hid hpa
  have HPi := Lib.hid hpi
  have HQa := Lib.hid hqa
  have HQi := Lib.hid hqi
  clear hb0 hb1 hn1 hn2 hd1 hd2 hels1 hels2 k5 k6 k7 k8 k9 k10 k11 k14 l5 l6 l7 l8 l9 l10 l11 l14 hpa hpi hqa hqi
  by_cases hty : ty = zty
  · have Kty := Lib.hid hty
    have ety : (ty == zty) = true := by simp [hty]
    have fty : (ty != zty) = false := by simp [hty]
    clear hty
    by_cases hxid : xid = zxid
    · have Kxid := Lib.hid hxid
      have exid : (xid == zxid) = true := by simp [hxid]
      have fxid : (xid != zxid) = false := by simp [hxid]
      clear hxid
      by_cases hkind : kind = zkind
      · have Kkind := Lib.hid hkind
        have ekind : (kind == zkind) = true := by simp [hkind]
        have fkind : (kind != zkind) = false := by simp [hkind]
        clear hkind
        by_cases hflags : flags = zflags
        · have Kflags := Lib.hid hflags
          have eflags : (flags == zflags) = true := by simp [hflags]
          have fflags : (flags != zflags) = false := by simp [hflags]
          clear hflags
          by_cases hnums : nums = znums
          · have Knums := Lib.hid hnums
            rw [decide_eq_true hnums] at HCnums
            clear hnums
            by_cases hds : ds = zds
            · have Kds := Lib.hid hds
              rw [decide_eq_true hds] at HCds
              clear hds
              by_cases hln : r.parts.length = s.parts.length
              · have KLn := Lib.hid hln
                have e9 : ((r.parts.length : Int) != (s.parts.length : Int)) = false := by simp [hln]
                clear hln
                go_enter Tryz.func7, Tryz.ntmps7
                go_wp2_with fail
                refine (HCnums.out _ HB0.out).mono ?_
                rintro e w1 ⟨rfl, hb⟩
                have HB1 := Lib.hid (HB0.out.trans (hb.mono HB0.out.size))
                have HP1 := Lib.hid (row_below hb HP0.out)
                have HQ1 := Lib.hid (row_below hb HQ0.out)
                have c0 := cell_row HP1.out 0
                have d0 := cell_row HQ1.out 0
                have c1 := cell_row HP1.out 1
                have d1 := cell_row HQ1.out 1
                have c2 := cell_row HP1.out 2
                have d2 := cell_row HQ1.out 2
                have c3 := cell_row HP1.out 3
                have d3 := cell_row HQ1.out 3
                have c4 := cell_row HP1.out 4
                have d4 := cell_row HQ1.out 4
                have c5 := cell_row HP1.out 5
                have d5 := cell_row HQ1.out 5
                have c6 := cell_row HP1.out 6
                have d6 := cell_row HQ1.out 6
                have c7 := cell_row HP1.out 7
                have d7 := cell_row HQ1.out 7
                have c8 := cell_row HP1.out 8
                have d8 := cell_row HQ1.out 8
                have c9 := cell_row HP1.out 9
                have d9 := cell_row HQ1.out 9
                have c10 := cell_row HP1.out 10
                have d10 := cell_row HQ1.out 10
                have c11 := cell_row HP1.out 11
                have d11 := cell_row HQ1.out 11
                have c12 := cell_row HP1.out 12
                have d12 := cell_row HQ1.out 12
                have c13 := cell_row HP1.out 13
                have d13 := cell_row HQ1.out 13
                have c14 := cell_row HP1.out 14
                have d14 := cell_row HQ1.out 14
                clear hb
                go_wp2_with fail
                refine (HCds.out _ HB1.out).mono ?_
                rintro e w2 ⟨rfl, hb⟩
                have HB2 := Lib.hid (HB1.out.trans (hb.mono HB1.out.size))
                have HP2 := Lib.hid (row_below hb HP1.out)
                have HQ2 := Lib.hid (row_below hb HQ1.out)
                clear c0 d0 c1 d1 c2 d2 c3 d3 c4 d4 c5 d5 c6 d6 c7 d7 c8 d8 c9 d9 c10 d10 c11 d11 c12 d12 c13 d13 c14 d14
                have c0 := cell_row HP2.out 0
                have d0 := cell_row HQ2.out 0
                have c1 := cell_row HP2.out 1
                have d1 := cell_row HQ2.out 1
                have c2 := cell_row HP2.out 2
                have d2 := cell_row HQ2.out 2
                have c3 := cell_row HP2.out 3
                have d3 := cell_row HQ2.out 3
                have c4 := cell_row HP2.out 4
                have d4 := cell_row HQ2.out 4
                have c5 := cell_row HP2.out 5
                have d5 := cell_row HQ2.out 5
                have c6 := cell_row HP2.out 6
                have d6 := cell_row HQ2.out 6
                have c7 := cell_row HP2.out 7
                have d7 := cell_row HQ2.out 7
                have c8 := cell_row HP2.out 8
                have d8 := cell_row HQ2.out 8
                have c9 := cell_row HP2.out 9
                have d9 := cell_row HQ2.out 9
                have c10 := cell_row HP2.out 10
                have d10 := cell_row HQ2.out 10
                have c11 := cell_row HP2.out 11
                have d11 := cell_row HQ2.out 11
                have c12 := cell_row HP2.out 12
                have d12 := cell_row HQ2.out 12
                have c13 := cell_row HP2.out 13
                have d13 := cell_row HQ2.out 13
                have c14 := cell_row HP2.out 14
                have d14 := cell_row HQ2.out 14
                clear hb
                go_wp2_with fail
                clear c0 d0 c1 d1 c2 d2 c3 d3 c4 d4 c5 d5 c6 d6 c7 d7 c8 d8 c9 d9 c10 d10 c11 d11 c12 d12 c13 d13 c14 d14
                go_loopw [4, 5] (fun rr i wr => ∃ k : Nat, k ≤ r.parts.length ∧ i = .int .i64 k ∧ rr = .bool false ∧ Hid (Below w2.heap.size w2 wr) ∧ Hid (r.parts.take k = s.parts.take k)) (fun _ i _ => r.parts.length - (intOf i).toNat)
                case atStart => exact ⟨0, by omega, rfl, rfl, Below.refl _ _, rfl⟩
                case round =>
                  obtain ⟨wq, rfl⟩ : ∃ wq : World, wq = wr := ⟨_, rfl⟩
                  obtain ⟨k, hk, rfl, rfl, HW, HT⟩ := hrel
                  have HPq := Lib.hid (row_below HW.out HP2.out)
                  have HQq := Lib.hid (row_below HW.out HQ2.out)
                  have HBq := Lib.hid (HB2.out.trans (HW.out.mono HB2.out.size))
                  have c14 := cell_row HPq.out 14
                  have d14 := cell_row HQq.out 14
                  by_cases hlt : k < r.parts.length
                  · obtain rfl := HPa.out (by omega)
                    obtain rfl := HQa.out (by have := KLn.out; omega)
                    obtain ⟨x, hx⟩ : ∃ x, r.parts[k]? = some x := ⟨_, List.getElem?_eq_getElem hlt⟩
                    obtain ⟨y, hy⟩ : ∃ y, s.parts[k]? = some y := ⟨_, List.getElem?_eq_getElem (by have := KLn.out; omega)⟩
                    obtain ⟨u1, h1, hc1⟩ := HPi.out k x hx
                    obtain ⟨u2, h2, hc2⟩ := HQi.out k y hy
                    have HX := Lib.hid hx
                    have HY := Lib.hid hy
                    have HR1 := Lib.hid h1
                    have HR2 := Lib.hid h2
                    obtain ⟨xnu, xte, xma, xin, xbu, xba, xro, xpo, xta, xda, rfl, hxnu, hxte, hxma, hxin, hxbu, hxba, hxro, hxpo, hxta, hxda⟩ := h1
                    obtain ⟨ynu, yte, yma, yin, ybu, yba, yro, ypo, yta, yda, rfl, hynu, hyte, hyma, hyin, hybu, hyba, hyro, hypo, hyta, hyda⟩ := h2
                    obtain ⟨xnuA, xnuC, xnuB, xnuO, rfl, -⟩ := hxnu.open
                    obtain ⟨xteA, xteC, xteB, xteO, rfl, -⟩ := rows_open hxte
                    obtain ⟨xmaA, xmaC, xmaB, xmaO, rfl, -⟩ := rows_open hxma
                    obtain ⟨xinA, xinC, xinB, xinO, rfl, -⟩ := rows_open hxin
                    obtain ⟨xbuA, xbuC, xbuB, xbuO, rfl, -⟩ := rows_open hxbu
                    obtain ⟨xbaA, xbaC, xbaB, xbaO, rfl, -⟩ := rows_open hxba
                    obtain ⟨xroA, xroC, xroB, xroO, rfl, -⟩ := rows_open hxro
                    obtain ⟨xpoA, xpoC, xpoB, xpoO, rfl, -⟩ := rows_open hxpo
                    obtain ⟨xtaA, xtaC, xtaB, xtaO, rfl, -⟩ := rows_open hxta
                    obtain ⟨xdaA, xdaC, xdaB, xdaO, rfl, -⟩ := hxda.open
                    obtain ⟨ynuA, ynuC, ynuB, ynuO, rfl, -⟩ := hynu.open
                    obtain ⟨yteA, yteC, yteB, yteO, rfl, -⟩ := rows_open hyte
                    obtain ⟨ymaA, ymaC, ymaB, ymaO, rfl, -⟩ := rows_open hyma
                    obtain ⟨yinA, yinC, yinB, yinO, rfl, -⟩ := rows_open hyin
                    obtain ⟨ybuA, ybuC, ybuB, ybuO, rfl, -⟩ := rows_open hybu
                    obtain ⟨ybaA, ybaC, ybaB, ybaO, rfl, -⟩ := rows_open hyba
                    obtain ⟨yroA, yroC, yroB, yroO, rfl, -⟩ := rows_open hyro
                    obtain ⟨ypoA, ypoC, ypoB, ypoO, rfl, -⟩ := rows_open hypo
                    obtain ⟨ytaA, ytaC, ytaB, ytaO, rfl, -⟩ := rows_open hyta
                    obtain ⟨ydaA, ydaC, ydaB, ydaO, rfl, -⟩ := hyda.open
                    have x0 : w.cell? ⟨pB, pO + k * 10, none⟩ = some (.slice xnuA x.1.length xnuC) := hc1 0 _ rfl
                    have x1 : w.cell? ⟨pB, pO + k * 10 + 1, none⟩ = some (.slice xteA x.2.1.length xteC) := hc1 1 _ rfl
                    have x2 : w.cell? ⟨pB, pO + k * 10 + 2, none⟩ = some (.slice xmaA x.2.2.1.length xmaC) := hc1 2 _ rfl
                    have x3 : w.cell? ⟨pB, pO + k * 10 + 3, none⟩ = some (.slice xinA x.2.2.2.1.length xinC) := hc1 3 _ rfl
                    have x4 : w.cell? ⟨pB, pO + k * 10 + 4, none⟩ = some (.slice xbuA x.2.2.2.2.1.length xbuC) := hc1 4 _ rfl
                    have x5 : w.cell? ⟨pB, pO + k * 10 + 5, none⟩ = some (.slice xbaA x.2.2.2.2.2.1.length xbaC) := hc1 5 _ rfl
                    have x6 : w.cell? ⟨pB, pO + k * 10 + 6, none⟩ = some (.slice xroA x.2.2.2.2.2.2.1.length xroC) := hc1 6 _ rfl
                    have x7 : w.cell? ⟨pB, pO + k * 10 + 7, none⟩ = some (.slice xpoA x.2.2.2.2.2.2.2.1.length xpoC) := hc1 7 _ rfl
                    have x8 : w.cell? ⟨pB, pO + k * 10 + 8, none⟩ = some (.slice xtaA x.2.2.2.2.2.2.2.2.1.length xtaC) := hc1 8 _ rfl
                    have x9 : w.cell? ⟨pB, pO + k * 10 + 9, none⟩ = some (.slice xdaA x.2.2.2.2.2.2.2.2.2.length xdaC) := hc1 9 _ rfl
                    have y0 : w.cell? ⟨qB, qO + k * 10, none⟩ = some (.slice ynuA y.1.length ynuC) := hc2 0 _ rfl
                    have y1 : w.cell? ⟨qB, qO + k * 10 + 1, none⟩ = some (.slice yteA y.2.1.length yteC) := hc2 1 _ rfl
                    have y2 : w.cell? ⟨qB, qO + k * 10 + 2, none⟩ = some (.slice ymaA y.2.2.1.length ymaC) := hc2 2 _ rfl
                    have y3 : w.cell? ⟨qB, qO + k * 10 + 3, none⟩ = some (.slice yinA y.2.2.2.1.length yinC) := hc2 3 _ rfl
                    have y4 : w.cell? ⟨qB, qO + k * 10 + 4, none⟩ = some (.slice ybuA y.2.2.2.2.1.length ybuC) := hc2 4 _ rfl
                    have y5 : w.cell? ⟨qB, qO + k * 10 + 5, none⟩ = some (.slice ybaA y.2.2.2.2.2.1.length ybaC) := hc2 5 _ rfl
                    have y6 : w.cell? ⟨qB, qO + k * 10 + 6, none⟩ = some (.slice yroA y.2.2.2.2.2.2.1.length yroC) := hc2 6 _ rfl
                    have y7 : w.cell? ⟨qB, qO + k * 10 + 7, none⟩ = some (.slice ypoA y.2.2.2.2.2.2.2.1.length ypoC) := hc2 7 _ rfl
                    have y8 : w.cell? ⟨qB, qO + k * 10 + 8, none⟩ = some (.slice ytaA y.2.2.2.2.2.2.2.2.1.length ytaC) := hc2 8 _ rfl
                    have y9 : w.cell? ⟨qB, qO + k * 10 + 9, none⟩ = some (.slice ydaA y.2.2.2.2.2.2.2.2.2.length ydaC) := hc2 9 _ rfl
                    have x0 := (HBq.out.cell (World.block_lt_of_cell? _ _ x0)).trans x0
                    have y0 := (HBq.out.cell (World.block_lt_of_cell? _ _ y0)).trans y0
                    have x1 := (HBq.out.cell (World.block_lt_of_cell? _ _ x1)).trans x1
                    have y1 := (HBq.out.cell (World.block_lt_of_cell? _ _ y1)).trans y1
                    have x2 := (HBq.out.cell (World.block_lt_of_cell? _ _ x2)).trans x2
                    have y2 := (HBq.out.cell (World.block_lt_of_cell? _ _ y2)).trans y2
                    have x3 := (HBq.out.cell (World.block_lt_of_cell? _ _ x3)).trans x3
                    have y3 := (HBq.out.cell (World.block_lt_of_cell? _ _ y3)).trans y3
                    have x4 := (HBq.out.cell (World.block_lt_of_cell? _ _ x4)).trans x4
                    have y4 := (HBq.out.cell (World.block_lt_of_cell? _ _ y4)).trans y4
                    have x5 := (HBq.out.cell (World.block_lt_of_cell? _ _ x5)).trans x5
                    have y5 := (HBq.out.cell (World.block_lt_of_cell? _ _ y5)).trans y5
                    have x6 := (HBq.out.cell (World.block_lt_of_cell? _ _ x6)).trans x6
                    have y6 := (HBq.out.cell (World.block_lt_of_cell? _ _ y6)).trans y6
                    have x7 := (HBq.out.cell (World.block_lt_of_cell? _ _ x7)).trans x7
                    have y7 := (HBq.out.cell (World.block_lt_of_cell? _ _ y7)).trans y7
                    have x8 := (HBq.out.cell (World.block_lt_of_cell? _ _ x8)).trans x8
                    have y8 := (HBq.out.cell (World.block_lt_of_cell? _ _ y8)).trans y8
                    have x9 := (HBq.out.cell (World.block_lt_of_cell? _ _ x9)).trans x9
                    have y9 := (HBq.out.cell (World.block_lt_of_cell? _ _ y9)).trans y9
                    have HWd := Lib.hid (below_drewN HBq.out 1)
                    have HWe := Lib.hid (below_drewN HW.out 1)
                    have HEq := Lib.hid (fun (W : World) (hb : Below w.heap.size w W) => rcmp_Part (PartR.lasts _ _ _ _ hb HR1.out) (PartR.lasts _ _ _ _ hb HR2.out))
                    have hlt' : (k : Int) < r.parts.length := by omega
                    have hlt2 : (k : Int) < s.parts.length := by have := KLn.out; omega
                    clear hx hy hc1 hc2 HR1 HR2 hxnu hxte hxma hxin hxbu hxba hxro hxpo hxta hxda hynu hyte hyma hyin hybu hyba hyro hypo hyta hyda
                    by_cases hpq : x = y
                    · have HY2 : Hid (s.parts[k]? = some x) := Lib.hid (HY.out.trans (by rw [hpq]))
                      rw [decide_eq_true hpq] at HEq
                      clear hpq
                      go_wp2_with fail
                      go_still_tail 10, (by kernel_rfl)
                      go_wp2_with fail
                      refine (HEq.out _ HWd.out).mono ?_
                      rintro e w3 ⟨rfl, hb⟩
                      have HB3 := Lib.hid (HWe.out.trans (hb.mono HWe.out.size))
                      clear hb
                      go_wp2_with fail
                      go_roundw
                      case rel => exact ⟨k + 1, by omega, by go_num, rfl, HB3.out, take_both HX.out HY2.out HT.out⟩
                      case measure => simp [intOf]; omega
                    · have hne : r.parts ≠ s.parts := get_ne HX.out HY.out hpq
                      have HNE : Hid (res = false) := Lib.hid (HRes.out.trans (by simp [sameM, hne]))
                      rw [decide_eq_false hpq] at HEq
                      clear hpq hne
                      go_wp2_with fail
                      go_still_tail 10, (by kernel_rfl)
                      go_wp2_with fail
                      refine (HEq.out _ HWd.out).mono ?_
                      rintro e w3 ⟨rfl, hb⟩
                      have HB3 := Lib.hid (HWd.out.trans (hb.mono HWd.out.size))
                      clear hb
                      go_wp2_with fail
                      go_ret
                      exact ⟨by rw [HNE.out]; rfl, HB3.out⟩
                  · obtain rfl : k = r.parts.length := by omega
                    have Kparts : Hid (r.parts = s.parts) := by
                      have := HT.out
                      rw [List.take_length, KLn.out, List.take_length] at this
                      exact this
                    clear c14 d14 hlt hk
                    have c0 := cell_row HPq.out 0
                    have d0 := cell_row HQq.out 0
                    have c1 := cell_row HPq.out 1
                    have d1 := cell_row HQq.out 1
                    have c2 := cell_row HPq.out 2
                    have d2 := cell_row HQq.out 2
                    have c3 := cell_row HPq.out 3
                    have d3 := cell_row HQq.out 3
                    have c4 := cell_row HPq.out 4
                    have d4 := cell_row HQq.out 4
                    have c5 := cell_row HPq.out 5
                    have d5 := cell_row HQq.out 5
                    have c6 := cell_row HPq.out 6
                    have d6 := cell_row HQq.out 6
                    have c7 := cell_row HPq.out 7
                    have d7 := cell_row HQq.out 7
                    have c8 := cell_row HPq.out 8
                    have d8 := cell_row HQq.out 8
                    have c9 := cell_row HPq.out 9
                    have d9 := cell_row HQq.out 9
                    have c10 := cell_row HPq.out 10
                    have d10 := cell_row HQq.out 10
                    have c11 := cell_row HPq.out 11
                    have d11 := cell_row HQq.out 11
                    have c12 := cell_row HPq.out 12
                    have d12 := cell_row HQq.out 12
                    have c13 := cell_row HPq.out 13
                    have d13 := cell_row HQq.out 13
                    have c14 := cell_row HPq.out 14
                    have d14 := cell_row HQq.out 14
                    by_cases hels : els = zels
                    · have Kels := Lib.hid hels
                      rw [decide_eq_true hels] at HCels
                      clear hels
                      by_cases hoxms : r.oxms = s.oxms
                      · have Koxms := Lib.hid hoxms
                        rw [decide_eq_true hoxms] at HCoxms
                        clear hoxms
                        by_cases hacts : r.acts = s.acts
                        · have Kacts := Lib.hid hacts
                          rw [decide_eq_true hacts] at HCacts
                          clear hacts
                          by_cases hinss : r.inss = s.inss
                          · have Kinss := Lib.hid hinss
                            rw [decide_eq_true hinss] at HCinss
                            clear hinss
                            by_cases hbucks : r.bucks = s.bucks
                            · have Kbucks := Lib.hid hbucks
                              rw [decide_eq_true hbucks] at HCbucks
                              clear hbucks
                              by_cases hbands : r.bands = s.bands
                              · have Kbands := Lib.hid hbands
                                rw [decide_eq_true hbands] at HCbands
                                clear hbands
                                by_cases hques : r.ques = s.ques
                                · have Kques := Lib.hid hques
                                  rw [decide_eq_true hques] at HCques
                                  clear hques
                                  by_cases hports : r.ports = s.ports
                                  · have Kports := Lib.hid hports
                                    rw [decide_eq_true hports] at HCports
                                    clear hports
                                    have HEQ : Hid (res = true) := Lib.hid (HRes.out.trans (by simp [sameM, Kty.out, Kxid.out, Kkind.out, Kflags.out, Knums.out, Kds.out, Kparts.out, Kels.out, Koxms.out, Kacts.out, Kinss.out, Kbucks.out, Kbands.out, Kques.out, Kports.out]))
                                    go_wp2_with fail
                                    refine (HCels.out _ HBq.out).mono ?_
                                    rintro e w11 ⟨rfl, hb⟩
                                    have HB11 := Lib.hid (HBq.out.trans (hb.mono HBq.out.size))
                                    have HP11 := Lib.hid (row_below hb HPq.out)
                                    have HQ11 := Lib.hid (row_below hb HQq.out)
                                    clear c0 d0 c1 d1 c2 d2 c3 d3 c4 d4 c5 d5 c6 d6 c7 d7 c8 d8 c9 d9 c10 d10 c11 d11 c12 d12 c13 d13 c14 d14
                                    have c0 := cell_row HP11.out 0
                                    have d0 := cell_row HQ11.out 0
                                    have c1 := cell_row HP11.out 1
                                    have d1 := cell_row HQ11.out 1
                                    have c2 := cell_row HP11.out 2
                                    have d2 := cell_row HQ11.out 2
                                    have c3 := cell_row HP11.out 3
                                    have d3 := cell_row HQ11.out 3
                                    have c4 := cell_row HP11.out 4
                                    have d4 := cell_row HQ11.out 4
                                    have c5 := cell_row HP11.out 5
                                    have d5 := cell_row HQ11.out 5
                                    have c6 := cell_row HP11.out 6
                                    have d6 := cell_row HQ11.out 6
                                    have c7 := cell_row HP11.out 7
                                    have d7 := cell_row HQ11.out 7
                                    have c8 := cell_row HP11.out 8
                                    have d8 := cell_row HQ11.out 8
                                    have c9 := cell_row HP11.out 9
                                    have d9 := cell_row HQ11.out 9
                                    have c10 := cell_row HP11.out 10
                                    have d10 := cell_row HQ11.out 10
                                    have c11 := cell_row HP11.out 11
                                    have d11 := cell_row HQ11.out 11
                                    have c12 := cell_row HP11.out 12
                                    have d12 := cell_row HQ11.out 12
                                    have c13 := cell_row HP11.out 13
                                    have d13 := cell_row HQ11.out 13
                                    have c14 := cell_row HP11.out 14
                                    have d14 := cell_row HQ11.out 14
                                    clear hb
                                    go_wp2_with fail
                                    refine (HCoxms.out _ HB11.out).mono ?_
                                    rintro e w12 ⟨rfl, hb⟩
                                    have HB12 := Lib.hid (HB11.out.trans (hb.mono HB11.out.size))
                                    have HP12 := Lib.hid (row_below hb HP11.out)
                                    have HQ12 := Lib.hid (row_below hb HQ11.out)
                                    clear c0 d0 c1 d1 c2 d2 c3 d3 c4 d4 c5 d5 c6 d6 c7 d7 c8 d8 c9 d9 c10 d10 c11 d11 c12 d12 c13 d13 c14 d14
                                    have c0 := cell_row HP12.out 0
                                    have d0 := cell_row HQ12.out 0
                                    have c1 := cell_row HP12.out 1
                                    have d1 := cell_row HQ12.out 1
                                    have c2 := cell_row HP12.out 2
                                    have d2 := cell_row HQ12.out 2
                                    have c3 := cell_row HP12.out 3
                                    have d3 := cell_row HQ12.out 3
                                    have c4 := cell_row HP12.out 4
                                    have d4 := cell_row HQ12.out 4
                                    have c5 := cell_row HP12.out 5
                                    have d5 := cell_row HQ12.out 5
                                    have c6 := cell_row HP12.out 6
                                    have d6 := cell_row HQ12.out 6
                                    have c7 := cell_row HP12.out 7
                                    have d7 := cell_row HQ12.out 7
                                    have c8 := cell_row HP12.out 8
                                    have d8 := cell_row HQ12.out 8
                                    have c9 := cell_row HP12.out 9
                                    have d9 := cell_row HQ12.out 9
                                    have c10 := cell_row HP12.out 10
                                    have d10 := cell_row HQ12.out 10
                                    have c11 := cell_row HP12.out 11
                                    have d11 := cell_row HQ12.out 11
                                    have c12 := cell_row HP12.out 12
                                    have d12 := cell_row HQ12.out 12
                                    have c13 := cell_row HP12.out 13
                                    have d13 := cell_row HQ12.out 13
                                    have c14 := cell_row HP12.out 14
                                    have d14 := cell_row HQ12.out 14
                                    clear hb
                                    go_wp2_with fail
                                    refine (HCacts.out _ HB12.out).mono ?_
                                    rintro e w13 ⟨rfl, hb⟩
                                    have HB13 := Lib.hid (HB12.out.trans (hb.mono HB12.out.size))
                                    have HP13 := Lib.hid (row_below hb HP12.out)
                                    have HQ13 := Lib.hid (row_below hb HQ12.out)
                                    clear c0 d0 c1 d1 c2 d2 c3 d3 c4 d4 c5 d5 c6 d6 c7 d7 c8 d8 c9 d9 c10 d10 c11 d11 c12 d12 c13 d13 c14 d14
                                    have c0 := cell_row HP13.out 0
                                    have d0 := cell_row HQ13.out 0
                                    have c1 := cell_row HP13.out 1
                                    have d1 := cell_row HQ13.out 1
                                    have c2 := cell_row HP13.out 2
                                    have d2 := cell_row HQ13.out 2
                                    have c3 := cell_row HP13.out 3
                                    have d3 := cell_row HQ13.out 3
                                    have c4 := cell_row HP13.out 4
                                    have d4 := cell_row HQ13.out 4
                                    have c5 := cell_row HP13.out 5
                                    have d5 := cell_row HQ13.out 5
                                    have c6 := cell_row HP13.out 6
                                    have d6 := cell_row HQ13.out 6
                                    have c7 := cell_row HP13.out 7
                                    have d7 := cell_row HQ13.out 7
                                    have c8 := cell_row HP13.out 8
                                    have d8 := cell_row HQ13.out 8
                                    have c9 := cell_row HP13.out 9
                                    have d9 := cell_row HQ13.out 9
                                    have c10 := cell_row HP13.out 10
                                    have d10 := cell_row HQ13.out 10
                                    have c11 := cell_row HP13.out 11
                                    have d11 := cell_row HQ13.out 11
                                    have c12 := cell_row HP13.out 12
                                    have d12 := cell_row HQ13.out 12
                                    have c13 := cell_row HP13.out 13
                                    have d13 := cell_row HQ13.out 13
                                    have c14 := cell_row HP13.out 14
                                    have d14 := cell_row HQ13.out 14
                                    clear hb
                                    go_wp2_with fail
                                    refine (HCinss.out _ HB13.out).mono ?_
                                    rintro e w14 ⟨rfl, hb⟩
                                    have HB14 := Lib.hid (HB13.out.trans (hb.mono HB13.out.size))
                                    have HP14 := Lib.hid (row_below hb HP13.out)
                                    have HQ14 := Lib.hid (row_below hb HQ13.out)
                                    clear c0 d0 c1 d1 c2 d2 c3 d3 c4 d4 c5 d5 c6 d6 c7 d7 c8 d8 c9 d9 c10 d10 c11 d11 c12 d12 c13 d13 c14 d14
                                    have c0 := cell_row HP14.out 0
                                    have d0 := cell_row HQ14.out 0
                                    have c1 := cell_row HP14.out 1
                                    have d1 := cell_row HQ14.out 1
                                    have c2 := cell_row HP14.out 2
                                    have d2 := cell_row HQ14.out 2
                                    have c3 := cell_row HP14.out 3
                                    have d3 := cell_row HQ14.out 3
                                    have c4 := cell_row HP14.out 4
                                    have d4 := cell_row HQ14.out 4
                                    have c5 := cell_row HP14.out 5
                                    have d5 := cell_row HQ14.out 5
                                    have c6 := cell_row HP14.out 6
                                    have d6 := cell_row HQ14.out 6
                                    have c7 := cell_row HP14.out 7
                                    have d7 := cell_row HQ14.out 7
                                    have c8 := cell_row HP14.out 8
                                    have d8 := cell_row HQ14.out 8
                                    have c9 := cell_row HP14.out 9
                                    have d9 := cell_row HQ14.out 9
                                    have c10 := cell_row HP14.out 10
                                    have d10 := cell_row HQ14.out 10
                                    have c11 := cell_row HP14.out 11
                                    have d11 := cell_row HQ14.out 11
                                    have c12 := cell_row HP14.out 12
                                    have d12 := cell_row HQ14.out 12
                                    have c13 := cell_row HP14.out 13
                                    have d13 := cell_row HQ14.out 13
                                    have c14 := cell_row HP14.out 14
                                    have d14 := cell_row HQ14.out 14
                                    clear hb
                                    go_wp2_with fail
                                    refine (HCbucks.out _ HB14.out).mono ?_
                                    rintro e w15 ⟨rfl, hb⟩
                                    have HB15 := Lib.hid (HB14.out.trans (hb.mono HB14.out.size))
                                    have HP15 := Lib.hid (row_below hb HP14.out)
                                    have HQ15 := Lib.hid (row_below hb HQ14.out)
                                    clear c0 d0 c1 d1 c2 d2 c3 d3 c4 d4 c5 d5 c6 d6 c7 d7 c8 d8 c9 d9 c10 d10 c11 d11 c12 d12 c13 d13 c14 d14
                                    have c0 := cell_row HP15.out 0
                                    have d0 := cell_row HQ15.out 0
                                    have c1 := cell_row HP15.out 1
                                    have d1 := cell_row HQ15.out 1
                                    have c2 := cell_row HP15.out 2
                                    have d2 := cell_row HQ15.out 2
                                    have c3 := cell_row HP15.out 3
                                    have d3 := cell_row HQ15.out 3
                                    have c4 := cell_row HP15.out 4
                                    have d4 := cell_row HQ15.out 4
                                    have c5 := cell_row HP15.out 5
                                    have d5 := cell_row HQ15.out 5
                                    have c6 := cell_row HP15.out 6
                                    have d6 := cell_row HQ15.out 6
                                    have c7 := cell_row HP15.out 7
                                    have d7 := cell_row HQ15.out 7
                                    have c8 := cell_row HP15.out 8
                                    have d8 := cell_row HQ15.out 8
                                    have c9 := cell_row HP15.out 9
                                    have d9 := cell_row HQ15.out 9
                                    have c10 := cell_row HP15.out 10
                                    have d10 := cell_row HQ15.out 10
                                    have c11 := cell_row HP15.out 11
                                    have d11 := cell_row HQ15.out 11
                                    have c12 := cell_row HP15.out 12
                                    have d12 := cell_row HQ15.out 12
                                    have c13 := cell_row HP15.out 13
                                    have d13 := cell_row HQ15.out 13
                                    have c14 := cell_row HP15.out 14
                                    have d14 := cell_row HQ15.out 14
                                    clear hb
                                    go_wp2_with fail
                                    refine (HCbands.out _ HB15.out).mono ?_
                                    rintro e w16 ⟨rfl, hb⟩
                                    have HB16 := Lib.hid (HB15.out.trans (hb.mono HB15.out.size))
                                    have HP16 := Lib.hid (row_below hb HP15.out)
                                    have HQ16 := Lib.hid (row_below hb HQ15.out)
                                    clear c0 d0 c1 d1 c2 d2 c3 d3 c4 d4 c5 d5 c6 d6 c7 d7 c8 d8 c9 d9 c10 d10 c11 d11 c12 d12 c13 d13 c14 d14
                                    have c0 := cell_row HP16.out 0
                                    have d0 := cell_row HQ16.out 0
                                    have c1 := cell_row HP16.out 1
                                    have d1 := cell_row HQ16.out 1
                                    have c2 := cell_row HP16.out 2
                                    have d2 := cell_row HQ16.out 2
                                    have c3 := cell_row HP16.out 3
                                    have d3 := cell_row HQ16.out 3
                                    have c4 := cell_row HP16.out 4
                                    have d4 := cell_row HQ16.out 4
                                    have c5 := cell_row HP16.out 5
                                    have d5 := cell_row HQ16.out 5
                                    have c6 := cell_row HP16.out 6
                                    have d6 := cell_row HQ16.out 6
                                    have c7 := cell_row HP16.out 7
                                    have d7 := cell_row HQ16.out 7
                                    have c8 := cell_row HP16.out 8
                                    have d8 := cell_row HQ16.out 8
                                    have c9 := cell_row HP16.out 9
                                    have d9 := cell_row HQ16.out 9
                                    have c10 := cell_row HP16.out 10
                                    have d10 := cell_row HQ16.out 10
                                    have c11 := cell_row HP16.out 11
                                    have d11 := cell_row HQ16.out 11
                                    have c12 := cell_row HP16.out 12
                                    have d12 := cell_row HQ16.out 12
                                    have c13 := cell_row HP16.out 13
                                    have d13 := cell_row HQ16.out 13
                                    have c14 := cell_row HP16.out 14
                                    have d14 := cell_row HQ16.out 14
                                    clear hb
                                    go_wp2_with fail
                                    refine (HCques.out _ HB16.out).mono ?_
                                    rintro e w17 ⟨rfl, hb⟩
                                    have HB17 := Lib.hid (HB16.out.trans (hb.mono HB16.out.size))
                                    have HP17 := Lib.hid (row_below hb HP16.out)
                                    have HQ17 := Lib.hid (row_below hb HQ16.out)
                                    clear c0 d0 c1 d1 c2 d2 c3 d3 c4 d4 c5 d5 c6 d6 c7 d7 c8 d8 c9 d9 c10 d10 c11 d11 c12 d12 c13 d13 c14 d14
                                    have c0 := cell_row HP17.out 0
                                    have d0 := cell_row HQ17.out 0
                                    have c1 := cell_row HP17.out 1
                                    have d1 := cell_row HQ17.out 1
                                    have c2 := cell_row HP17.out 2
                                    have d2 := cell_row HQ17.out 2
                                    have c3 := cell_row HP17.out 3
                                    have d3 := cell_row HQ17.out 3
                                    have c4 := cell_row HP17.out 4
                                    have d4 := cell_row HQ17.out 4
                                    have c5 := cell_row HP17.out 5
                                    have d5 := cell_row HQ17.out 5
                                    have c6 := cell_row HP17.out 6
                                    have d6 := cell_row HQ17.out 6
                                    have c7 := cell_row HP17.out 7
                                    have d7 := cell_row HQ17.out 7
                                    have c8 := cell_row HP17.out 8
                                    have d8 := cell_row HQ17.out 8
                                    have c9 := cell_row HP17.out 9
                                    have d9 := cell_row HQ17.out 9
                                    have c10 := cell_row HP17.out 10
                                    have d10 := cell_row HQ17.out 10
                                    have c11 := cell_row HP17.out 11
                                    have d11 := cell_row HQ17.out 11
                                    have c12 := cell_row HP17.out 12
                                    have d12 := cell_row HQ17.out 12
                                    have c13 := cell_row HP17.out 13
                                    have d13 := cell_row HQ17.out 13
                                    have c14 := cell_row HP17.out 14
                                    have d14 := cell_row HQ17.out 14
                                    clear hb
                                    go_wp2_with fail
                                    refine (HCports.out _ HB17.out).mono ?_
                                    rintro e w18 ⟨rfl, hb⟩
                                    have HB18 := Lib.hid (HB17.out.trans (hb.mono HB17.out.size))
                                    have HP18 := Lib.hid (row_below hb HP17.out)
                                    have HQ18 := Lib.hid (row_below hb HQ17.out)
                                    clear c0 d0 c1 d1 c2 d2 c3 d3 c4 d4 c5 d5 c6 d6 c7 d7 c8 d8 c9 d9 c10 d10 c11 d11 c12 d12 c13 d13 c14 d14
                                    have c0 := cell_row HP18.out 0
                                    have d0 := cell_row HQ18.out 0
                                    have c1 := cell_row HP18.out 1
                                    have d1 := cell_row HQ18.out 1
                                    have c2 := cell_row HP18.out 2
                                    have d2 := cell_row HQ18.out 2
                                    have c3 := cell_row HP18.out 3
                                    have d3 := cell_row HQ18.out 3
                                    have c4 := cell_row HP18.out 4
                                    have d4 := cell_row HQ18.out 4
                                    have c5 := cell_row HP18.out 5
                                    have d5 := cell_row HQ18.out 5
                                    have c6 := cell_row HP18.out 6
                                    have d6 := cell_row HQ18.out 6
                                    have c7 := cell_row HP18.out 7
                                    have d7 := cell_row HQ18.out 7
                                    have c8 := cell_row HP18.out 8
                                    have d8 := cell_row HQ18.out 8
                                    have c9 := cell_row HP18.out 9
                                    have d9 := cell_row HQ18.out 9
                                    have c10 := cell_row HP18.out 10
                                    have d10 := cell_row HQ18.out 10
                                    have c11 := cell_row HP18.out 11
                                    have d11 := cell_row HQ18.out 11
                                    have c12 := cell_row HP18.out 12
                                    have d12 := cell_row HQ18.out 12
                                    have c13 := cell_row HP18.out 13
                                    have d13 := cell_row HQ18.out 13
                                    have c14 := cell_row HP18.out 14
                                    have d14 := cell_row HQ18.out 14
                                    clear hb
                                    go_wp2_with fail
                                    go_ret
                                    exact ⟨by rw [HEQ.out]; rfl, HB18.out⟩
                                  · have HNE : Hid (res = false) := Lib.hid (HRes.out.trans (by simp [sameM, hports]))
                                    rw [decide_eq_false hports] at HCports
                                    clear hports
                                    go_wp2_with fail
                                    refine (HCels.out _ HBq.out).mono ?_
                                    rintro e w11 ⟨rfl, hb⟩
                                    have HB11 := Lib.hid (HBq.out.trans (hb.mono HBq.out.size))
                                    have HP11 := Lib.hid (row_below hb HPq.out)
                                    have HQ11 := Lib.hid (row_below hb HQq.out)
                                    clear c0 d0 c1 d1 c2 d2 c3 d3 c4 d4 c5 d5 c6 d6 c7 d7 c8 d8 c9 d9 c10 d10 c11 d11 c12 d12 c13 d13 c14 d14
                                    have c0 := cell_row HP11.out 0
                                    have d0 := cell_row HQ11.out 0
                                    have c1 := cell_row HP11.out 1
                                    have d1 := cell_row HQ11.out 1
                                    have c2 := cell_row HP11.out 2
                                    have d2 := cell_row HQ11.out 2
                                    have c3 := cell_row HP11.out 3
                                    have d3 := cell_row HQ11.out 3
                                    have c4 := cell_row HP11.out 4
                                    have d4 := cell_row HQ11.out 4
                                    have c5 := cell_row HP11.out 5
                                    have d5 := cell_row HQ11.out 5
                                    have c6 := cell_row HP11.out 6
                                    have d6 := cell_row HQ11.out 6
                                    have c7 := cell_row HP11.out 7
                                    have d7 := cell_row HQ11.out 7
                                    have c8 := cell_row HP11.out 8
                                    have d8 := cell_row HQ11.out 8
                                    have c9 := cell_row HP11.out 9
                                    have d9 := cell_row HQ11.out 9
                                    have c10 := cell_row HP11.out 10
                                    have d10 := cell_row HQ11.out 10
                                    have c11 := cell_row HP11.out 11
                                    have d11 := cell_row HQ11.out 11
                                    have c12 := cell_row HP11.out 12
                                    have d12 := cell_row HQ11.out 12
                                    have c13 := cell_row HP11.out 13
                                    have d13 := cell_row HQ11.out 13
                                    have c14 := cell_row HP11.out 14
                                    have d14 := cell_row HQ11.out 14
                                    clear hb
                                    go_wp2_with fail
                                    refine (HCoxms.out _ HB11.out).mono ?_
                                    rintro e w12 ⟨rfl, hb⟩
                                    have HB12 := Lib.hid (HB11.out.trans (hb.mono HB11.out.size))
                                    have HP12 := Lib.hid (row_below hb HP11.out)
                                    have HQ12 := Lib.hid (row_below hb HQ11.out)
                                    clear c0 d0 c1 d1 c2 d2 c3 d3 c4 d4 c5 d5 c6 d6 c7 d7 c8 d8 c9 d9 c10 d10 c11 d11 c12 d12 c13 d13 c14 d14
                                    have c0 := cell_row HP12.out 0
                                    have d0 := cell_row HQ12.out 0
                                    have c1 := cell_row HP12.out 1
                                    have d1 := cell_row HQ12.out 1
                                    have c2 := cell_row HP12.out 2
                                    have d2 := cell_row HQ12.out 2
                                    have c3 := cell_row HP12.out 3
                                    have d3 := cell_row HQ12.out 3
                                    have c4 := cell_row HP12.out 4
                                    have d4 := cell_row HQ12.out 4
                                    have c5 := cell_row HP12.out 5
                                    have d5 := cell_row HQ12.out 5
                                    have c6 := cell_row HP12.out 6
                                    have d6 := cell_row HQ12.out 6
                                    have c7 := cell_row HP12.out 7
                                    have d7 := cell_row HQ12.out 7
                                    have c8 := cell_row HP12.out 8
                                    have d8 := cell_row HQ12.out 8
                                    have c9 := cell_row HP12.out 9
                                    have d9 := cell_row HQ12.out 9
                                    have c10 := cell_row HP12.out 10
                                    have d10 := cell_row HQ12.out 10
                                    have c11 := cell_row HP12.out 11
                                    have d11 := cell_row HQ12.out 11
                                    have c12 := cell_row HP12.out 12
                                    have d12 := cell_row HQ12.out 12
                                    have c13 := cell_row HP12.out 13
                                    have d13 := cell_row HQ12.out 13
                                    have c14 := cell_row HP12.out 14
                                    have d14 := cell_row HQ12.out 14
                                    clear hb
                                    go_wp2_with fail
                                    refine (HCacts.out _ HB12.out).mono ?_
                                    rintro e w13 ⟨rfl, hb⟩
                                    have HB13 := Lib.hid (HB12.out.trans (hb.mono HB12.out.size))
                                    have HP13 := Lib.hid (row_below hb HP12.out)
                                    have HQ13 := Lib.hid (row_below hb HQ12.out)
                                    clear c0 d0 c1 d1 c2 d2 c3 d3 c4 d4 c5 d5 c6 d6 c7 d7 c8 d8 c9 d9 c10 d10 c11 d11 c12 d12 c13 d13 c14 d14
                                    have c0 := cell_row HP13.out 0
                                    have d0 := cell_row HQ13.out 0
                                    have c1 := cell_row HP13.out 1
                                    have d1 := cell_row HQ13.out 1
                                    have c2 := cell_row HP13.out 2
                                    have d2 := cell_row HQ13.out 2
                                    have c3 := cell_row HP13.out 3
                                    have d3 := cell_row HQ13.out 3
                                    have c4 := cell_row HP13.out 4
                                    have d4 := cell_row HQ13.out 4
                                    have c5 := cell_row HP13.out 5
                                    have d5 := cell_row HQ13.out 5
                                    have c6 := cell_row HP13.out 6
                                    have d6 := cell_row HQ13.out 6
                                    have c7 := cell_row HP13.out 7
                                    have d7 := cell_row HQ13.out 7
                                    have c8 := cell_row HP13.out 8
                                    have d8 := cell_row HQ13.out 8
                                    have c9 := cell_row HP13.out 9
                                    have d9 := cell_row HQ13.out 9
                                    have c10 := cell_row HP13.out 10
                                    have d10 := cell_row HQ13.out 10
                                    have c11 := cell_row HP13.out 11
                                    have d11 := cell_row HQ13.out 11
                                    have c12 := cell_row HP13.out 12
                                    have d12 := cell_row HQ13.out 12
                                    have c13 := cell_row HP13.out 13
                                    have d13 := cell_row HQ13.out 13
                                    have c14 := cell_row HP13.out 14
                                    have d14 := cell_row HQ13.out 14
                                    clear hb
                                    go_wp2_with fail
                                    refine (HCinss.out _ HB13.out).mono ?_
                                    rintro e w14 ⟨rfl, hb⟩
                                    have HB14 := Lib.hid (HB13.out.trans (hb.mono HB13.out.size))
                                    have HP14 := Lib.hid (row_below hb HP13.out)
                                    have HQ14 := Lib.hid (row_below hb HQ13.out)
                                    clear c0 d0 c1 d1 c2 d2 c3 d3 c4 d4 c5 d5 c6 d6 c7 d7 c8 d8 c9 d9 c10 d10 c11 d11 c12 d12 c13 d13 c14 d14
                                    have c0 := cell_row HP14.out 0
                                    have d0 := cell_row HQ14.out 0
                                    have c1 := cell_row HP14.out 1
                                    have d1 := cell_row HQ14.out 1
                                    have c2 := cell_row HP14.out 2
                                    have d2 := cell_row HQ14.out 2
                                    have c3 := cell_row HP14.out 3
                                    have d3 := cell_row HQ14.out 3
                                    have c4 := cell_row HP14.out 4
                                    have d4 := cell_row HQ14.out 4
                                    have c5 := cell_row HP14.out 5
                                    have d5 := cell_row HQ14.out 5
                                    have c6 := cell_row HP14.out 6
                                    have d6 := cell_row HQ14.out 6
                                    have c7 := cell_row HP14.out 7
                                    have d7 := cell_row HQ14.out 7
                                    have c8 := cell_row HP14.out 8
                                    have d8 := cell_row HQ14.out 8
                                    have c9 := cell_row HP14.out 9
                                    have d9 := cell_row HQ14.out 9
                                    have c10 := cell_row HP14.out 10
                                    have d10 := cell_row HQ14.out 10
                                    have c11 := cell_row HP14.out 11
                                    have d11 := cell_row HQ14.out 11
                                    have c12 := cell_row HP14.out 12
                                    have d12 := cell_row HQ14.out 12
                                    have c13 := cell_row HP14.out 13
                                    have d13 := cell_row HQ14.out 13
                                    have c14 := cell_row HP14.out 14
                                    have d14 := cell_row HQ14.out 14
                                    clear hb
                                    go_wp2_with fail
                                    refine (HCbucks.out _ HB14.out).mono ?_
                                    rintro e w15 ⟨rfl, hb⟩
                                    have HB15 := Lib.hid (HB14.out.trans (hb.mono HB14.out.size))
                                    have HP15 := Lib.hid (row_below hb HP14.out)
                                    have HQ15 := Lib.hid (row_below hb HQ14.out)
                                    clear c0 d0 c1 d1 c2 d2 c3 d3 c4 d4 c5 d5 c6 d6 c7 d7 c8 d8 c9 d9 c10 d10 c11 d11 c12 d12 c13 d13 c14 d14
                                    have c0 := cell_row HP15.out 0
                                    have d0 := cell_row HQ15.out 0
                                    have c1 := cell_row HP15.out 1
                                    have d1 := cell_row HQ15.out 1
                                    have c2 := cell_row HP15.out 2
                                    have d2 := cell_row HQ15.out 2
                                    have c3 := cell_row HP15.out 3
                                    have d3 := cell_row HQ15.out 3
                                    have c4 := cell_row HP15.out 4
                                    have d4 := cell_row HQ15.out 4
                                    have c5 := cell_row HP15.out 5
                                    have d5 := cell_row HQ15.out 5
                                    have c6 := cell_row HP15.out 6
                                    have d6 := cell_row HQ15.out 6
                                    have c7 := cell_row HP15.out 7
                                    have d7 := cell_row HQ15.out 7
                                    have c8 := cell_row HP15.out 8
                                    have d8 := cell_row HQ15.out 8
                                    have c9 := cell_row HP15.out 9
                                    have d9 := cell_row HQ15.out 9
                                    have c10 := cell_row HP15.out 10
                                    have d10 := cell_row HQ15.out 10
                                    have c11 := cell_row HP15.out 11
                                    have d11 := cell_row HQ15.out 11
                                    have c12 := cell_row HP15.out 12
                                    have d12 := cell_row HQ15.out 12
                                    have c13 := cell_row HP15.out 13
                                    have d13 := cell_row HQ15.out 13
                                    have c14 := cell_row HP15.out 14
                                    have d14 := cell_row HQ15.out 14
                                    clear hb
                                    go_wp2_with fail
                                    refine (HCbands.out _ HB15.out).mono ?_
                                    rintro e w16 ⟨rfl, hb⟩
                                    have HB16 := Lib.hid (HB15.out.trans (hb.mono HB15.out.size))
                                    have HP16 := Lib.hid (row_below hb HP15.out)
                                    have HQ16 := Lib.hid (row_below hb HQ15.out)
                                    clear c0 d0 c1 d1 c2 d2 c3 d3 c4 d4 c5 d5 c6 d6 c7 d7 c8 d8 c9 d9 c10 d10 c11 d11 c12 d12 c13 d13 c14 d14
                                    have c0 := cell_row HP16.out 0
                                    have d0 := cell_row HQ16.out 0
                                    have c1 := cell_row HP16.out 1
                                    have d1 := cell_row HQ16.out 1
                                    have c2 := cell_row HP16.out 2
                                    have d2 := cell_row HQ16.out 2
                                    have c3 := cell_row HP16.out 3
                                    have d3 := cell_row HQ16.out 3
                                    have c4 := cell_row HP16.out 4
                                    have d4 := cell_row HQ16.out 4
                                    have c5 := cell_row HP16.out 5
                                    have d5 := cell_row HQ16.out 5
                                    have c6 := cell_row HP16.out 6
                                    have d6 := cell_row HQ16.out 6
                                    have c7 := cell_row HP16.out 7
                                    have d7 := cell_row HQ16.out 7
                                    have c8 := cell_row HP16.out 8
                                    have d8 := cell_row HQ16.out 8
                                    have c9 := cell_row HP16.out 9
                                    have d9 := cell_row HQ16.out 9
                                    have c10 := cell_row HP16.out 10
                                    have d10 := cell_row HQ16.out 10
                                    have c11 := cell_row HP16.out 11
                                    have d11 := cell_row HQ16.out 11
                                    have c12 := cell_row HP16.out 12
                                    have d12 := cell_row HQ16.out 12
                                    have c13 := cell_row HP16.out 13
                                    have d13 := cell_row HQ16.out 13
                                    have c14 := cell_row HP16.out 14
                                    have d14 := cell_row HQ16.out 14
                                    clear hb
                                    go_wp2_with fail
                                    refine (HCques.out _ HB16.out).mono ?_
                                    rintro e w17 ⟨rfl, hb⟩
                                    have HB17 := Lib.hid (HB16.out.trans (hb.mono HB16.out.size))
                                    have HP17 := Lib.hid (row_below hb HP16.out)
                                    have HQ17 := Lib.hid (row_below hb HQ16.out)
                                    clear c0 d0 c1 d1 c2 d2 c3 d3 c4 d4 c5 d5 c6 d6 c7 d7 c8 d8 c9 d9 c10 d10 c11 d11 c12 d12 c13 d13 c14 d14
                                    have c0 := cell_row HP17.out 0
                                    have d0 := cell_row HQ17.out 0
                                    have c1 := cell_row HP17.out 1
                                    have d1 := cell_row HQ17.out 1
                                    have c2 := cell_row HP17.out 2
                                    have d2 := cell_row HQ17.out 2
                                    have c3 := cell_row HP17.out 3
                                    have d3 := cell_row HQ17.out 3
                                    have c4 := cell_row HP17.out 4
                                    have d4 := cell_row HQ17.out 4
                                    have c5 := cell_row HP17.out 5
                                    have d5 := cell_row HQ17.out 5
                                    have c6 := cell_row HP17.out 6
                                    have d6 := cell_row HQ17.out 6
                                    have c7 := cell_row HP17.out 7
                                    have d7 := cell_row HQ17.out 7
                                    have c8 := cell_row HP17.out 8
                                    have d8 := cell_row HQ17.out 8
                                    have c9 := cell_row HP17.out 9
                                    have d9 := cell_row HQ17.out 9
                                    have c10 := cell_row HP17.out 10
                                    have d10 := cell_row HQ17.out 10
                                    have c11 := cell_row HP17.out 11
                                    have d11 := cell_row HQ17.out 11
                                    have c12 := cell_row HP17.out 12
                                    have d12 := cell_row HQ17.out 12
                                    have c13 := cell_row HP17.out 13
                                    have d13 := cell_row HQ17.out 13
                                    have c14 := cell_row HP17.out 14
                                    have d14 := cell_row HQ17.out 14
                                    clear hb
                                    go_wp2_with fail
                                    refine (HCports.out _ HB17.out).mono ?_
                                    rintro e w18 ⟨rfl, hb⟩
                                    have HB18 := Lib.hid (HB17.out.trans (hb.mono HB17.out.size))
                                    have HP18 := Lib.hid (row_below hb HP17.out)
                                    have HQ18 := Lib.hid (row_below hb HQ17.out)
                                    clear c0 d0 c1 d1 c2 d2 c3 d3 c4 d4 c5 d5 c6 d6 c7 d7 c8 d8 c9 d9 c10 d10 c11 d11 c12 d12 c13 d13 c14 d14
                                    have c0 := cell_row HP18.out 0
                                    have d0 := cell_row HQ18.out 0
                                    have c1 := cell_row HP18.out 1
                                    have d1 := cell_row HQ18.out 1
                                    have c2 := cell_row HP18.out 2
                                    have d2 := cell_row HQ18.out 2
                                    have c3 := cell_row HP18.out 3
                                    have d3 := cell_row HQ18.out 3
                                    have c4 := cell_row HP18.out 4
                                    have d4 := cell_row HQ18.out 4
                                    have c5 := cell_row HP18.out 5
                                    have d5 := cell_row HQ18.out 5
                                    have c6 := cell_row HP18.out 6
                                    have d6 := cell_row HQ18.out 6
                                    have c7 := cell_row HP18.out 7
                                    have d7 := cell_row HQ18.out 7
                                    have c8 := cell_row HP18.out 8
                                    have d8 := cell_row HQ18.out 8
                                    have c9 := cell_row HP18.out 9
                                    have d9 := cell_row HQ18.out 9
                                    have c10 := cell_row HP18.out 10
                                    have d10 := cell_row HQ18.out 10
                                    have c11 := cell_row HP18.out 11
                                    have d11 := cell_row HQ18.out 11
                                    have c12 := cell_row HP18.out 12
                                    have d12 := cell_row HQ18.out 12
                                    have c13 := cell_row HP18.out 13
                                    have d13 := cell_row HQ18.out 13
                                    have c14 := cell_row HP18.out 14
                                    have d14 := cell_row HQ18.out 14
                                    clear hb
                                    go_wp2_with fail
                                    go_ret
                                    exact ⟨by rw [HNE.out]; rfl, HB18.out⟩
                                · have HNE : Hid (res = false) := Lib.hid (HRes.out.trans (by simp [sameM, hques]))
                                  rw [decide_eq_false hques] at HCques
                                  clear hques
                                  go_wp2_with fail
                                  refine (HCels.out _ HBq.out).mono ?_
                                  rintro e w11 ⟨rfl, hb⟩
                                  have HB11 := Lib.hid (HBq.out.trans (hb.mono HBq.out.size))
                                  have HP11 := Lib.hid (row_below hb HPq.out)
                                  have HQ11 := Lib.hid (row_below hb HQq.out)
                                  clear c0 d0 c1 d1 c2 d2 c3 d3 c4 d4 c5 d5 c6 d6 c7 d7 c8 d8 c9 d9 c10 d10 c11 d11 c12 d12 c13 d13 c14 d14
                                  have c0 := cell_row HP11.out 0
                                  have d0 := cell_row HQ11.out 0
                                  have c1 := cell_row HP11.out 1
                                  have d1 := cell_row HQ11.out 1
                                  have c2 := cell_row HP11.out 2
                                  have d2 := cell_row HQ11.out 2
                                  have c3 := cell_row HP11.out 3
                                  have d3 := cell_row HQ11.out 3
                                  have c4 := cell_row HP11.out 4
                                  have d4 := cell_row HQ11.out 4
                                  have c5 := cell_row HP11.out 5
                                  have d5 := cell_row HQ11.out 5
                                  have c6 := cell_row HP11.out 6
                                  have d6 := cell_row HQ11.out 6
                                  have c7 := cell_row HP11.out 7
                                  have d7 := cell_row HQ11.out 7
                                  have c8 := cell_row HP11.out 8
                                  have d8 := cell_row HQ11.out 8
                                  have c9 := cell_row HP11.out 9
                                  have d9 := cell_row HQ11.out 9
                                  have c10 := cell_row HP11.out 10
                                  have d10 := cell_row HQ11.out 10
                                  have c11 := cell_row HP11.out 11
                                  have d11 := cell_row HQ11.out 11
                                  have c12 := cell_row HP11.out 12
                                  have d12 := cell_row HQ11.out 12
                                  have c13 := cell_row HP11.out 13
                                  have d13 := cell_row HQ11.out 13
                                  have c14 := cell_row HP11.out 14
                                  have d14 := cell_row HQ11.out 14
                                  clear hb
                                  go_wp2_with fail
                                  refine (HCoxms.out _ HB11.out).mono ?_
                                  rintro e w12 ⟨rfl, hb⟩
                                  have HB12 := Lib.hid (HB11.out.trans (hb.mono HB11.out.size))
                                  have HP12 := Lib.hid (row_below hb HP11.out)
                                  have HQ12 := Lib.hid (row_below hb HQ11.out)
                                  clear c0 d0 c1 d1 c2 d2 c3 d3 c4 d4 c5 d5 c6 d6 c7 d7 c8 d8 c9 d9 c10 d10 c11 d11 c12 d12 c13 d13 c14 d14
                                  have c0 := cell_row HP12.out 0
                                  have d0 := cell_row HQ12.out 0
                                  have c1 := cell_row HP12.out 1
                                  have d1 := cell_row HQ12.out 1
                                  have c2 := cell_row HP12.out 2
                                  have d2 := cell_row HQ12.out 2
                                  have c3 := cell_row HP12.out 3
                                  have d3 := cell_row HQ12.out 3
                                  have c4 := cell_row HP12.out 4
                                  have d4 := cell_row HQ12.out 4
                                  have c5 := cell_row HP12.out 5
                                  have d5 := cell_row HQ12.out 5
                                  have c6 := cell_row HP12.out 6
                                  have d6 := cell_row HQ12.out 6
                                  have c7 := cell_row HP12.out 7
                                  have d7 := cell_row HQ12.out 7
                                  have c8 := cell_row HP12.out 8
                                  have d8 := cell_row HQ12.out 8
                                  have c9 := cell_row HP12.out 9
                                  have d9 := cell_row HQ12.out 9
                                  have c10 := cell_row HP12.out 10
                                  have d10 := cell_row HQ12.out 10
                                  have c11 := cell_row HP12.out 11
                                  have d11 := cell_row HQ12.out 11
                                  have c12 := cell_row HP12.out 12
                                  have d12 := cell_row HQ12.out 12
                                  have c13 := cell_row HP12.out 13
                                  have d13 := cell_row HQ12.out 13
                                  have c14 := cell_row HP12.out 14
                                  have d14 := cell_row HQ12.out 14
                                  clear hb
                                  go_wp2_with fail
                                  refine (HCacts.out _ HB12.out).mono ?_
                                  rintro e w13 ⟨rfl, hb⟩
                                  have HB13 := Lib.hid (HB12.out.trans (hb.mono HB12.out.size))
                                  have HP13 := Lib.hid (row_below hb HP12.out)
                                  have HQ13 := Lib.hid (row_below hb HQ12.out)
                                  clear c0 d0 c1 d1 c2 d2 c3 d3 c4 d4 c5 d5 c6 d6 c7 d7 c8 d8 c9 d9 c10 d10 c11 d11 c12 d12 c13 d13 c14 d14
                                  have c0 := cell_row HP13.out 0
                                  have d0 := cell_row HQ13.out 0
                                  have c1 := cell_row HP13.out 1
                                  have d1 := cell_row HQ13.out 1
                                  have c2 := cell_row HP13.out 2
                                  have d2 := cell_row HQ13.out 2
                                  have c3 := cell_row HP13.out 3
                                  have d3 := cell_row HQ13.out 3
                                  have c4 := cell_row HP13.out 4
                                  have d4 := cell_row HQ13.out 4
                                  have c5 := cell_row HP13.out 5
                                  have d5 := cell_row HQ13.out 5
                                  have c6 := cell_row HP13.out 6
                                  have d6 := cell_row HQ13.out 6
                                  have c7 := cell_row HP13.out 7
                                  have d7 := cell_row HQ13.out 7
                                  have c8 := cell_row HP13.out 8
                                  have d8 := cell_row HQ13.out 8
                                  have c9 := cell_row HP13.out 9
                                  have d9 := cell_row HQ13.out 9
                                  have c10 := cell_row HP13.out 10
                                  have d10 := cell_row HQ13.out 10
                                  have c11 := cell_row HP13.out 11
                                  have d11 := cell_row HQ13.out 11
                                  have c12 := cell_row HP13.out 12
                                  have d12 := cell_row HQ13.out 12
                                  have c13 := cell_row HP13.out 13
                                  have d13 := cell_row HQ13.out 13
                                  have c14 := cell_row HP13.out 14
                                  have d14 := cell_row HQ13.out 14
                                  clear hb
                                  go_wp2_with fail
                                  refine (HCinss.out _ HB13.out).mono ?_
                                  rintro e w14 ⟨rfl, hb⟩
                                  have HB14 := Lib.hid (HB13.out.trans (hb.mono HB13.out.size))
                                  have HP14 := Lib.hid (row_below hb HP13.out)
                                  have HQ14 := Lib.hid (row_below hb HQ13.out)
                                  clear c0 d0 c1 d1 c2 d2 c3 d3 c4 d4 c5 d5 c6 d6 c7 d7 c8 d8 c9 d9 c10 d10 c11 d11 c12 d12 c13 d13 c14 d14
                                  have c0 := cell_row HP14.out 0
                                  have d0 := cell_row HQ14.out 0
                                  have c1 := cell_row HP14.out 1
                                  have d1 := cell_row HQ14.out 1
                                  have c2 := cell_row HP14.out 2
                                  have d2 := cell_row HQ14.out 2
                                  have c3 := cell_row HP14.out 3
                                  have d3 := cell_row HQ14.out 3
                                  have c4 := cell_row HP14.out 4
                                  have d4 := cell_row HQ14.out 4
                                  have c5 := cell_row HP14.out 5
                                  have d5 := cell_row HQ14.out 5
                                  have c6 := cell_row HP14.out 6
                                  have d6 := cell_row HQ14.out 6
                                  have c7 := cell_row HP14.out 7
                                  have d7 := cell_row HQ14.out 7
                                  have c8 := cell_row HP14.out 8
                                  have d8 := cell_row HQ14.out 8
                                  have c9 := cell_row HP14.out 9
                                  have d9 := cell_row HQ14.out 9
                                  have c10 := cell_row HP14.out 10
                                  have d10 := cell_row HQ14.out 10
                                  have c11 := cell_row HP14.out 11
                                  have d11 := cell_row HQ14.out 11
                                  have c12 := cell_row HP14.out 12
                                  have d12 := cell_row HQ14.out 12
                                  have c13 := cell_row HP14.out 13
                                  have d13 := cell_row HQ14.out 13
                                  have c14 := cell_row HP14.out 14
                                  have d14 := cell_row HQ14.out 14
                                  clear hb
                                  go_wp2_with fail
                                  refine (HCbucks.out _ HB14.out).mono ?_
                                  rintro e w15 ⟨rfl, hb⟩
                                  have HB15 := Lib.hid (HB14.out.trans (hb.mono HB14.out.size))
                                  have HP15 := Lib.hid (row_below hb HP14.out)
                                  have HQ15 := Lib.hid (row_below hb HQ14.out)
                                  clear c0 d0 c1 d1 c2 d2 c3 d3 c4 d4 c5 d5 c6 d6 c7 d7 c8 d8 c9 d9 c10 d10 c11 d11 c12 d12 c13 d13 c14 d14
                                  have c0 := cell_row HP15.out 0
                                  have d0 := cell_row HQ15.out 0
                                  have c1 := cell_row HP15.out 1
                                  have d1 := cell_row HQ15.out 1
                                  have c2 := cell_row HP15.out 2
                                  have d2 := cell_row HQ15.out 2
                                  have c3 := cell_row HP15.out 3
                                  have d3 := cell_row HQ15.out 3
                                  have c4 := cell_row HP15.out 4
                                  have d4 := cell_row HQ15.out 4
                                  have c5 := cell_row HP15.out 5
                                  have d5 := cell_row HQ15.out 5
                                  have c6 := cell_row HP15.out 6
                                  have d6 := cell_row HQ15.out 6
                                  have c7 := cell_row HP15.out 7
                                  have d7 := cell_row HQ15.out 7
                                  have c8 := cell_row HP15.out 8
                                  have d8 := cell_row HQ15.out 8
                                  have c9 := cell_row HP15.out 9
                                  have d9 := cell_row HQ15.out 9
                                  have c10 := cell_row HP15.out 10
                                  have d10 := cell_row HQ15.out 10
                                  have c11 := cell_row HP15.out 11
                                  have d11 := cell_row HQ15.out 11
                                  have c12 := cell_row HP15.out 12
                                  have d12 := cell_row HQ15.out 12
                                  have c13 := cell_row HP15.out 13
                                  have d13 := cell_row HQ15.out 13
                                  have c14 := cell_row HP15.out 14
                                  have d14 := cell_row HQ15.out 14
                                  clear hb
                                  go_wp2_with fail
                                  refine (HCbands.out _ HB15.out).mono ?_
                                  rintro e w16 ⟨rfl, hb⟩
                                  have HB16 := Lib.hid (HB15.out.trans (hb.mono HB15.out.size))
                                  have HP16 := Lib.hid (row_below hb HP15.out)
                                  have HQ16 := Lib.hid (row_below hb HQ15.out)
                                  clear c0 d0 c1 d1 c2 d2 c3 d3 c4 d4 c5 d5 c6 d6 c7 d7 c8 d8 c9 d9 c10 d10 c11 d11 c12 d12 c13 d13 c14 d14
                                  have c0 := cell_row HP16.out 0
                                  have d0 := cell_row HQ16.out 0
                                  have c1 := cell_row HP16.out 1
                                  have d1 := cell_row HQ16.out 1
                                  have c2 := cell_row HP16.out 2
                                  have d2 := cell_row HQ16.out 2
                                  have c3 := cell_row HP16.out 3
                                  have d3 := cell_row HQ16.out 3
                                  have c4 := cell_row HP16.out 4
                                  have d4 := cell_row HQ16.out 4
                                  have c5 := cell_row HP16.out 5
                                  have d5 := cell_row HQ16.out 5
                                  have c6 := cell_row HP16.out 6
                                  have d6 := cell_row HQ16.out 6
                                  have c7 := cell_row HP16.out 7
                                  have d7 := cell_row HQ16.out 7
                                  have c8 := cell_row HP16.out 8
                                  have d8 := cell_row HQ16.out 8
                                  have c9 := cell_row HP16.out 9
                                  have d9 := cell_row HQ16.out 9
                                  have c10 := cell_row HP16.out 10
                                  have d10 := cell_row HQ16.out 10
                                  have c11 := cell_row HP16.out 11
                                  have d11 := cell_row HQ16.out 11
                                  have c12 := cell_row HP16.out 12
                                  have d12 := cell_row HQ16.out 12
                                  have c13 := cell_row HP16.out 13
                                  have d13 := cell_row HQ16.out 13
                                  have c14 := cell_row HP16.out 14
                                  have d14 := cell_row HQ16.out 14
                                  clear hb
                                  go_wp2_with fail
                                  refine (HCques.out _ HB16.out).mono ?_
                                  rintro e w17 ⟨rfl, hb⟩
                                  have HB17 := Lib.hid (HB16.out.trans (hb.mono HB16.out.size))
                                  have HP17 := Lib.hid (row_below hb HP16.out)
                                  have HQ17 := Lib.hid (row_below hb HQ16.out)
                                  clear c0 d0 c1 d1 c2 d2 c3 d3 c4 d4 c5 d5 c6 d6 c7 d7 c8 d8 c9 d9 c10 d10 c11 d11 c12 d12 c13 d13 c14 d14
                                  have c0 := cell_row HP17.out 0
                                  have d0 := cell_row HQ17.out 0
                                  have c1 := cell_row HP17.out 1
                                  have d1 := cell_row HQ17.out 1
                                  have c2 := cell_row HP17.out 2
                                  have d2 := cell_row HQ17.out 2
                                  have c3 := cell_row HP17.out 3
                                  have d3 := cell_row HQ17.out 3
                                  have c4 := cell_row HP17.out 4
                                  have d4 := cell_row HQ17.out 4
                                  have c5 := cell_row HP17.out 5
                                  have d5 := cell_row HQ17.out 5
                                  have c6 := cell_row HP17.out 6
                                  have d6 := cell_row HQ17.out 6
                                  have c7 := cell_row HP17.out 7
                                  have d7 := cell_row HQ17.out 7
                                  have c8 := cell_row HP17.out 8
                                  have d8 := cell_row HQ17.out 8
                                  have c9 := cell_row HP17.out 9
                                  have d9 := cell_row HQ17.out 9
                                  have c10 := cell_row HP17.out 10
                                  have d10 := cell_row HQ17.out 10
                                  have c11 := cell_row HP17.out 11
                                  have d11 := cell_row HQ17.out 11
                                  have c12 := cell_row HP17.out 12
                                  have d12 := cell_row HQ17.out 12
                                  have c13 := cell_row HP17.out 13
                                  have d13 := cell_row HQ17.out 13
                                  have c14 := cell_row HP17.out 14
                                  have d14 := cell_row HQ17.out 14
                                  clear hb
                                  go_wp2_with fail
                                  go_ret
                                  exact ⟨by rw [HNE.out]; rfl, HB17.out⟩
                              · have HNE : Hid (res = false) := Lib.hid (HRes.out.trans (by simp [sameM, hbands]))
                                rw [decide_eq_false hbands] at HCbands
                                clear hbands
                                go_wp2_with fail
                                refine (HCels.out _ HBq.out).mono ?_
                                rintro e w11 ⟨rfl, hb⟩
                                have HB11 := Lib.hid (HBq.out.trans (hb.mono HBq.out.size))
                                have HP11 := Lib.hid (row_below hb HPq.out)
                                have HQ11 := Lib.hid (row_below hb HQq.out)
                                clear c0 d0 c1 d1 c2 d2 c3 d3 c4 d4 c5 d5 c6 d6 c7 d7 c8 d8 c9 d9 c10 d10 c11 d11 c12 d12 c13 d13 c14 d14
                                have c0 := cell_row HP11.out 0
                                have d0 := cell_row HQ11.out 0
                                have c1 := cell_row HP11.out 1
                                have d1 := cell_row HQ11.out 1
                                have c2 := cell_row HP11.out 2
                                have d2 := cell_row HQ11.out 2
                                have c3 := cell_row HP11.out 3
                                have d3 := cell_row HQ11.out 3
                                have c4 := cell_row HP11.out 4
                                have d4 := cell_row HQ11.out 4
                                have c5 := cell_row HP11.out 5
                                have d5 := cell_row HQ11.out 5
                                have c6 := cell_row HP11.out 6
                                have d6 := cell_row HQ11.out 6
                                have c7 := cell_row HP11.out 7
                                have d7 := cell_row HQ11.out 7
                                have c8 := cell_row HP11.out 8
                                have d8 := cell_row HQ11.out 8
                                have c9 := cell_row HP11.out 9
                                have d9 := cell_row HQ11.out 9
                                have c10 := cell_row HP11.out 10
                                have d10 := cell_row HQ11.out 10
                                have c11 := cell_row HP11.out 11
                                have d11 := cell_row HQ11.out 11
                                have c12 := cell_row HP11.out 12
                                have d12 := cell_row HQ11.out 12
                                have c13 := cell_row HP11.out 13
                                have d13 := cell_row HQ11.out 13
                                have c14 := cell_row HP11.out 14
                                have d14 := cell_row HQ11.out 14
                                clear hb
                                go_wp2_with fail
                                refine (HCoxms.out _ HB11.out).mono ?_
                                rintro e w12 ⟨rfl, hb⟩
                                have HB12 := Lib.hid (HB11.out.trans (hb.mono HB11.out.size))
                                have HP12 := Lib.hid (row_below hb HP11.out)
                                have HQ12 := Lib.hid (row_below hb HQ11.out)
                                clear c0 d0 c1 d1 c2 d2 c3 d3 c4 d4 c5 d5 c6 d6 c7 d7 c8 d8 c9 d9 c10 d10 c11 d11 c12 d12 c13 d13 c14 d14
                                have c0 := cell_row HP12.out 0
                                have d0 := cell_row HQ12.out 0
                                have c1 := cell_row HP12.out 1
                                have d1 := cell_row HQ12.out 1
                                have c2 := cell_row HP12.out 2
                                have d2 := cell_row HQ12.out 2
                                have c3 := cell_row HP12.out 3
                                have d3 := cell_row HQ12.out 3
                                have c4 := cell_row HP12.out 4
                                have d4 := cell_row HQ12.out 4
                                have c5 := cell_row HP12.out 5
                                have d5 := cell_row HQ12.out 5
                                have c6 := cell_row HP12.out 6
                                have d6 := cell_row HQ12.out 6
                                have c7 := cell_row HP12.out 7
                                have d7 := cell_row HQ12.out 7
                                have c8 := cell_row HP12.out 8
                                have d8 := cell_row HQ12.out 8
                                have c9 := cell_row HP12.out 9
                                have d9 := cell_row HQ12.out 9
                                have c10 := cell_row HP12.out 10
                                have d10 := cell_row HQ12.out 10
                                have c11 := cell_row HP12.out 11
                                have d11 := cell_row HQ12.out 11
                                have c12 := cell_row HP12.out 12
                                have d12 := cell_row HQ12.out 12
                                have c13 := cell_row HP12.out 13
                                have d13 := cell_row HQ12.out 13
                                have c14 := cell_row HP12.out 14
                                have d14 := cell_row HQ12.out 14
                                clear hb
                                go_wp2_with fail
                                refine (HCacts.out _ HB12.out).mono ?_
                                rintro e w13 ⟨rfl, hb⟩
                                have HB13 := Lib.hid (HB12.out.trans (hb.mono HB12.out.size))
                                have HP13 := Lib.hid (row_below hb HP12.out)
                                have HQ13 := Lib.hid (row_below hb HQ12.out)
                                clear c0 d0 c1 d1 c2 d2 c3 d3 c4 d4 c5 d5 c6 d6 c7 d7 c8 d8 c9 d9 c10 d10 c11 d11 c12 d12 c13 d13 c14 d14
                                have c0 := cell_row HP13.out 0
                                have d0 := cell_row HQ13.out 0
                                have c1 := cell_row HP13.out 1
                                have d1 := cell_row HQ13.out 1
                                have c2 := cell_row HP13.out 2
                                have d2 := cell_row HQ13.out 2
                                have c3 := cell_row HP13.out 3
                                have d3 := cell_row HQ13.out 3
                                have c4 := cell_row HP13.out 4
                                have d4 := cell_row HQ13.out 4
                                have c5 := cell_row HP13.out 5
                                have d5 := cell_row HQ13.out 5
                                have c6 := cell_row HP13.out 6
                                have d6 := cell_row HQ13.out 6
                                have c7 := cell_row HP13.out 7
                                have d7 := cell_row HQ13.out 7
                                have c8 := cell_row HP13.out 8
                                have d8 := cell_row HQ13.out 8
                                have c9 := cell_row HP13.out 9
                                have d9 := cell_row HQ13.out 9
                                have c10 := cell_row HP13.out 10
                                have d10 := cell_row HQ13.out 10
                                have c11 := cell_row HP13.out 11
                                have d11 := cell_row HQ13.out 11
                                have c12 := cell_row HP13.out 12
                                have d12 := cell_row HQ13.out 12
                                have c13 := cell_row HP13.out 13
                                have d13 := cell_row HQ13.out 13
                                have c14 := cell_row HP13.out 14
                                have d14 := cell_row HQ13.out 14
                                clear hb
                                go_wp2_with fail
                                refine (HCinss.out _ HB13.out).mono ?_
                                rintro e w14 ⟨rfl, hb⟩
                                have HB14 := Lib.hid (HB13.out.trans (hb.mono HB13.out.size))
                                have HP14 := Lib.hid (row_below hb HP13.out)
                                have HQ14 := Lib.hid (row_below hb HQ13.out)
                                clear c0 d0 c1 d1 c2 d2 c3 d3 c4 d4 c5 d5 c6 d6 c7 d7 c8 d8 c9 d9 c10 d10 c11 d11 c12 d12 c13 d13 c14 d14
                                have c0 := cell_row HP14.out 0
                                have d0 := cell_row HQ14.out 0
                                have c1 := cell_row HP14.out 1
                                have d1 := cell_row HQ14.out 1
                                have c2 := cell_row HP14.out 2
                                have d2 := cell_row HQ14.out 2
                                have c3 := cell_row HP14.out 3
                                have d3 := cell_row HQ14.out 3
                                have c4 := cell_row HP14.out 4
                                have d4 := cell_row HQ14.out 4
                                have c5 := cell_row HP14.out 5
                                have d5 := cell_row HQ14.out 5
                                have c6 := cell_row HP14.out 6
                                have d6 := cell_row HQ14.out 6
                                have c7 := cell_row HP14.out 7
                                have d7 := cell_row HQ14.out 7
                                have c8 := cell_row HP14.out 8
                                have d8 := cell_row HQ14.out 8
                                have c9 := cell_row HP14.out 9
                                have d9 := cell_row HQ14.out 9
                                have c10 := cell_row HP14.out 10
                                have d10 := cell_row HQ14.out 10
                                have c11 := cell_row HP14.out 11
                                have d11 := cell_row HQ14.out 11
                                have c12 := cell_row HP14.out 12
                                have d12 := cell_row HQ14.out 12
                                have c13 := cell_row HP14.out 13
                                have d13 := cell_row HQ14.out 13
                                have c14 := cell_row HP14.out 14
                                have d14 := cell_row HQ14.out 14
                                clear hb
                                go_wp2_with fail
                                refine (HCbucks.out _ HB14.out).mono ?_
                                rintro e w15 ⟨rfl, hb⟩
                                have HB15 := Lib.hid (HB14.out.trans (hb.mono HB14.out.size))
                                have HP15 := Lib.hid (row_below hb HP14.out)
                                have HQ15 := Lib.hid (row_below hb HQ14.out)
                                clear c0 d0 c1 d1 c2 d2 c3 d3 c4 d4 c5 d5 c6 d6 c7 d7 c8 d8 c9 d9 c10 d10 c11 d11 c12 d12 c13 d13 c14 d14
                                have c0 := cell_row HP15.out 0
                                have d0 := cell_row HQ15.out 0
                                have c1 := cell_row HP15.out 1
                                have d1 := cell_row HQ15.out 1
                                have c2 := cell_row HP15.out 2
                                have d2 := cell_row HQ15.out 2
                                have c3 := cell_row HP15.out 3
                                have d3 := cell_row HQ15.out 3
                                have c4 := cell_row HP15.out 4
                                have d4 := cell_row HQ15.out 4
                                have c5 := cell_row HP15.out 5
                                have d5 := cell_row HQ15.out 5
                                have c6 := cell_row HP15.out 6
                                have d6 := cell_row HQ15.out 6
                                have c7 := cell_row HP15.out 7
                                have d7 := cell_row HQ15.out 7
                                have c8 := cell_row HP15.out 8
                                have d8 := cell_row HQ15.out 8
                                have c9 := cell_row HP15.out 9
                                have d9 := cell_row HQ15.out 9
                                have c10 := cell_row HP15.out 10
                                have d10 := cell_row HQ15.out 10
                                have c11 := cell_row HP15.out 11
                                have d11 := cell_row HQ15.out 11
                                have c12 := cell_row HP15.out 12
                                have d12 := cell_row HQ15.out 12
                                have c13 := cell_row HP15.out 13
                                have d13 := cell_row HQ15.out 13
                                have c14 := cell_row HP15.out 14
                                have d14 := cell_row HQ15.out 14
                                clear hb
                                go_wp2_with fail
                                refine (HCbands.out _ HB15.out).mono ?_
                                rintro e w16 ⟨rfl, hb⟩
                                have HB16 := Lib.hid (HB15.out.trans (hb.mono HB15.out.size))
                                have HP16 := Lib.hid (row_below hb HP15.out)
                                have HQ16 := Lib.hid (row_below hb HQ15.out)
                                clear c0 d0 c1 d1 c2 d2 c3 d3 c4 d4 c5 d5 c6 d6 c7 d7 c8 d8 c9 d9 c10 d10 c11 d11 c12 d12 c13 d13 c14 d14
                                have c0 := cell_row HP16.out 0
                                have d0 := cell_row HQ16.out 0
                                have c1 := cell_row HP16.out 1
                                have d1 := cell_row HQ16.out 1
                                have c2 := cell_row HP16.out 2
                                have d2 := cell_row HQ16.out 2
                                have c3 := cell_row HP16.out 3
                                have d3 := cell_row HQ16.out 3
                                have c4 := cell_row HP16.out 4
                                have d4 := cell_row HQ16.out 4
                                have c5 := cell_row HP16.out 5
                                have d5 := cell_row HQ16.out 5
                                have c6 := cell_row HP16.out 6
                                have d6 := cell_row HQ16.out 6
                                have c7 := cell_row HP16.out 7
                                have d7 := cell_row HQ16.out 7
                                have c8 := cell_row HP16.out 8
                                have d8 := cell_row HQ16.out 8
                                have c9 := cell_row HP16.out 9
                                have d9 := cell_row HQ16.out 9
                                have c10 := cell_row HP16.out 10
                                have d10 := cell_row HQ16.out 10
                                have c11 := cell_row HP16.out 11
                                have d11 := cell_row HQ16.out 11
                                have c12 := cell_row HP16.out 12
                                have d12 := cell_row HQ16.out 12
                                have c13 := cell_row HP16.out 13
                                have d13 := cell_row HQ16.out 13
                                have c14 := cell_row HP16.out 14
                                have d14 := cell_row HQ16.out 14
                                clear hb
                                go_wp2_with fail
                                go_ret
                                exact ⟨by rw [HNE.out]; rfl, HB16.out⟩
                            · have HNE : Hid (res = false) := Lib.hid (HRes.out.trans (by simp [sameM, hbucks]))
                              rw [decide_eq_false hbucks] at HCbucks
                              clear hbucks
                              go_wp2_with fail
                              refine (HCels.out _ HBq.out).mono ?_
                              rintro e w11 ⟨rfl, hb⟩
                              have HB11 := Lib.hid (HBq.out.trans (hb.mono HBq.out.size))
                              have HP11 := Lib.hid (row_below hb HPq.out)
                              have HQ11 := Lib.hid (row_below hb HQq.out)
                              clear c0 d0 c1 d1 c2 d2 c3 d3 c4 d4 c5 d5 c6 d6 c7 d7 c8 d8 c9 d9 c10 d10 c11 d11 c12 d12 c13 d13 c14 d14
                              have c0 := cell_row HP11.out 0
                              have d0 := cell_row HQ11.out 0
                              have c1 := cell_row HP11.out 1
                              have d1 := cell_row HQ11.out 1
                              have c2 := cell_row HP11.out 2
                              have d2 := cell_row HQ11.out 2
                              have c3 := cell_row HP11.out 3
                              have d3 := cell_row HQ11.out 3
                              have c4 := cell_row HP11.out 4
                              have d4 := cell_row HQ11.out 4
                              have c5 := cell_row HP11.out 5
                              have d5 := cell_row HQ11.out 5
                              have c6 := cell_row HP11.out 6
                              have d6 := cell_row HQ11.out 6
                              have c7 := cell_row HP11.out 7
                              have d7 := cell_row HQ11.out 7
                              have c8 := cell_row HP11.out 8
                              have d8 := cell_row HQ11.out 8
                              have c9 := cell_row HP11.out 9
                              have d9 := cell_row HQ11.out 9
                              have c10 := cell_row HP11.out 10
                              have d10 := cell_row HQ11.out 10
                              have c11 := cell_row HP11.out 11
                              have d11 := cell_row HQ11.out 11
                              have c12 := cell_row HP11.out 12
                              have d12 := cell_row HQ11.out 12
                              have c13 := cell_row HP11.out 13
                              have d13 := cell_row HQ11.out 13
                              have c14 := cell_row HP11.out 14
                              have d14 := cell_row HQ11.out 14
                              clear hb
                              go_wp2_with fail
                              refine (HCoxms.out _ HB11.out).mono ?_
                              rintro e w12 ⟨rfl, hb⟩
                              have HB12 := Lib.hid (HB11.out.trans (hb.mono HB11.out.size))
                              have HP12 := Lib.hid (row_below hb HP11.out)
                              have HQ12 := Lib.hid (row_below hb HQ11.out)
                              clear c0 d0 c1 d1 c2 d2 c3 d3 c4 d4 c5 d5 c6 d6 c7 d7 c8 d8 c9 d9 c10 d10 c11 d11 c12 d12 c13 d13 c14 d14
                              have c0 := cell_row HP12.out 0
                              have d0 := cell_row HQ12.out 0
                              have c1 := cell_row HP12.out 1
                              have d1 := cell_row HQ12.out 1
                              have c2 := cell_row HP12.out 2
                              have d2 := cell_row HQ12.out 2
                              have c3 := cell_row HP12.out 3
                              have d3 := cell_row HQ12.out 3
                              have c4 := cell_row HP12.out 4
                              have d4 := cell_row HQ12.out 4
                              have c5 := cell_row HP12.out 5
                              have d5 := cell_row HQ12.out 5
                              have c6 := cell_row HP12.out 6
                              have d6 := cell_row HQ12.out 6
                              have c7 := cell_row HP12.out 7
                              have d7 := cell_row HQ12.out 7
                              have c8 := cell_row HP12.out 8
                              have d8 := cell_row HQ12.out 8
                              have c9 := cell_row HP12.out 9
                              have d9 := cell_row HQ12.out 9
                              have c10 := cell_row HP12.out 10
                              have d10 := cell_row HQ12.out 10
                              have c11 := cell_row HP12.out 11
                              have d11 := cell_row HQ12.out 11
                              have c12 := cell_row HP12.out 12
                              have d12 := cell_row HQ12.out 12
                              have c13 := cell_row HP12.out 13
                              have d13 := cell_row HQ12.out 13
                              have c14 := cell_row HP12.out 14
                              have d14 := cell_row HQ12.out 14
                              clear hb
                              go_wp2_with fail
                              refine (HCacts.out _ HB12.out).mono ?_
                              rintro e w13 ⟨rfl, hb⟩
                              have HB13 := Lib.hid (HB12.out.trans (hb.mono HB12.out.size))
                              have HP13 := Lib.hid (row_below hb HP12.out)
                              have HQ13 := Lib.hid (row_below hb HQ12.out)
                              clear c0 d0 c1 d1 c2 d2 c3 d3 c4 d4 c5 d5 c6 d6 c7 d7 c8 d8 c9 d9 c10 d10 c11 d11 c12 d12 c13 d13 c14 d14
                              have c0 := cell_row HP13.out 0
                              have d0 := cell_row HQ13.out 0
                              have c1 := cell_row HP13.out 1
                              have d1 := cell_row HQ13.out 1
                              have c2 := cell_row HP13.out 2
                              have d2 := cell_row HQ13.out 2
                              have c3 := cell_row HP13.out 3
                              have d3 := cell_row HQ13.out 3
                              have c4 := cell_row HP13.out 4
                              have d4 := cell_row HQ13.out 4
                              have c5 := cell_row HP13.out 5
                              have d5 := cell_row HQ13.out 5
                              have c6 := cell_row HP13.out 6
                              have d6 := cell_row HQ13.out 6
                              have c7 := cell_row HP13.out 7
                              have d7 := cell_row HQ13.out 7
                              have c8 := cell_row HP13.out 8
                              have d8 := cell_row HQ13.out 8
                              have c9 := cell_row HP13.out 9
                              have d9 := cell_row HQ13.out 9
                              have c10 := cell_row HP13.out 10
                              have d10 := cell_row HQ13.out 10
                              have c11 := cell_row HP13.out 11
                              have d11 := cell_row HQ13.out 11
                              have c12 := cell_row HP13.out 12
                              have d12 := cell_row HQ13.out 12
                              have c13 := cell_row HP13.out 13
                              have d13 := cell_row HQ13.out 13
                              have c14 := cell_row HP13.out 14
                              have d14 := cell_row HQ13.out 14
                              clear hb
                              go_wp2_with fail
                              refine (HCinss.out _ HB13.out).mono ?_
                              rintro e w14 ⟨rfl, hb⟩
                              have HB14 := Lib.hid (HB13.out.trans (hb.mono HB13.out.size))
                              have HP14 := Lib.hid (row_below hb HP13.out)
                              have HQ14 := Lib.hid (row_below hb HQ13.out)
                              clear c0 d0 c1 d1 c2 d2 c3 d3 c4 d4 c5 d5 c6 d6 c7 d7 c8 d8 c9 d9 c10 d10 c11 d11 c12 d12 c13 d13 c14 d14
                              have c0 := cell_row HP14.out 0
                              have d0 := cell_row HQ14.out 0
                              have c1 := cell_row HP14.out 1
                              have d1 := cell_row HQ14.out 1
                              have c2 := cell_row HP14.out 2
                              have d2 := cell_row HQ14.out 2
                              have c3 := cell_row HP14.out 3
                              have d3 := cell_row HQ14.out 3
                              have c4 := cell_row HP14.out 4
                              have d4 := cell_row HQ14.out 4
                              have c5 := cell_row HP14.out 5
                              have d5 := cell_row HQ14.out 5
                              have c6 := cell_row HP14.out 6
                              have d6 := cell_row HQ14.out 6
                              have c7 := cell_row HP14.out 7
                              have d7 := cell_row HQ14.out 7
                              have c8 := cell_row HP14.out 8
                              have d8 := cell_row HQ14.out 8
                              have c9 := cell_row HP14.out 9
                              have d9 := cell_row HQ14.out 9
                              have c10 := cell_row HP14.out 10
                              have d10 := cell_row HQ14.out 10
                              have c11 := cell_row HP14.out 11
                              have d11 := cell_row HQ14.out 11
                              have c12 := cell_row HP14.out 12
                              have d12 := cell_row HQ14.out 12
                              have c13 := cell_row HP14.out 13
                              have d13 := cell_row HQ14.out 13
                              have c14 := cell_row HP14.out 14
                              have d14 := cell_row HQ14.out 14
                              clear hb
                              go_wp2_with fail
                              refine (HCbucks.out _ HB14.out).mono ?_
                              rintro e w15 ⟨rfl, hb⟩
                              have HB15 := Lib.hid (HB14.out.trans (hb.mono HB14.out.size))
                              have HP15 := Lib.hid (row_below hb HP14.out)
                              have HQ15 := Lib.hid (row_below hb HQ14.out)
                              clear c0 d0 c1 d1 c2 d2 c3 d3 c4 d4 c5 d5 c6 d6 c7 d7 c8 d8 c9 d9 c10 d10 c11 d11 c12 d12 c13 d13 c14 d14
                              have c0 := cell_row HP15.out 0
                              have d0 := cell_row HQ15.out 0
                              have c1 := cell_row HP15.out 1
                              have d1 := cell_row HQ15.out 1
                              have c2 := cell_row HP15.out 2
                              have d2 := cell_row HQ15.out 2
                              have c3 := cell_row HP15.out 3
                              have d3 := cell_row HQ15.out 3
                              have c4 := cell_row HP15.out 4
                              have d4 := cell_row HQ15.out 4
                              have c5 := cell_row HP15.out 5
                              have d5 := cell_row HQ15.out 5
                              have c6 := cell_row HP15.out 6
                              have d6 := cell_row HQ15.out 6
                              have c7 := cell_row HP15.out 7
                              have d7 := cell_row HQ15.out 7
                              have c8 := cell_row HP15.out 8
                              have d8 := cell_row HQ15.out 8
                              have c9 := cell_row HP15.out 9
                              have d9 := cell_row HQ15.out 9
                              have c10 := cell_row HP15.out 10
                              have d10 := cell_row HQ15.out 10
                              have c11 := cell_row HP15.out 11
                              have d11 := cell_row HQ15.out 11
                              have c12 := cell_row HP15.out 12
                              have d12 := cell_row HQ15.out 12
                              have c13 := cell_row HP15.out 13
                              have d13 := cell_row HQ15.out 13
                              have c14 := cell_row HP15.out 14
                              have d14 := cell_row HQ15.out 14
                              clear hb
                              go_wp2_with fail
                              go_ret
                              exact ⟨by rw [HNE.out]; rfl, HB15.out⟩
                          · have HNE : Hid (res = false) := Lib.hid (HRes.out.trans (by simp [sameM, hinss]))
                            rw [decide_eq_false hinss] at HCinss
                            clear hinss
                            go_wp2_with fail
                            refine (HCels.out _ HBq.out).mono ?_
                            rintro e w11 ⟨rfl, hb⟩
                            have HB11 := Lib.hid (HBq.out.trans (hb.mono HBq.out.size))
                            have HP11 := Lib.hid (row_below hb HPq.out)
                            have HQ11 := Lib.hid (row_below hb HQq.out)
                            clear c0 d0 c1 d1 c2 d2 c3 d3 c4 d4 c5 d5 c6 d6 c7 d7 c8 d8 c9 d9 c10 d10 c11 d11 c12 d12 c13 d13 c14 d14
                            have c0 := cell_row HP11.out 0
                            have d0 := cell_row HQ11.out 0
                            have c1 := cell_row HP11.out 1
                            have d1 := cell_row HQ11.out 1
                            have c2 := cell_row HP11.out 2
                            have d2 := cell_row HQ11.out 2
                            have c3 := cell_row HP11.out 3
                            have d3 := cell_row HQ11.out 3
                            have c4 := cell_row HP11.out 4
                            have d4 := cell_row HQ11.out 4
                            have c5 := cell_row HP11.out 5
                            have d5 := cell_row HQ11.out 5
                            have c6 := cell_row HP11.out 6
                            have d6 := cell_row HQ11.out 6
                            have c7 := cell_row HP11.out 7
                            have d7 := cell_row HQ11.out 7
                            have c8 := cell_row HP11.out 8
                            have d8 := cell_row HQ11.out 8
                            have c9 := cell_row HP11.out 9
                            have d9 := cell_row HQ11.out 9
                            have c10 := cell_row HP11.out 10
                            have d10 := cell_row HQ11.out 10
                            have c11 := cell_row HP11.out 11
                            have d11 := cell_row HQ11.out 11
                            have c12 := cell_row HP11.out 12
                            have d12 := cell_row HQ11.out 12
                            have c13 := cell_row HP11.out 13
                            have d13 := cell_row HQ11.out 13
                            have c14 := cell_row HP11.out 14
                            have d14 := cell_row HQ11.out 14
                            clear hb
                            go_wp2_with fail
                            refine (HCoxms.out _ HB11.out).mono ?_
                            rintro e w12 ⟨rfl, hb⟩
                            have HB12 := Lib.hid (HB11.out.trans (hb.mono HB11.out.size))
                            have HP12 := Lib.hid (row_below hb HP11.out)
                            have HQ12 := Lib.hid (row_below hb HQ11.out)
                            clear c0 d0 c1 d1 c2 d2 c3 d3 c4 d4 c5 d5 c6 d6 c7 d7 c8 d8 c9 d9 c10 d10 c11 d11 c12 d12 c13 d13 c14 d14
                            have c0 := cell_row HP12.out 0
                            have d0 := cell_row HQ12.out 0
                            have c1 := cell_row HP12.out 1
                            have d1 := cell_row HQ12.out 1
                            have c2 := cell_row HP12.out 2
                            have d2 := cell_row HQ12.out 2
                            have c3 := cell_row HP12.out 3
                            have d3 := cell_row HQ12.out 3
                            have c4 := cell_row HP12.out 4
                            have d4 := cell_row HQ12.out 4
                            have c5 := cell_row HP12.out 5
                            have d5 := cell_row HQ12.out 5
                            have c6 := cell_row HP12.out 6
                            have d6 := cell_row HQ12.out 6
                            have c7 := cell_row HP12.out 7
                            have d7 := cell_row HQ12.out 7
                            have c8 := cell_row HP12.out 8
                            have d8 := cell_row HQ12.out 8
                            have c9 := cell_row HP12.out 9
                            have d9 := cell_row HQ12.out 9
                            have c10 := cell_row HP12.out 10
                            have d10 := cell_row HQ12.out 10
                            have c11 := cell_row HP12.out 11
                            have d11 := cell_row HQ12.out 11
                            have c12 := cell_row HP12.out 12
                            have d12 := cell_row HQ12.out 12
                            have c13 := cell_row HP12.out 13
                            have d13 := cell_row HQ12.out 13
                            have c14 := cell_row HP12.out 14
                            have d14 := cell_row HQ12.out 14
                            clear hb
                            go_wp2_with fail
                            refine (HCacts.out _ HB12.out).mono ?_
                            rintro e w13 ⟨rfl, hb⟩
                            have HB13 := Lib.hid (HB12.out.trans (hb.mono HB12.out.size))
                            have HP13 := Lib.hid (row_below hb HP12.out)
                            have HQ13 := Lib.hid (row_below hb HQ12.out)
                            clear c0 d0 c1 d1 c2 d2 c3 d3 c4 d4 c5 d5 c6 d6 c7 d7 c8 d8 c9 d9 c10 d10 c11 d11 c12 d12 c13 d13 c14 d14
                            have c0 := cell_row HP13.out 0
                            have d0 := cell_row HQ13.out 0
                            have c1 := cell_row HP13.out 1
                            have d1 := cell_row HQ13.out 1
                            have c2 := cell_row HP13.out 2
                            have d2 := cell_row HQ13.out 2
                            have c3 := cell_row HP13.out 3
                            have d3 := cell_row HQ13.out 3
                            have c4 := cell_row HP13.out 4
                            have d4 := cell_row HQ13.out 4
                            have c5 := cell_row HP13.out 5
                            have d5 := cell_row HQ13.out 5
                            have c6 := cell_row HP13.out 6
                            have d6 := cell_row HQ13.out 6
                            have c7 := cell_row HP13.out 7
                            have d7 := cell_row HQ13.out 7
                            have c8 := cell_row HP13.out 8
                            have d8 := cell_row HQ13.out 8
                            have c9 := cell_row HP13.out 9
                            have d9 := cell_row HQ13.out 9
                            have c10 := cell_row HP13.out 10
                            have d10 := cell_row HQ13.out 10
                            have c11 := cell_row HP13.out 11
                            have d11 := cell_row HQ13.out 11
                            have c12 := cell_row HP13.out 12
                            have d12 := cell_row HQ13.out 12
                            have c13 := cell_row HP13.out 13
                            have d13 := cell_row HQ13.out 13
                            have c14 := cell_row HP13.out 14
                            have d14 := cell_row HQ13.out 14
                            clear hb
                            go_wp2_with fail
                            refine (HCinss.out _ HB13.out).mono ?_
                            rintro e w14 ⟨rfl, hb⟩
                            have HB14 := Lib.hid (HB13.out.trans (hb.mono HB13.out.size))
                            have HP14 := Lib.hid (row_below hb HP13.out)
                            have HQ14 := Lib.hid (row_below hb HQ13.out)
                            clear c0 d0 c1 d1 c2 d2 c3 d3 c4 d4 c5 d5 c6 d6 c7 d7 c8 d8 c9 d9 c10 d10 c11 d11 c12 d12 c13 d13 c14 d14
                            have c0 := cell_row HP14.out 0
                            have d0 := cell_row HQ14.out 0
                            have c1 := cell_row HP14.out 1
                            have d1 := cell_row HQ14.out 1
                            have c2 := cell_row HP14.out 2
                            have d2 := cell_row HQ14.out 2
                            have c3 := cell_row HP14.out 3
                            have d3 := cell_row HQ14.out 3
                            have c4 := cell_row HP14.out 4
                            have d4 := cell_row HQ14.out 4
                            have c5 := cell_row HP14.out 5
                            have d5 := cell_row HQ14.out 5
                            have c6 := cell_row HP14.out 6
                            have d6 := cell_row HQ14.out 6
                            have c7 := cell_row HP14.out 7
                            have d7 := cell_row HQ14.out 7
                            have c8 := cell_row HP14.out 8
                            have d8 := cell_row HQ14.out 8
                            have c9 := cell_row HP14.out 9
                            have d9 := cell_row HQ14.out 9
                            have c10 := cell_row HP14.out 10
                            have d10 := cell_row HQ14.out 10
                            have c11 := cell_row HP14.out 11
                            have d11 := cell_row HQ14.out 11
                            have c12 := cell_row HP14.out 12
                            have d12 := cell_row HQ14.out 12
                            have c13 := cell_row HP14.out 13
                            have d13 := cell_row HQ14.out 13
                            have c14 := cell_row HP14.out 14
                            have d14 := cell_row HQ14.out 14
                            clear hb
                            go_wp2_with fail
                            go_ret
                            exact ⟨by rw [HNE.out]; rfl, HB14.out⟩
                        · have HNE : Hid (res = false) := Lib.hid (HRes.out.trans (by simp [sameM, hacts]))
                          rw [decide_eq_false hacts] at HCacts
                          clear hacts
                          go_wp2_with fail
                          refine (HCels.out _ HBq.out).mono ?_
                          rintro e w11 ⟨rfl, hb⟩
                          have HB11 := Lib.hid (HBq.out.trans (hb.mono HBq.out.size))
                          have HP11 := Lib.hid (row_below hb HPq.out)
                          have HQ11 := Lib.hid (row_below hb HQq.out)
                          clear c0 d0 c1 d1 c2 d2 c3 d3 c4 d4 c5 d5 c6 d6 c7 d7 c8 d8 c9 d9 c10 d10 c11 d11 c12 d12 c13 d13 c14 d14
                          have c0 := cell_row HP11.out 0
                          have d0 := cell_row HQ11.out 0
                          have c1 := cell_row HP11.out 1
                          have d1 := cell_row HQ11.out 1
                          have c2 := cell_row HP11.out 2
                          have d2 := cell_row HQ11.out 2
                          have c3 := cell_row HP11.out 3
                          have d3 := cell_row HQ11.out 3
                          have c4 := cell_row HP11.out 4
                          have d4 := cell_row HQ11.out 4
                          have c5 := cell_row HP11.out 5
                          have d5 := cell_row HQ11.out 5
                          have c6 := cell_row HP11.out 6
                          have d6 := cell_row HQ11.out 6
                          have c7 := cell_row HP11.out 7
                          have d7 := cell_row HQ11.out 7
                          have c8 := cell_row HP11.out 8
                          have d8 := cell_row HQ11.out 8
                          have c9 := cell_row HP11.out 9
                          have d9 := cell_row HQ11.out 9
                          have c10 := cell_row HP11.out 10
                          have d10 := cell_row HQ11.out 10
                          have c11 := cell_row HP11.out 11
                          have d11 := cell_row HQ11.out 11
                          have c12 := cell_row HP11.out 12
                          have d12 := cell_row HQ11.out 12
                          have c13 := cell_row HP11.out 13
                          have d13 := cell_row HQ11.out 13
                          have c14 := cell_row HP11.out 14
                          have d14 := cell_row HQ11.out 14
                          clear hb
                          go_wp2_with fail
                          refine (HCoxms.out _ HB11.out).mono ?_
                          rintro e w12 ⟨rfl, hb⟩
                          have HB12 := Lib.hid (HB11.out.trans (hb.mono HB11.out.size))
                          have HP12 := Lib.hid (row_below hb HP11.out)
                          have HQ12 := Lib.hid (row_below hb HQ11.out)
                          clear c0 d0 c1 d1 c2 d2 c3 d3 c4 d4 c5 d5 c6 d6 c7 d7 c8 d8 c9 d9 c10 d10 c11 d11 c12 d12 c13 d13 c14 d14
                          have c0 := cell_row HP12.out 0
                          have d0 := cell_row HQ12.out 0
                          have c1 := cell_row HP12.out 1
                          have d1 := cell_row HQ12.out 1
                          have c2 := cell_row HP12.out 2
                          have d2 := cell_row HQ12.out 2
                          have c3 := cell_row HP12.out 3
                          have d3 := cell_row HQ12.out 3
                          have c4 := cell_row HP12.out 4
                          have d4 := cell_row HQ12.out 4
                          have c5 := cell_row HP12.out 5
                          have d5 := cell_row HQ12.out 5
                          have c6 := cell_row HP12.out 6
                          have d6 := cell_row HQ12.out 6
                          have c7 := cell_row HP12.out 7
                          have d7 := cell_row HQ12.out 7
                          have c8 := cell_row HP12.out 8
                          have d8 := cell_row HQ12.out 8
                          have c9 := cell_row HP12.out 9
                          have d9 := cell_row HQ12.out 9
                          have c10 := cell_row HP12.out 10
                          have d10 := cell_row HQ12.out 10
                          have c11 := cell_row HP12.out 11
                          have d11 := cell_row HQ12.out 11
                          have c12 := cell_row HP12.out 12
                          have d12 := cell_row HQ12.out 12
                          have c13 := cell_row HP12.out 13
                          have d13 := cell_row HQ12.out 13
                          have c14 := cell_row HP12.out 14
                          have d14 := cell_row HQ12.out 14
                          clear hb
                          go_wp2_with fail
                          refine (HCacts.out _ HB12.out).mono ?_
                          rintro e w13 ⟨rfl, hb⟩
                          have HB13 := Lib.hid (HB12.out.trans (hb.mono HB12.out.size))
                          have HP13 := Lib.hid (row_below hb HP12.out)
                          have HQ13 := Lib.hid (row_below hb HQ12.out)
                          clear c0 d0 c1 d1 c2 d2 c3 d3 c4 d4 c5 d5 c6 d6 c7 d7 c8 d8 c9 d9 c10 d10 c11 d11 c12 d12 c13 d13 c14 d14
                          have c0 := cell_row HP13.out 0
                          have d0 := cell_row HQ13.out 0
                          have c1 := cell_row HP13.out 1
                          have d1 := cell_row HQ13.out 1
                          have c2 := cell_row HP13.out 2
                          have d2 := cell_row HQ13.out 2
                          have c3 := cell_row HP13.out 3
                          have d3 := cell_row HQ13.out 3
                          have c4 := cell_row HP13.out 4
                          have d4 := cell_row HQ13.out 4
                          have c5 := cell_row HP13.out 5
                          have d5 := cell_row HQ13.out 5
                          have c6 := cell_row HP13.out 6
                          have d6 := cell_row HQ13.out 6
                          have c7 := cell_row HP13.out 7
                          have d7 := cell_row HQ13.out 7
                          have c8 := cell_row HP13.out 8
                          have d8 := cell_row HQ13.out 8
                          have c9 := cell_row HP13.out 9
                          have d9 := cell_row HQ13.out 9
                          have c10 := cell_row HP13.out 10
                          have d10 := cell_row HQ13.out 10
                          have c11 := cell_row HP13.out 11
                          have d11 := cell_row HQ13.out 11
                          have c12 := cell_row HP13.out 12
                          have d12 := cell_row HQ13.out 12
                          have c13 := cell_row HP13.out 13
                          have d13 := cell_row HQ13.out 13
                          have c14 := cell_row HP13.out 14
                          have d14 := cell_row HQ13.out 14
                          clear hb
                          go_wp2_with fail
                          go_ret
                          exact ⟨by rw [HNE.out]; rfl, HB13.out⟩
                      · have HNE : Hid (res = false) := Lib.hid (HRes.out.trans (by simp [sameM, hoxms]))
                        rw [decide_eq_false hoxms] at HCoxms
                        clear hoxms
                        go_wp2_with fail
                        refine (HCels.out _ HBq.out).mono ?_
                        rintro e w11 ⟨rfl, hb⟩
                        have HB11 := Lib.hid (HBq.out.trans (hb.mono HBq.out.size))
                        have HP11 := Lib.hid (row_below hb HPq.out)
                        have HQ11 := Lib.hid (row_below hb HQq.out)
                        clear c0 d0 c1 d1 c2 d2 c3 d3 c4 d4 c5 d5 c6 d6 c7 d7 c8 d8 c9 d9 c10 d10 c11 d11 c12 d12 c13 d13 c14 d14
                        have c0 := cell_row HP11.out 0
                        have d0 := cell_row HQ11.out 0
                        have c1 := cell_row HP11.out 1
                        have d1 := cell_row HQ11.out 1
                        have c2 := cell_row HP11.out 2
                        have d2 := cell_row HQ11.out 2
                        have c3 := cell_row HP11.out 3
                        have d3 := cell_row HQ11.out 3
                        have c4 := cell_row HP11.out 4
                        have d4 := cell_row HQ11.out 4
                        have c5 := cell_row HP11.out 5
                        have d5 := cell_row HQ11.out 5
                        have c6 := cell_row HP11.out 6
                        have d6 := cell_row HQ11.out 6
                        have c7 := cell_row HP11.out 7
                        have d7 := cell_row HQ11.out 7
                        have c8 := cell_row HP11.out 8
                        have d8 := cell_row HQ11.out 8
                        have c9 := cell_row HP11.out 9
                        have d9 := cell_row HQ11.out 9
                        have c10 := cell_row HP11.out 10
                        have d10 := cell_row HQ11.out 10
                        have c11 := cell_row HP11.out 11
                        have d11 := cell_row HQ11.out 11
                        have c12 := cell_row HP11.out 12
                        have d12 := cell_row HQ11.out 12
                        have c13 := cell_row HP11.out 13
                        have d13 := cell_row HQ11.out 13
                        have c14 := cell_row HP11.out 14
                        have d14 := cell_row HQ11.out 14
                        clear hb
                        go_wp2_with fail
                        refine (HCoxms.out _ HB11.out).mono ?_
                        rintro e w12 ⟨rfl, hb⟩
                        have HB12 := Lib.hid (HB11.out.trans (hb.mono HB11.out.size))
                        have HP12 := Lib.hid (row_below hb HP11.out)
                        have HQ12 := Lib.hid (row_below hb HQ11.out)
                        clear c0 d0 c1 d1 c2 d2 c3 d3 c4 d4 c5 d5 c6 d6 c7 d7 c8 d8 c9 d9 c10 d10 c11 d11 c12 d12 c13 d13 c14 d14
                        have c0 := cell_row HP12.out 0
                        have d0 := cell_row HQ12.out 0
                        have c1 := cell_row HP12.out 1
                        have d1 := cell_row HQ12.out 1
                        have c2 := cell_row HP12.out 2
                        have d2 := cell_row HQ12.out 2
                        have c3 := cell_row HP12.out 3
                        have d3 := cell_row HQ12.out 3
                        have c4 := cell_row HP12.out 4
                        have d4 := cell_row HQ12.out 4
                        have c5 := cell_row HP12.out 5
                        have d5 := cell_row HQ12.out 5
                        have c6 := cell_row HP12.out 6
                        have d6 := cell_row HQ12.out 6
                        have c7 := cell_row HP12.out 7
                        have d7 := cell_row HQ12.out 7
                        have c8 := cell_row HP12.out 8
                        have d8 := cell_row HQ12.out 8
                        have c9 := cell_row HP12.out 9
                        have d9 := cell_row HQ12.out 9
                        have c10 := cell_row HP12.out 10
                        have d10 := cell_row HQ12.out 10
                        have c11 := cell_row HP12.out 11
                        have d11 := cell_row HQ12.out 11
                        have c12 := cell_row HP12.out 12
                        have d12 := cell_row HQ12.out 12
                        have c13 := cell_row HP12.out 13
                        have d13 := cell_row HQ12.out 13
                        have c14 := cell_row HP12.out 14
                        have d14 := cell_row HQ12.out 14
                        clear hb
                        go_wp2_with fail
                        go_ret
                        exact ⟨by rw [HNE.out]; rfl, HB12.out⟩
                    · have HNE : Hid (res = false) := Lib.hid (HRes.out.trans (by simp [sameM, hels]))
                      rw [decide_eq_false hels] at HCels
                      clear hels
                      go_wp2_with fail
                      refine (HCels.out _ HBq.out).mono ?_
                      rintro e w11 ⟨rfl, hb⟩
                      have HB11 := Lib.hid (HBq.out.trans (hb.mono HBq.out.size))
                      have HP11 := Lib.hid (row_below hb HPq.out)
                      have HQ11 := Lib.hid (row_below hb HQq.out)
                      clear c0 d0 c1 d1 c2 d2 c3 d3 c4 d4 c5 d5 c6 d6 c7 d7 c8 d8 c9 d9 c10 d10 c11 d11 c12 d12 c13 d13 c14 d14
                      have c0 := cell_row HP11.out 0
                      have d0 := cell_row HQ11.out 0
                      have c1 := cell_row HP11.out 1
                      have d1 := cell_row HQ11.out 1
                      have c2 := cell_row HP11.out 2
                      have d2 := cell_row HQ11.out 2
                      have c3 := cell_row HP11.out 3
                      have d3 := cell_row HQ11.out 3
                      have c4 := cell_row HP11.out 4
                      have d4 := cell_row HQ11.out 4
                      have c5 := cell_row HP11.out 5
                      have d5 := cell_row HQ11.out 5
                      have c6 := cell_row HP11.out 6
                      have d6 := cell_row HQ11.out 6
                      have c7 := cell_row HP11.out 7
                      have d7 := cell_row HQ11.out 7
                      have c8 := cell_row HP11.out 8
                      have d8 := cell_row HQ11.out 8
                      have c9 := cell_row HP11.out 9
                      have d9 := cell_row HQ11.out 9
                      have c10 := cell_row HP11.out 10
                      have d10 := cell_row HQ11.out 10
                      have c11 := cell_row HP11.out 11
                      have d11 := cell_row HQ11.out 11
                      have c12 := cell_row HP11.out 12
                      have d12 := cell_row HQ11.out 12
                      have c13 := cell_row HP11.out 13
                      have d13 := cell_row HQ11.out 13
                      have c14 := cell_row HP11.out 14
                      have d14 := cell_row HQ11.out 14
                      clear hb
                      go_wp2_with fail
                      go_ret
                      exact ⟨by rw [HNE.out]; rfl, HB11.out⟩
              · have hne : r.parts ≠ s.parts := fun e => hln (by rw [e])
                have HNE : Hid (res = false) := Lib.hid (HRes.out.trans (by simp [sameM, hne]))
                have e9 : ((r.parts.length : Int) != (s.parts.length : Int)) = true := by simp; omega
                clear hln hne
                go_enter Tryz.func7, Tryz.ntmps7
                go_wp2_with fail
                refine (HCnums.out _ HB0.out).mono ?_
                rintro e w1 ⟨rfl, hb⟩
                have HB1 := Lib.hid (HB0.out.trans (hb.mono HB0.out.size))
                have HP1 := Lib.hid (row_below hb HP0.out)
                have HQ1 := Lib.hid (row_below hb HQ0.out)
                have c0 := cell_row HP1.out 0
                have d0 := cell_row HQ1.out 0
                have c1 := cell_row HP1.out 1
                have d1 := cell_row HQ1.out 1
                have c2 := cell_row HP1.out 2
                have d2 := cell_row HQ1.out 2
                have c3 := cell_row HP1.out 3
                have d3 := cell_row HQ1.out 3
                have c4 := cell_row HP1.out 4
                have d4 := cell_row HQ1.out 4
                have c5 := cell_row HP1.out 5
                have d5 := cell_row HQ1.out 5
                have c6 := cell_row HP1.out 6
                have d6 := cell_row HQ1.out 6
                have c7 := cell_row HP1.out 7
                have d7 := cell_row HQ1.out 7
                have c8 := cell_row HP1.out 8
                have d8 := cell_row HQ1.out 8
                have c9 := cell_row HP1.out 9
                have d9 := cell_row HQ1.out 9
                have c10 := cell_row HP1.out 10
                have d10 := cell_row HQ1.out 10
                have c11 := cell_row HP1.out 11
                have d11 := cell_row HQ1.out 11
                have c12 := cell_row HP1.out 12
                have d12 := cell_row HQ1.out 12
                have c13 := cell_row HP1.out 13
                have d13 := cell_row HQ1.out 13
                have c14 := cell_row HP1.out 14
                have d14 := cell_row HQ1.out 14
                clear hb
                go_wp2_with fail
                refine (HCds.out _ HB1.out).mono ?_
                rintro e w2 ⟨rfl, hb⟩
                have HB2 := Lib.hid (HB1.out.trans (hb.mono HB1.out.size))
                have HP2 := Lib.hid (row_below hb HP1.out)
                have HQ2 := Lib.hid (row_below hb HQ1.out)
                clear c0 d0 c1 d1 c2 d2 c3 d3 c4 d4 c5 d5 c6 d6 c7 d7 c8 d8 c9 d9 c10 d10 c11 d11 c12 d12 c13 d13 c14 d14
                have c0 := cell_row HP2.out 0
                have d0 := cell_row HQ2.out 0
                have c1 := cell_row HP2.out 1
                have d1 := cell_row HQ2.out 1
                have c2 := cell_row HP2.out 2
                have d2 := cell_row HQ2.out 2
                have c3 := cell_row HP2.out 3
                have d3 := cell_row HQ2.out 3
                have c4 := cell_row HP2.out 4
                have d4 := cell_row HQ2.out 4
                have c5 := cell_row HP2.out 5
                have d5 := cell_row HQ2.out 5
                have c6 := cell_row HP2.out 6
                have d6 := cell_row HQ2.out 6
                have c7 := cell_row HP2.out 7
                have d7 := cell_row HQ2.out 7
                have c8 := cell_row HP2.out 8
                have d8 := cell_row HQ2.out 8
                have c9 := cell_row HP2.out 9
                have d9 := cell_row HQ2.out 9
                have c10 := cell_row HP2.out 10
                have d10 := cell_row HQ2.out 10
                have c11 := cell_row HP2.out 11
                have d11 := cell_row HQ2.out 11
                have c12 := cell_row HP2.out 12
                have d12 := cell_row HQ2.out 12
                have c13 := cell_row HP2.out 13
                have d13 := cell_row HQ2.out 13
                have c14 := cell_row HP2.out 14
                have d14 := cell_row HQ2.out 14
                clear hb
                go_wp2_with fail
                go_ret
                exact ⟨by rw [HNE.out]; rfl, HB2.out⟩
            · have HNE : Hid (res = false) := Lib.hid (HRes.out.trans (by simp [sameM, hds]))
              rw [decide_eq_false hds] at HCds
              clear hds
              go_enter Tryz.func7, Tryz.ntmps7
              go_wp2_with fail
              refine (HCnums.out _ HB0.out).mono ?_
              rintro e w1 ⟨rfl, hb⟩
              have HB1 := Lib.hid (HB0.out.trans (hb.mono HB0.out.size))
              have HP1 := Lib.hid (row_below hb HP0.out)
              have HQ1 := Lib.hid (row_below hb HQ0.out)
              have c0 := cell_row HP1.out 0
              have d0 := cell_row HQ1.out 0
              have c1 := cell_row HP1.out 1
              have d1 := cell_row HQ1.out 1
              have c2 := cell_row HP1.out 2
              have d2 := cell_row HQ1.out 2
              have c3 := cell_row HP1.out 3
              have d3 := cell_row HQ1.out 3
              have c4 := cell_row HP1.out 4
              have d4 := cell_row HQ1.out 4
              have c5 := cell_row HP1.out 5
              have d5 := cell_row HQ1.out 5
              have c6 := cell_row HP1.out 6
              have d6 := cell_row HQ1.out 6
              have c7 := cell_row HP1.out 7
              have d7 := cell_row HQ1.out 7
              have c8 := cell_row HP1.out 8
              have d8 := cell_row HQ1.out 8
              have c9 := cell_row HP1.out 9
              have d9 := cell_row HQ1.out 9
              have c10 := cell_row HP1.out 10
              have d10 := cell_row HQ1.out 10
              have c11 := cell_row HP1.out 11
              have d11 := cell_row HQ1.out 11
              have c12 := cell_row HP1.out 12
              have d12 := cell_row HQ1.out 12
              have c13 := cell_row HP1.out 13
              have d13 := cell_row HQ1.out 13
              have c14 := cell_row HP1.out 14
              have d14 := cell_row HQ1.out 14
              clear hb
              go_wp2_with fail
              refine (HCds.out _ HB1.out).mono ?_
              rintro e w2 ⟨rfl, hb⟩
              have HB2 := Lib.hid (HB1.out.trans (hb.mono HB1.out.size))
              have HP2 := Lib.hid (row_below hb HP1.out)
              have HQ2 := Lib.hid (row_below hb HQ1.out)
              clear c0 d0 c1 d1 c2 d2 c3 d3 c4 d4 c5 d5 c6 d6 c7 d7 c8 d8 c9 d9 c10 d10 c11 d11 c12 d12 c13 d13 c14 d14
              have c0 := cell_row HP2.out 0
              have d0 := cell_row HQ2.out 0
              have c1 := cell_row HP2.out 1
              have d1 := cell_row HQ2.out 1
              have c2 := cell_row HP2.out 2
              have d2 := cell_row HQ2.out 2
              have c3 := cell_row HP2.out 3
              have d3 := cell_row HQ2.out 3
              have c4 := cell_row HP2.out 4
              have d4 := cell_row HQ2.out 4
              have c5 := cell_row HP2.out 5
              have d5 := cell_row HQ2.out 5
              have c6 := cell_row HP2.out 6
              have d6 := cell_row HQ2.out 6
              have c7 := cell_row HP2.out 7
              have d7 := cell_row HQ2.out 7
              have c8 := cell_row HP2.out 8
              have d8 := cell_row HQ2.out 8
              have c9 := cell_row HP2.out 9
              have d9 := cell_row HQ2.out 9
              have c10 := cell_row HP2.out 10
              have d10 := cell_row HQ2.out 10
              have c11 := cell_row HP2.out 11
              have d11 := cell_row HQ2.out 11
              have c12 := cell_row HP2.out 12
              have d12 := cell_row HQ2.out 12
              have c13 := cell_row HP2.out 13
              have d13 := cell_row HQ2.out 13
              have c14 := cell_row HP2.out 14
              have d14 := cell_row HQ2.out 14
              clear hb
              go_wp2_with fail
              go_ret
              exact ⟨by rw [HNE.out]; rfl, HB2.out⟩
          · have HNE : Hid (res = false) := Lib.hid (HRes.out.trans (by simp [sameM, hnums]))
            rw [decide_eq_false hnums] at HCnums
            clear hnums
            go_enter Tryz.func7, Tryz.ntmps7
            go_wp2_with fail
            refine (HCnums.out _ HB0.out).mono ?_
            rintro e w1 ⟨rfl, hb⟩
            have HB1 := Lib.hid (HB0.out.trans (hb.mono HB0.out.size))
            have HP1 := Lib.hid (row_below hb HP0.out)
            have HQ1 := Lib.hid (row_below hb HQ0.out)
            have c0 := cell_row HP1.out 0
            have d0 := cell_row HQ1.out 0
            have c1 := cell_row HP1.out 1
            have d1 := cell_row HQ1.out 1
            have c2 := cell_row HP1.out 2
            have d2 := cell_row HQ1.out 2
            have c3 := cell_row HP1.out 3
            have d3 := cell_row HQ1.out 3
            have c4 := cell_row HP1.out 4
            have d4 := cell_row HQ1.out 4
            have c5 := cell_row HP1.out 5
            have d5 := cell_row HQ1.out 5
            have c6 := cell_row HP1.out 6
            have d6 := cell_row HQ1.out 6
            have c7 := cell_row HP1.out 7
            have d7 := cell_row HQ1.out 7
            have c8 := cell_row HP1.out 8
            have d8 := cell_row HQ1.out 8
            have c9 := cell_row HP1.out 9
            have d9 := cell_row HQ1.out 9
            have c10 := cell_row HP1.out 10
            have d10 := cell_row HQ1.out 10
            have c11 := cell_row HP1.out 11
            have d11 := cell_row HQ1.out 11
            have c12 := cell_row HP1.out 12
            have d12 := cell_row HQ1.out 12
            have c13 := cell_row HP1.out 13
            have d13 := cell_row HQ1.out 13
            have c14 := cell_row HP1.out 14
            have d14 := cell_row HQ1.out 14
            clear hb
            go_wp2_with fail
            go_ret
            exact ⟨by rw [HNE.out]; rfl, HB1.out⟩
        · have HNE : Hid (res = false) := Lib.hid (HRes.out.trans (by simp [sameM, hflags]))
          have eflags : (flags == zflags) = false := by simp [hflags]
          have fflags : (flags != zflags) = true := by simp [hflags]
          clear hflags
          go_enter Tryz.func7, Tryz.ntmps7
          go_wp2_with fail
          go_ret
          exact ⟨by rw [HNE.out]; rfl, HB0.out⟩
      · have HNE : Hid (res = false) := Lib.hid (HRes.out.trans (by simp [sameM, hkind]))
        have ekind : (kind == zkind) = false := by simp [hkind]
        have fkind : (kind != zkind) = true := by simp [hkind]
        clear hkind
        go_enter Tryz.func7, Tryz.ntmps7
        go_wp2_with fail
        go_ret
        exact ⟨by rw [HNE.out]; rfl, HB0.out⟩
    · have HNE : Hid (res = false) := Lib.hid (HRes.out.trans (by simp [sameM, hxid]))
      have exid : (xid == zxid) = false := by simp [hxid]
      have fxid : (xid != zxid) = true := by simp [hxid]
      clear hxid
      go_enter Tryz.func7, Tryz.ntmps7
      go_wp2_with fail
      go_ret
      exact ⟨by rw [HNE.out]; rfl, HB0.out⟩
  · have HNE : Hid (res = false) := Lib.hid (HRes.out.trans (by simp [sameM, hty]))
    have ety : (ty == zty) = false := by simp [hty]
    have fty : (ty != zty) = true := by simp [hty]
    clear hty
    go_enter Tryz.func7, Tryz.ntmps7
    go_wp2_with fail
    go_ret
    exact ⟨by rw [HNE.out]; rfl, HB0.out⟩
end Go.Proofs.YtcebcncpbedkmaaGreat
