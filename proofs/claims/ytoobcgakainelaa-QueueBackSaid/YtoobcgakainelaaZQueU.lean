/- The walk of the document's Decode (18). Conditions: at most 10^6 bytes. -/
import Derived.Test.YtoobcgakainelaaZQueT
namespace Go.Proofs.Ytoobcgakainelaa
open Go.RowKit

theorem stepQ_size {bs : List Int} (h : (stepQ bs).2.2 = 0) : (shQ.one bs).2.2 = 0 ∧ propQ (shQ.one bs).1 = ((stepQ bs).1, 0) ∧ (stepQ bs).2.1 = (shQ.one bs).2.1 ∧ 4 ≤ (stepQ bs).2.1 ∧ (stepQ bs).2.1 ≤ bs.length := by
  unfold stepQ at h ⊢
  by_cases h1 : (shQ.one bs).2.2 ≠ 0
  · rw [if_pos h1] at h; exact absurd h h1
  · rw [if_neg h1] at h ⊢
    by_cases h2 : (propQ (shQ.one bs).1).2 ≠ 0
    · rw [if_pos h2] at h; exact absurd h h2
    · rw [if_neg h2]
      have h1' : (shQ.one bs).2.2 = 0 := by simpa using h1
      have h2' : (propQ (shQ.one bs).1).2 = 0 := by simpa using h2
      have := shQ.one_ok h1'
      exact ⟨h1', by rw [← h2'], rfl, this.2.1, this.2.2⟩
theorem Propping.failS {bs rest : List Int} {acc : List Prp} (h : Propping bs acc rest) (h0 : 0 < rest.length) (h1 : (stepQ rest).2.2 ≠ 0) : propsQ bs = ([], (stepQ rest).2.2) := by
  unfold stepQ at h1 ⊢
  by_cases h2 : (shQ.one rest).2.2 ≠ 0
  · rw [if_pos h2]; exact h.fails h0 h2
  · rw [if_neg h2] at h1 ⊢
    by_cases h3 : (propQ (shQ.one rest).1).2 ≠ 0
    · rw [if_pos h3]; exact h.failp h0 (by simpa using h2) h3
    · rw [if_neg h3] at h1; exact absurd rfl h1
theorem Propping.nextS {bs rest : List Int} {acc : List Prp} (h : Propping bs acc rest) (h0 : 0 < rest.length) (h1 : (stepQ rest).2.2 = 0) : Propping bs (acc ++ [(stepQ rest).1]) (rest.drop (stepQ rest).2.1) := by
  obtain ⟨h2, h3, h4, -⟩ := stepQ_size h1
  have := h.next h0 h2 (by rw [h3])
  rw [h3] at this
  rw [h4]
  exact this
theorem DecE.fail {r rest : List Int} {acc : List Que} {e : Int} (h : DecE r acc rest 0) (h0 : 0 < rest.length) (he : (oneQ rest).2 = e) (h1 : e ≠ 0) : decQ r = ([], e) := by
  have hd := DecE.step (q := (0, 0, [])) (rest' := []) h h0 he.symm (fun h => absurd h h1)
  rw [decQ_done (hd.done (fun h => absurd h h1)), if_pos h1]

/-- What the document's Decode hands back. -/
def GotDecR (bs : List Int) (w : World) (e : Ending) (w' : World) : Prop :=
  ∃ v, e = .returned (.tuple #[v, .int .i64 (decQ bs).2]) ∧ OutQr w.heap.size w' v (decQ bs).1 ∧ Below w.heap.size w w'
theorem GotDecR.none {bs : List Int} {e : Int} {w w' : World} (h : decQ bs = ([], e)) (hb : Below w.heap.size w w') : GotDecR bs w (.returned (.tuple #[.slice Option.none 0 0, .int .i64 e])) w' := by
  unfold GotDecR
  rw [h]
  exact ⟨_, rfl, OutG.nil _ _ _ _ _, hb⟩

set_option maxRecDepth 100000
set_option maxHeartbeats 8000000
theorem ref_qdecode {v : Value} {bs : List Int} {w : World} (h : Ints .u8 w v bs) (hl : bs.length ≤ 1000000) : Calls Try.prog 23 #[v] w (GotDecR bs w) := by
  have HI := Lib.hid h
  obtain ⟨av, capv, bb, ov, rfl, -⟩ := h.open
  clear h
  go_enter Try.func23, Try.ntmps23
  go_wp2_with fail
  go_loopw [0, 5] (fun v0 v wr => ∃ (rest : List Int) (pre : List Que), Hid (Ints .u8 w v0 rest) ∧ Hid (OutQr w.heap.size wr v pre) ∧ Hid (Below w.heap.size w wr) ∧ Hid (DecE bs pre rest 0) ∧ pre.length + rest.length ≤ 1000000) (fun v0 _ _ => lenV v0)
  case atStart => exact ⟨bs, [], HI.out, OutG.nil _ _ _ _ _, Below.refl _ _, DecE.start _, by simp; omega⟩
  case round =>
    obtain ⟨wo, rfl⟩ : ∃ wo : World, wo = wr := ⟨_, rfl⟩
    obtain ⟨rest, pre, HI, HO, HB, HD, hcnt⟩ := hrel
    obtain ⟨a0, cap0, b0, off0, rfl, -⟩ := HI.out.open
    obtain ⟨ar, capr, rfl⟩ := OutG.slice HO.out
    by_cases h0 : rest.length = 0
    · have hdn := decQ_done (HD.out.done (fun _ => h0))
      rw [if_neg (by decide)] at hdn
      have e1 : ¬ (0 : Int) < (rest.length : Int) := by omega
      clear h0
      by_cases hbig : 65528 < bs.length
      · rw [if_pos hbig] at hdn
        have HDn := Lib.hid hdn
        have e2 : (65528 : Int) < (bs.length : Int) := by omega
        clear hdn hbig
        go_wp2_with fail
        go_ret2
        exact GotDecR.none HDn.out HB.out
      · rw [if_neg hbig] at hdn
        have HDn := Lib.hid hdn
        have e2 : ¬ (65528 : Int) < (bs.length : Int) := by omega
        clear hdn hbig
        go_wp2_with fail
        go_ret2
        unfold GotDecR
        rw [HDn.out]
        exact ⟨_, rfl, HO.out, HB.out⟩
    · have hr0 : 0 < rest.length := by omega
      have e1 : (0 : Int) < (rest.length : Int) := by omega
      have HFail := Lib.hid (fun (e : Int) (he : (oneQ rest).2 = e) (h1 : e ≠ 0) => HD.out.fail hr0 he h1)
      by_cases h16 : rest.length < 16
      · have HN := Lib.hid (HFail.out 263 (by rw [oneQ_short h16]) (by decide))
        have e2 : (rest.length : Int) < 16 := by omega
        clear h0 h16
        go_wp2_with fail
        go_ret2
        exact GotDecR.none HN.out HB.out
      · have h16 : 16 ≤ rest.length := by omega
        have e2 : ¬ (rest.length : Int) < 16 := by omega
        have hGt := ref_get _ _ [4, 4, 2, -6] rest (wo.alloc (.cells #[.int .i64 4, .int .i64 4, .int .i64 2, .int .i64 (-6)] 3)) (Ints.lit .i64 wo 3 [4, 4, 2, -6] _ rfl (by decide) (by decide)) ((HI.out.below HB.out).below (below_alloc2 _))
        have hgu := getS_u64 (ws := [4, 4, 2, -6]) HI.out.u8
        clear h0
        rcases hdr_cases HI.out.u8 h16 with ho | ⟨a, b, n, hh, hn, ha, hb', hz⟩
        · have HN := Lib.hid (HFail.out 269 (by rw [oneQ_odd h16 ho]) (by decide))
          unfold GotS at hGt
          rw [show getS [4, 4, 2, -6] rest = ([], 2) from ho] at hGt
          have HGt := Lib.hid hGt
          clear hGt hgu ho h16
          go_wp2_with fail
          refine HGt.out.mono ?_
          rintro e w1 ⟨vg, rfl, ho, hb⟩
          have HB1 := Lib.hid (HB.out.trans (((below_alloc2 _).trans (hb.mono (by simp))).mono HB.out.size))
          obtain ⟨ag, capg, rfl⟩ := own_slice ho
          clear ho hb
          go_wp2_with fail
          go_ret2
          exact GotDecR.none HN.out HB1.out
        · unfold GotS at hGt
          rw [show getS [4, 4, 2, -6] rest = ([(a : Int), (b : Int), (n : Int)], 0) from hh] at hGt hgu
          have HGt := Lib.hid hGt
          have HGu := Lib.hid hgu
          clear hGt hgu
          by_cases hbad : n < 16 ∨ n % 8 ≠ 0 ∨ rest.length < n
          · have HN := Lib.hid (HFail.out 263 (by rw [oneQ_bad h16 hh (by rw [hz]; exact hbad)]) (by decide))
            have hbad' : n < 16 ∨ (16 ≤ n ∧ n % 8 ≠ 0) ∨ (16 ≤ n ∧ n % 8 = 0 ∧ rest.length < n) := by omega
            clear hh hbad hz h16
            rcases hbad' with h1 | ⟨h1, h2⟩ | ⟨h1, h2, h3⟩
            · have e3 : (n : Int) < 16 := by omega
              clear h1
              go_wp2_with fail
              refine HGt.out.mono ?_
              rintro e w1 ⟨vg, rfl, ho, hb⟩
              have HB1 := Lib.hid (HB.out.trans (((below_alloc2 _).trans (hb.mono (by simp))).mono HB.out.size))
              obtain ⟨gg, capg, rfl, -, -⟩ := own_pos ho (by simp)
              obtain ⟨l0, l1, l2⟩ := three_cells (Ints.of_own ho HGu.out.wf) (by simp)
              clear ho hb
              go_wp2_with fail
              go_ret2
              exact GotDecR.none HN.out HB1.out
            · have e3 : ¬ (n : Int) < 16 := by omega
              have e4 : ¬ (n : Int) % 8 = 0 := by omega
              clear h1 h2
              go_wp2_with fail
              refine HGt.out.mono ?_
              rintro e w1 ⟨vg, rfl, ho, hb⟩
              have HB1 := Lib.hid (HB.out.trans (((below_alloc2 _).trans (hb.mono (by simp))).mono HB.out.size))
              obtain ⟨gg, capg, rfl, -, -⟩ := own_pos ho (by simp)
              obtain ⟨l0, l1, l2⟩ := three_cells (Ints.of_own ho HGu.out.wf) (by simp)
              clear ho hb
              go_wp2_with fail
              go_ret2
              exact GotDecR.none HN.out HB1.out
            · have e3 : ¬ (n : Int) < 16 := by omega
              have e4 : (n : Int) % 8 = 0 := by omega
              have e5 : (rest.length : Int) < (n : Int) := by omega
              clear h1 h2 h3
              go_wp2_with fail
              refine HGt.out.mono ?_
              rintro e w1 ⟨vg, rfl, ho, hb⟩
              have HB1 := Lib.hid (HB.out.trans (((below_alloc2 _).trans (hb.mono (by simp))).mono HB.out.size))
              obtain ⟨gg, capg, rfl, -, -⟩ := own_pos ho (by simp)
              obtain ⟨l0, l1, l2⟩ := three_cells (Ints.of_own ho HGu.out.wf) (by simp)
              clear ho hb
              go_wp2_with fail
              go_ret2
              exact GotDecR.none HN.out HB1.out
          · have hc : 16 ≤ n := by omega
            have hg8 : n % 8 = 0 := by omega
            have hnl : n ≤ rest.length := by omega
            have HOn := Lib.hid (oneQ_good h16 hh (by rw [hz]; exact hc) (by rw [hz]; exact hg8) (by rw [hz]; exact hnl))
            rw [hz] at HOn
            have HZ := Lib.hid hz
            have e3 : decide ((n : Int) < 16) = false := decide_eq_false (by omega)
            have e4 : (n : Int) % 8 = 0 := by omega
            have e5 : decide ((rest.length : Int) < (n : Int)) = false := decide_eq_false (by omega)
            have e5b : decide (rest.length < n) = false := decide_eq_false (by omega)
            have e2 : decide ((rest.length : Int) < 16) = false := decide_eq_false (by omega)
            have e1 : decide ((0 : Int) < (rest.length : Int)) = true := decide_eq_true (by omega)
            have HWa : Hid ((Lit.int .u64 (a : Int)).wf = true) := wf_u64n (by omega) (by omega)
            have HWb : Hid ((Lit.int .u64 (b : Int)).wf = true) := wf_u64n (by omega) (by omega)
            clear hh hz hbad h16
            go_wp2_with fail
            refine HGt.out.mono ?_
            rintro e w1 ⟨vg, rfl, ho, hb⟩
            have HB1 := Lib.hid (HB.out.trans (((below_alloc2 _).trans (hb.mono (by simp))).mono HB.out.size))
            obtain ⟨gg, capg, rfl, -, -⟩ := own_pos ho (by simp)
            obtain ⟨l0, l1, l2⟩ := three_cells (Ints.of_own ho HGu.out.wf) (by simp)
            have HG3 := Lib.hid (Ints.of_own ho HGu.out.wf)
            have hsw : wo.heap.size ≤ w1.heap.size := by have := hb.size; simp at this; omega
            have HBo := Lib.hid ((below_alloc2 _).trans (hb.mono (by simp)))
            clear ho hb
            obtain ⟨m0, m1, -⟩ := three_cells (HG3.out.alloc (.cells #[.int .u64 0, .int .u64 0, .slice none 0 0] 79)) (by simp)
            go_wp2_with fail
            go_region
            go_wp2_with fail
            have HQ2 := Lib.hid (show ((w1.alloc (.cells #[.int .u64 (a : Int), .int .u64 (b : Int), .slice none 0 0] 79)).drew).heap[w1.heap.size]? = some (.cells #[.int .u64 (a : Int), .int .u64 (b : Int), .slice none 0 0] 79 (0, 0)) from heap_alloc_new w1 _)
            have HB2 := Lib.hid (below_drewN (HBo.out.trans ((below_alloc2 (w := w1) (.cells #[.int .u64 (a : Int), .int .u64 (b : Int), .slice none 0 0] 79)).mono HBo.out.size)) 1)
            change Hid (Below wo.heap.size wo (w1.alloc (.cells #[.int .u64 (a : Int), .int .u64 (b : Int), .slice none 0 0] 79)).drew) at HB2
            clear l0 l1 l2 m0 m1 HG3 HBo HB1 e4
            generalize (w1.alloc (.cells #[.int .u64 (a : Int), .int .u64 (b : Int), .slice none 0 0] 79)).drew = w2 at HQ2 HB2 ⊢
            generalize w1.heap.size = Q at HQ2 hsw ⊢
            go_loopw [10] (fun i wi => ∃ (j : Nat) (pv : Value) (ps : List Prp), i = .int .i64 j ∧ 16 ≤ j ∧ j ≤ n ∧ Hid (wi.heap[Q]? = some (.cells #[.int .u64 (a : Int), .int .u64 (b : Int), pv] 79 (0, 0))) ∧ Hid (OutPr wo.heap.size wi pv ps) ∧ Hid (Below wo.heap.size wo wi) ∧ Hid (Propping ((rest.take n).drop 16) ps ((rest.take n).drop j)) ∧ ps.length + (n - j) ≤ 65536) (fun i _ => n - (intOf i).toNat)
            case atStart => exact ⟨16, .slice none 0 0, [], rfl, by omega, hc, HQ2.out, OutG.nil _ _ _ _ _, HB2.out, Propping.start _, by simp; omega⟩
            case round =>
              obtain ⟨wi, rfl⟩ : ∃ wi : World, wi = wr := ⟨_, rfl⟩
              obtain ⟨j, pv, ps, rfl, hj16, hjn, HQ, HOp, HBi, HPr, hcn⟩ := hrel
              obtain ⟨ap, capp, rfl⟩ := OutG.slice HOp.out
              have HBw := Lib.hid (HB.out.trans (HBi.out.mono HB.out.size))
              have q0 := cell_row HQ.out 0
              have q1 := cell_row HQ.out 1
              have q2 := cell_row HQ.out 2
              have z2 := frozen_row HQ.out 2
              by_cases hjt : j < n
              · have e6 : (j : Int) < (n : Int) := by omega
                obtain ⟨A, hsl, hcut⟩ := slice_lohi Try.underlying25 info_u8 HI.out (j : Int) (n : Int) j n rfl rfl hjn hnl
                have hlj : ((rest.take n).drop j).length = n - j := by rw [List.length_drop, List.length_take]; omega
                have HPp := Lib.hid (ref_property (hcut.below HBw.out) (by rw [hlj]; omega))
                have HFl := Lib.hid (fun h => HPr.out.failS (by rw [hlj]; omega) h)
                have HNx := Lib.hid (fun h => HPr.out.nextS (by rw [hlj]; omega) h)
                have HSz := Lib.hid (fun h => stepQ_size (bs := (rest.take n).drop j) h)
                unfold GotPrpt at HPp
                rw [hlj] at HSz
                clear hcut hjt
                go_wp2_with fail
                refine HPp.out.mono ?_
                clear HPp
                rintro e w4 ⟨dv, rfl, hps, hb⟩
                generalize stepQ ((rest.take n).drop j) = sq at hps HFl HNx HSz ⊢
                obtain ⟨⟨pt, pa, pd⟩, k, er⟩ := sq
                simp only at hps HFl HNx HSz ⊢
                have HB4 := Lib.hid (HBi.out.trans (hb.mono HBi.out.size))
                have HQ4 := Lib.hid (row_below hb HQ.out)
                have HO4 := Lib.hid (OutG.below PrpS.kind HOp.out hb)
                have HP4 := Lib.hid (PrpS.kind.low hps HBi.out.size)
                have hdv : ∃ ad capd, dv = .slice ad pd.length capd := by
                  obtain ⟨dv', h1, h2, -⟩ := hps
                  obtain ⟨ad, capd, bd, od, h3, -⟩ := h2.open
                  injection h1 with _ h1
                  injection h1 with _ h1
                  injection h1 with h1 _
                  exact ⟨ad, capd, h1.trans h3⟩
                obtain ⟨ad, capd, rfl⟩ := hdv
                clear hps hb hsl
                have HB5 := Lib.hid (HB4.out.trans ((below_alloc2 (w := w4) (.cells #[.int .i64 pt, .int .u64 pa, .slice ad pd.length capd] 81)).mono HB4.out.size))
                have HQ5 := Lib.hid (row_below (below_alloc2 (.cells #[.int .i64 pt, .int .u64 pa, .slice ad pd.length capd] 81)) HQ4.out)
                have HO5 := Lib.hid (OutG.below PrpS.kind HO4.out (below_alloc2 (.cells #[.int .i64 pt, .int .u64 pa, .slice ad pd.length capd] 81)))
                have HP5 := Lib.hid (PrpS.kind.agree HP4.out (agree_below (below_alloc2 (.cells #[.int .i64 pt, .int .u64 pa, .slice ad pd.length capd] 81))))
                have HY5 := Lib.hid (heap_alloc_new w4 (.cells #[.int .i64 pt, .int .u64 pa, .slice ad pd.length capd] 81))
                clear q0 q1 q2 z2
                by_cases he : er ≠ 0
                · have e7 : (er != 0) = true := by simpa using he
                  have HN := Lib.hid (HFail.out er (by rw [HOn.out, HFl.out he, if_pos he]) he)
                  clear he HFl HNx HSz
                  go_wp2_with fail
                  go_ret2
                  exact GotDecR.none HN.out (HB.out.trans (HB5.out.mono HB.out.size))
                · have he : er = 0 := by simpa using he
                  subst he
                  have HNx' := Lib.hid (HNx.out rfl)
                  have hsz := (HSz.out rfl).2.2.2
                  clear HFl HNx HSz
                  have q2 := cell_row HQ5.out 2
                  have z2 := frozen_row HQ5.out 2
                  have y0 := cell_row HY5.out 0
                  have y1 := cell_row HY5.out 1
                  have y2 := cell_row HY5.out 2
                  have hk4 := hsz.1
                  have hkl : k ≤ n - j := hsz.2
                  go_wp2_with (at_builtin; refine wpList_append_out PrpS.kind rfl _ _ _ rfl wo.heap.size 81 (by decide) (.agg #[.int .i64 0, .int .u64 0, .slice none 0 0]) 3 40 Try.underlying77 info_prop rfl (by decide) (.slice ap ps.length capp) ps (pt, pa, pd) rfl HO5.out [.int .i64 pt, .int .u64 pa, .slice ad pd.length capd] (by rw [World.size_alloc]; rfl) rfl (by simp [Value.oneCell']) (by unfold maxLen; omega) (by omega) HB5.out.size HP5.out ?_; intro v6 w6 hown hg; have HO6 := Lib.hid hown; have HB6 := Lib.hid (by obtain ⟨xs, how, -⟩ := HO5.out; exact own_grown HB5.out HB5.out.size how hg rfl); have HQ6 := Lib.hid ((hg.block Q (Array.getElem?_eq_some_iff.1 HQ5.out).1 (fun e => by obtain ⟨xs, how, -⟩ := HO5.out; exact NotTy.of_own how (by decide) _ _ _ e.symm HQ5.out)).trans HQ5.out); obtain ⟨a6, cap6, rfl⟩ := OutG.slice hown; clear hown hg q2 z2 y0 y1 y2; have q2 := cell_row HQ6.out 2; have z2 := frozen_row HQ6.out 2)
                  go_roundw
                  case rel =>
                    have hg := grown_put w6 Q 2 (.slice a6 (ps.length + 1) cap6)
                    rw [show (ps ++ [(pt, pa, pd)]).length = ps.length + 1 by simp] at HO6
                    exact ⟨j + k, .slice a6 (ps.length + 1) cap6, ps ++ [(pt, pa, pd)], by go_num, by omega, by omega, (heap_put HQ6.out 2 _).trans (by rfl), OutG.kept PrpS.kind HO6.out hg (fun t ht => NotTy.of_block HQ6.out (by rcases ht with rfl | rfl <;> decide)), below_row HB6.out HB6.out.size hg hsw, by rw [← List.drop_drop]; exact HNx'.out, by simp; omega⟩
                  case measure => simp [intOf]; omega
              · obtain rfl : j = n := by omega
                have hpd := HPr.out.done (by rw [List.length_drop, List.length_take]; omega)
                have HOk : Hid (oneQ rest = (((a : Int), (b : Int), ps), 0)) := by show _ = _; rw [HOn.out, hpd]; rfl
                have HOi := Lib.hid (OutG.below QueS.kind HO.out HBi.out)
                have HEi : Hid (QueS w.heap.size wi ((a : Int), (b : Int), ps) [.int .u64 (a : Int), .int .u64 (b : Int), .slice ap ps.length capp]) := ⟨_, rfl, OutG.low PrpS.kind HOp.out HB.out.size, HWa.out, HWb.out⟩
                obtain ⟨A, hsl, hcut, -⟩ := slice_from' Try.underlying25 info_u8 HI.out (j : Int) j rfl hnl
                have HCut := Lib.hid hcut
                have e6 : ¬ (j : Int) < (j : Int) := by omega
                clear hcut hpd hjt
                go_wp2_with (at_builtin; refine wpList_append_out QueS.kind rfl _ _ _ rfl w.heap.size 79 (by decide) (.agg #[.int .u64 0, .int .u64 0, .slice none 0 0]) 3 40 Try.underlying54 info_queue rfl (by decide) (.slice ar pre.length capr) pre ((a : Int), (b : Int), ps) rfl HOi.out [.int .u64 (a : Int), .int .u64 (b : Int), .slice ap ps.length capp] rfl rfl (by simp [Value.oneCell']) (by unfold maxLen; omega) (by omega) HBw.out.size HEi.out ?_; intro v7 w7 hown hg; have HO7 := Lib.hid hown; have HB7 := Lib.hid (by obtain ⟨xs, how, -⟩ := HOi.out; exact own_grown HBw.out HBw.out.size how hg rfl); obtain ⟨a7, cap7, rfl⟩ := OutG.slice hown; clear hown hg)
                rw [show (pre ++ [((a : Int), (b : Int), ps)]).length = pre.length + 1 by simp] at HO7
                exact ⟨⟨rest.drop j, pre ++ [((a : Int), (b : Int), ps)], HCut.out, HO7.out, HB7.out, DecE.step HD.out hr0 (by rw [HOk.out]) (fun _ => ⟨by rw [HOk.out], by rw [HZ.out]⟩), by simp; omega⟩, by simp [lenV]; omega⟩
end Go.Proofs.Ytoobcgakainelaa
