/- The walk of the document's Read of a hello. Conditions: the argument reads as bytes, not too many. -/
import Derived.Test.YtcebcncpbedkmaaZHelD
namespace Go.Proofs.Ytcebcncpbedkmaa
open Go Go.RowKit
set_option maxRecDepth 100000
set_option maxHeartbeats 8000000

theorem ref_read21 {t : Int} {va : Value} {bs : List Int} {w : World} (h : Ints .u8 w va bs) (hl : bs.length ≤ 100000) :
    Calls Try.prog 14 #[.int .i64 t, va] w (GotRead (readH t bs) w) := by
  have HB0 := Lib.hid (below_alloc2 (w := w) (.cells (msgE (.slice none 0 0)) 35))
  have HR0 := Lib.hid (heap_alloc_new w (.cells (msgE (.slice none 0 0)) 35))
  have HV0 := Lib.hid (h.below HB0.out)
  have hcs := readH_cases t bs
  have hfew := Sh.cut_few shH bs
  obtain ⟨av, cv, bvv, ov, rfl, -⟩ := h.open
  have hs0 : w.heap.size + 1 ≤ (w.alloc (.cells (msgE (.slice none 0 0)) 35)).heap.size := by simp
  clear h
  by_cases ht : t = 0
  · subst ht
    go_enter Try.func14, Try.ntmps14
    go_wp2_with fail
    generalize w.alloc (.cells (msgE (.slice none 0 0)) 35) = w0 at HB0 HR0 HV0 hs0 ⊢
    have hc := ref_cut (s := shH) HV0.out (by omega)
    unfold GotCutR at hc
    generalize shH.cut bs = j at hc hcs hfew
    obtain ⟨items, je⟩ := j
    simp only at hc hcs hfew
    refine hc.mono ?_
    rintro e w2 ⟨vi, rfl, ho, hb⟩
    have HB2 := Lib.hid (HB0.out.trans (hb.mono (by omega)))
    have HR2 := Lib.hid (row_below hb HR0.out)
    have HI2 := Lib.hid (OutG.low ItmO.kind ho.owns (show w.heap.size ≤ w0.heap.size by omega))
    have hs2 : w.heap.size + 1 ≤ w2.heap.size := Nat.le_trans hs0 hb.size
    clear hb HB0 HR0 ho hc HV0
    obtain ⟨ai, ci, rfl⟩ := OutG.slice HI2.out
    by_cases hj : je = 0
    · subst hj
      have HM3 := Lib.hid (heap_alloc_new w2 (.cells (msgE (.slice none 0 0)) 35))
      have HR3 := Lib.hid (row_below (below_alloc2 (w := w2) (.cells (msgE (.slice none 0 0)) 35)) HR2.out)
      have HB3 := Lib.hid (HB2.out.trans ((below_alloc2 (w := w2) (.cells (msgE (.slice none 0 0)) 35)).mono (by omega)))
      have HI3 := Lib.hid (OutG.below ItmO.kind HI2.out (below_alloc2 (w := w2) (.cells (msgE (.slice none 0 0)) 35)))
      have hmx : items.length ≤ maxLen := by obtain ⟨_, _, _, _, e, h1, h2, -⟩ := owns_open HI3.out; omega
      unfold maxLen at hmx
      have HCs := Lib.hid hcs
      clear hcs HR2 HB2 HI2
      go_wp2_with fail
      go_loopw [9] (fun i wr => ∃ (k : Nat) (vr : Value), k ≤ items.length ∧ i = .int .i64 k ∧ Hid (wr.heap[w2.heap.size]? = some (.cells (msgE vr) 35 (0, 0))) ∧ Hid (wr.heap[w.heap.size]? = some (.cells (msgE (.slice none 0 0)) 35 (0, 0))) ∧ Hid (OutG ItmO 54 2 w.heap.size wr vr (items.take k)) ∧ Hid (OutG ItmO 85 2 w.heap.size wr (.slice ai items.length ci) items) ∧ Hid (Below w.heap.size w wr) ∧ Hid ((items.take k).any wrongE = false)) (fun i _ => items.length - (intOf i).toNat)
      case atStart => exact ⟨0, .slice none 0 0, by omega, rfl, HM3.out, HR3.out, OutG.nil _ _ _ _ _, HI3.out, HB3.out, rfl⟩
      case round =>
        obtain ⟨k, vr, hk, rfl, HM, HR, HO, HI, HB, HW⟩ := hrel
        have hln : (items.take k).length = k := by rw [List.length_take]; omega
        obtain ⟨ar, capr, rfl⟩ := OutG.slice HO.out
        rw [hln] at HM HO
        have hsr := HB.out.size
        have hsm := (Array.getElem?_eq_some_iff.1 HM.out).1
        by_cases hlt : k < items.length
        · obtain ⟨a4, c4, b4, o4, e4, -, -, ha4, hit⟩ := owns_open HI.out
          injection e4 with e4 e5 e6
          subst e4 e6
          obtain rfl := ha4 (by omega)
          obtain ⟨⟨t, bs'⟩, hx⟩ : ∃ x, items[k]? = some x := ⟨_, List.getElem?_eq_getElem hlt⟩
          obtain ⟨bv, x0, x1, hE⟩ := hit k t bs' hx
          have HSn : Hid (items.take (k + 1) = items.take k ++ [(t, bs')]) := by show _ = _; rw [take_snoc' hx]
          obtain ⟨ab, cb, rfl⟩ : ∃ ab cb, bv = .slice ab bs'.length cb := by obtain ⟨_, e, h, -⟩ := hE; injection e with e1 e; injection e with e e2; subst e; exact own_slice h
          have HBv : Hid (Ints .u8 wr (.slice ab bs'.length cb) bs') := Lib.hid (by obtain ⟨_, e, h, hu, -⟩ := hE; injection e with e1 e; injection e with e e2; subst e; exact Ints.of_own h hu.wf)
          have HE := Lib.hid hE
          have HWn : Hid (wrongE (t, bs') = false → (items.take (k + 1)).any wrongE = false) := Lib.hid (fun h => by rw [HSn.out, List.any_append, HW.out]; simp [h])
          have HWy : Hid (wrongE (t, bs') = true → items.any wrongE = true) := Lib.hid (fun h => List.any_eq_true.2 ⟨_, List.mem_of_getElem? hx, h⟩)
          have hone : ∀ o, Below wr.heap.size wr (wr.alloc o) := fun o => below_alloc2 o
          have p0 := ((hone (.cells #[.int .i64 0, .slice none 0 0] 54)).cell (World.block_lt_of_cell? _ _ x0)).trans x0
          have p1 := ((hone (.cells #[.int .i64 0, .slice none 0 0] 54)).cell (World.block_lt_of_cell? _ _ x1)).trans x1
          have q0 := ((hone (.cells #[.int .i64 t, .slice ab bs'.length cb] 54)).cell (World.block_lt_of_cell? _ _ x0)).trans x0
          have q1 := ((hone (.cells #[.int .i64 t, .slice ab bs'.length cb] 54)).cell (World.block_lt_of_cell? _ _ x1)).trans x1
          have HLn := Lib.hid hln
          have e1 : (k : Int) < (items.length : Int) := by omega
          generalize items.take k = pre at HO HSn HLn
          clear hx hE hit hln hone
          go_wp2_with fail
          go_region
          all_goals
            have hb1 : Below wr.heap.size wr (wr.alloc (.cells #[.int .i64 t, .slice ab bs'.length cb] 54)).drew := below_drewN (below_alloc2 (.cells #[.int .i64 t, .slice ab bs'.length cb] 54)) 1
            have hX1 : (wr.alloc (.cells #[.int .i64 t, .slice ab bs'.length cb] 54)).drew.heap[wr.heap.size]? = some (.cells #[.int .i64 t, .slice ab bs'.length cb] 54 (0, 0)) := heap_alloc_new wr (.cells #[.int .i64 t, .slice ab bs'.length cb] 54)
            generalize (wr.alloc (.cells #[.int .i64 t, .slice ab bs'.length cb] 54)).drew = w1 at hb1 hX1 ⊢
            have HM1 := Lib.hid (row_below hb1 HM.out)
            have HR1 := Lib.hid (row_below hb1 HR.out)
            have HO1 := Lib.hid (OutG.below ItmO.kind HO.out hb1)
            have HI1 := Lib.hid (OutG.below ItmO.kind HI.out hb1)
            have HB1 := Lib.hid (HB.out.trans (hb1.mono hsr))
            have HE1 := Lib.hid (ItmO.kind.agree HE.out (agree_below hb1))
            have hw1 := ref_wrong (t := t) (HBv.out.below hb1)
            have hs1 : w.heap.size ≤ w1.heap.size := Nat.le_trans hsr hb1.size
            have c0 := cell_row hX1 0
            have c1 := cell_row hX1 1
            have HX1 := Lib.hid hX1
            unfold GotEq at hw1
            clear hb1 hX1 p0 p1 q0 q1 x0 x1
            cases hw : wrongE (t, bs') with
            | true =>
              rw [hw] at hw1
              have HWr := Lib.hid hw1
              have HQ : Hid (readH 0 bs = ([], 263)) := by
                show _ = _
                rcases HCs.out with ⟨h, -⟩ | ⟨-, h, -⟩ | ⟨-, -, -, h⟩ | ⟨-, -, h, -⟩
                · exact absurd rfl h
                · exact absurd rfl h
                · exact h
                · rw [HWy.out hw] at h; cases h
              clear hw hw1
              go_wp2_with fail
              refine HWr.out.mono ?_
              rintro e w3 ⟨rfl, hb⟩
              have HR3 := Lib.hid (row_below hb HR1.out)
              have HB3 := Lib.hid (HB1.out.trans (hb.mono hs1))
              clear hb c0 c1
              go_wp2_with (refine wpList_store_rowTo rfl 35 _ _ rfl rfl w.heap.size (msgE (.slice none 0 0)) rfl rfl _ _ HR3.out (by kernel_rfl) (by kernel_rfl) (by kernel_rfl) ?_; have hheap := setRow_heap w3 w.heap.size _ (msgE (.slice none 0 0)) _ _ HR3.out; have HB9 := Lib.hid (below_setRow HB3.out (Nat.le_refl _) (msgE (.slice none 0 0))))
              refine bodyPost_ret (res_row_tmpI rfl _ _ w.heap.size _ _ _ _ rfl hheap Try.underlying35 rfl (by kernel_rfl)) rfl ?_
              exact GotRead.err HQ.out HB9.out
            | false =>
              rw [hw] at hw1
              have HWr := Lib.hid hw1
              have HWk := Lib.hid (HWn.out hw)
              clear hw hw1
              go_wp2_with fail
              refine HWr.out.mono ?_
              rintro e w3 ⟨rfl, hb⟩
              clear c0 c1
              have hs3 : w.heap.size ≤ w3.heap.size := Nat.le_trans hs1 hb.size
              have HM3 := Lib.hid (row_below hb HM1.out)
              have HR3 := Lib.hid (row_below hb HR1.out)
              have HO3 := Lib.hid (OutG.below ItmO.kind HO1.out hb)
              have HI3 := Lib.hid (OutG.below ItmO.kind HI1.out hb)
              have HB3 := Lib.hid (HB1.out.trans (hb.mono hs1))
              have HE3 := Lib.hid (ItmO.kind.agree HE1.out (agree_below hb))
              have c0 := cell_row (row_below hb HX1.out) 0
              have c1 := cell_row (row_below hb HX1.out) 1
              have z4 := cell_row HM3.out 4
              clear hb
              go_wp2_with (at_builtin; refine wpList_append_out ItmO.kind rfl _ _ _ rfl w.heap.size 54 (by decide) (.agg #[.int .i64 0, .slice none 0 0]) 2 32 Try.underlying25 (by kernel_rfl) rfl (by decide) (.slice ar k capr) pre (t, bs') rfl HO3.out [.int .i64 t, .slice ab bs'.length cb] rfl rfl (by simp [Value.oneCell']) (by rw [HLn.out]; unfold maxLen; omega) (by rw [HLn.out]; omega) hs3 HE3.out ?_; intro v' w5 hown hg; have HO5 := Lib.hid hown; have HM5 := Lib.hid ((hg.block w2.heap.size (Array.getElem?_eq_some_iff.1 HM3.out).1 (by obtain ⟨xs, how, -⟩ := HO3.out; exact own_notrow how HM3.out (by decide))).trans HM3.out); have HR5 := Lib.hid ((hg.block w.heap.size (Array.getElem?_eq_some_iff.1 HR3.out).1 (by obtain ⟨xs, how, -⟩ := HO3.out; exact own_notrow how HR3.out (by decide))).trans HR3.out); have HI5 := Lib.hid (OutG.kept ItmO.kind HI3.out hg (by obtain ⟨xs, how, -⟩ := HO3.out; rintro ty (rfl | rfl) <;> exact NotTy.of_own how (by decide))); have HB5 := Lib.hid (by obtain ⟨xs, how, -⟩ := HO3.out; exact HB3.out.grown hg HB3.out.size (fun k e => by have := (how.lt k e).1; omega)); obtain ⟨a', c', rfl⟩ := OutG.slice hown; have z5 := cell_row HM5.out 4; have f5 := frozen_row HM5.out 4; clear hown hg)
              have HO5 : Hid (OutG ItmO 54 2 w.heap.size w5 (.slice a' (pre.length + 1) c') (pre ++ [(t, bs')])) := Lib.hid (by have := HO5.out; rw [List.length_append] at this; exact this)
              have HM6 := Lib.hid ((heap_put HM5.out 4 (.slice a' (pre.length + 1) c')).trans (by rfl : _ = some (.cells (msgE (.slice a' (pre.length + 1) c')) 35 (0, 0))))
              have hgp := Lib.hid (grown_put w5 w2.heap.size 4 (.slice a' (pre.length + 1) c'))
              have HR6 := Lib.hid ((hgp.out.block w.heap.size (Array.getElem?_eq_some_iff.1 HR5.out).1 (fun e => by injection e with e; omega)).trans HR5.out)
              have HO6 := Lib.hid (OutG.kept ItmO.kind HO5.out hgp.out (by rintro ty (rfl | rfl) <;> exact NotTy.of_block HM5.out (by decide)))
              have HI6 := Lib.hid (OutG.kept ItmO.kind HI5.out hgp.out (by rintro ty (rfl | rfl) <;> exact NotTy.of_block HM5.out (by decide)))
              have HB6 := Lib.hid (below_row HB5.out HB5.out.size hgp.out (by omega))
              go_roundw
              case rel => exact ⟨k + 1, .slice a' (pre.length + 1) c', by omega, by go_num, HM6.out, HR6.out, by rw [HSn.out]; exact HO6.out, HI6.out, HB6.out, HWk.out⟩
              case measure => simp [intOf]; omega
        · obtain rfl : k = items.length := by omega
          rw [List.take_length] at HO
          have e1 : decide ((items.length : Int) < (items.length : Int)) = false := decide_eq_false (by omega)
          have z4 := cell_row HM.out 4
          rw [List.take_length] at HW
          clear hln e1
          have hw := HW.out
          by_cases hbl : 65527 < bs.length
          · have HQ : Hid (readH 0 bs = ([], 263)) := by
              show _ = _
              rcases HCs.out with ⟨h, -⟩ | ⟨-, h, -⟩ | ⟨-, -, -, h⟩ | ⟨-, -, -, h, -⟩
              · exact absurd rfl h
              · exact absurd rfl h
              · exact h
              · omega
            have e2 : (65527 : Int) < (bs.length : Int) := by omega
            clear hw hbl
            go_wp2_with (refine wpList_store_rowTo rfl 35 _ _ rfl rfl w.heap.size (msgE (.slice none 0 0)) rfl rfl _ _ HR.out (by kernel_rfl) (by kernel_rfl) (by kernel_rfl) ?_; have hheap := setRow_heap wr w.heap.size _ (msgE (.slice none 0 0)) _ _ HR.out; have HB9 := Lib.hid (below_setRow HB.out (Nat.le_refl _) (msgE (.slice none 0 0))))
            refine bodyPost_ret (res_row_tmpI rfl _ _ w.heap.size _ _ _ _ rfl hheap Try.underlying35 rfl (by kernel_rfl)) rfl ?_
            exact GotRead.err HQ.out HB9.out
          · have HQ : Hid (readH 0 bs = (items, 0)) := by
              show _ = _
              rcases HCs.out with ⟨h, -⟩ | ⟨-, h, -⟩ | ⟨-, -, h, -⟩ | ⟨-, -, -, -, h⟩
              · exact absurd rfl h
              · exact absurd rfl h
              · rcases h with h | h
                · rw [hw] at h; cases h
                · exact absurd h hbl
              · exact h
            have e2 : ¬ (65527 : Int) < (bs.length : Int) := by omega
            clear hw hbl
            have m0 := cell_row HM.out 0
            have m1 := cell_row HM.out 1
            have m2 := cell_row HM.out 2
            have m3 := cell_row HM.out 3
            have m4 := cell_row HM.out 4
            have m5 := cell_row HM.out 5
            have m6 := cell_row HM.out 6
            have m7 := cell_row HM.out 7
            have m8 := cell_row HM.out 8
            have m9 := cell_row HM.out 9
            have m10 := cell_row HM.out 10
            have m11 := cell_row HM.out 11
            have m12 := cell_row HM.out 12
            have m13 := cell_row HM.out 13
            have m14 := cell_row HM.out 14
            go_wp2_with (refine wpList_store_rowTo rfl 35 _ _ rfl rfl w.heap.size (msgE (.slice ar items.length capr)) rfl rfl _ _ HR.out (by kernel_rfl) (by kernel_rfl) (by kernel_rfl) ?_; have hheap := setRow_heap wr w.heap.size _ (msgE (.slice ar items.length capr)) _ _ HR.out; have HB9 := Lib.hid (below_setRow HB.out (Nat.le_refl _) (msgE (.slice ar items.length capr))))
            refine bodyPost_ret (res_row_tmpI rfl _ _ w.heap.size _ _ _ _ rfl hheap Try.underlying35 rfl (by kernel_rfl)) rfl ?_
            unfold GotRead
            rw [HQ.out]
            exact ⟨_, rfl, OutG.kept ItmO.kind HO.out (grown_setR _ _ _) (by rintro ty (rfl | rfl) <;> exact NotTy.of_block HR.out (by decide)), HB9.out⟩
    · have HQ : Hid (readH 0 bs = ([], je)) := by
        show _ = _
        rcases hcs with ⟨h, -⟩ | ⟨-, -, h⟩ | ⟨-, h, -, -⟩ | ⟨-, h, -⟩
        · exact absurd rfl h
        · exact h
        · exact absurd h hj
        · exact absurd h hj
      have e2 : (je != 0) = true := by simpa using hj
      clear hj hcs
      go_wp2_with (refine wpList_store_rowTo rfl 35 _ _ rfl rfl w.heap.size (msgE (.slice none 0 0)) rfl rfl _ _ HR2.out (by kernel_rfl) (by kernel_rfl) (by kernel_rfl) ?_; have hheap := setRow_heap w2 w.heap.size _ (msgE (.slice none 0 0)) _ _ HR2.out; have HB9 := Lib.hid (below_setRow HB2.out (Nat.le_refl _) (msgE (.slice none 0 0))))
      refine bodyPost_ret (res_row_tmpI rfl _ _ w.heap.size _ _ _ _ rfl hheap Try.underlying35 rfl (by kernel_rfl)) rfl ?_
      exact GotRead.err HQ.out HB9.out
  · have HQ : Hid (readH t bs = ([], 10001)) := by
      show _ = _
      rcases hcs with ⟨-, h⟩ | ⟨h, -⟩ | ⟨h, -⟩ | ⟨h, -⟩
      · exact h
      · exact absurd h ht
      · exact absurd h ht
      · exact absurd h ht
    have e2 : (t != 0) = true := by simpa using ht
    clear ht hcs
    go_enter Try.func14, Try.ntmps14
    go_wp2_with (refine wpList_store_rowTo rfl 35 _ _ rfl rfl w.heap.size (msgE (.slice none 0 0)) rfl rfl _ _ HR0.out (by kernel_rfl) (by kernel_rfl) (by kernel_rfl) ?_; have hheap := setRow_heap (w.alloc (.cells (msgE (.slice none 0 0)) 35)) w.heap.size _ (msgE (.slice none 0 0)) _ _ HR0.out; have HB9 := Lib.hid (below_setRow HB0.out (Nat.le_refl _) (msgE (.slice none 0 0))))
    refine bodyPost_ret (res_row_tmpI rfl _ _ w.heap.size _ _ _ _ rfl hheap Try.underlying35 rfl (by kernel_rfl)) rfl ?_
    exact GotRead.err HQ.out HB9.out
end Go.Proofs.Ytcebcncpbedkmaa
