/- The walk of the document's Body of a hello, given that of its Bare. Conditions: not too many elements. -/
import Derived.Test.YtcebcncpbedkmaaZHelB
import Derived.Test.YtcebcncpbedkmaaZRefTD
namespace Go.Proofs.Ytcebcncpbedkmaa
open Go Go.RowKit
set_option maxRecDepth 100000
set_option maxHeartbeats 8000000

theorem bodyH_none {ty : Int} {bare : Bool} {els : List Elt} (h : ty ≠ 0 ∨ bare = false ∨ els.any wrongE = true) : bodyH ty bare els = ([], 10001) := by
  unfold bodyH
  rw [if_neg]
  rintro ⟨h1, h2, h3, -⟩
  rcases h with h | h | h
  · exact h h1
  · rw [h2] at h; cases h
  · rw [h3] at h; cases h

theorem hel_rbody {ty xid : Int} {an ad : Option Addr} {nn cn nd cd : Nat} {L : Lens} {els : List Elt} {w : World} (h4 : RowsOf ItemR 2 w (.slice L.a4 L.n4 L.c4) els) (hl : els.length ≤ 1000) (hd : ∀ x ∈ els, x.2.length ≤ 1000)
    (hbare : ∀ W, Calls Try.prog 32 #[.agg (msgL ty xid (.slice an nn cn) (.slice ad nd cd) L.noEl)] W fun e w' => e = .returned (.bool (decide (nn = 0) && bareL L.noEl && decide (nd = 0))) ∧ Below W.heap.size W w') :
    Calls Try.prog 9 #[.agg (msgL ty xid (.slice an nn cn) (.slice ad nd cd) L)] w (GotBody (bodyH ty (decide (nn = 0) && bareL L.noEl && decide (nd = 0)) els) w) := by
  obtain ⟨a4, c4, b, off, e4, hcap, hmx, -, ha, hit⟩ := items_open h4
  unfold maxLen at hmx
  have H4 := Lib.hid h4
  have A := Lib.hid ha
  have HIt := Lib.hid hit
  have HD := Lib.hid hd
  have HBr := Lib.hid hbare
  generalize (decide (nn = 0) && bareL L.noEl && decide (nd = 0)) = bare at HBr ⊢
  obtain ⟨la4, ln4, lc4, la5, ln5, lc5, la6, ln6, lc6, la7, ln7, lc7, la8, ln8, lc8, la9, ln9, lc9, la10, ln10, lc10, la11, ln11, lc11, la14, ln14, lc14, lkind, lflags⟩ := L
  simp only [msgL, Lens.noEl] at HBr H4 ⊢
  simp only at e4
  injection e4 with e4 e5 e6
  subst e4 e5 e6
  clear h4 ha hit hd hbare
  have fin : Hid (∀ (wq : World), (ty ≠ 0 ∨ bare = false ∨ els.any wrongE = true) → Below w.heap.size w wq → GotBody (bodyH ty bare els) w (.returned (.tuple #[.slice none 0 0, .int .i64 10001])) wq) := fun wq he hb => GotBody.none (bodyH_none he) hb
  by_cases ht : ty = 0
  · subst ht
    go_enter Try.func9, Try.ntmps9
    go_wp2_with fail
    have HM0 := Lib.hid (row_below (below_alloc2 (w := w.alloc (.cells #[.int .i64 0, .int .u32 xid, .slice an nn cn, .slice ad nd cd, .slice la4 els.length lc4, .slice la5 ln5 lc5, .slice la6 ln6 lc6, .slice la7 ln7 lc7, .slice la8 ln8 lc8, .slice la9 ln9 lc9, .slice la10 ln10 lc10, .slice la11 ln11 lc11, .int .i64 lkind, .int .i64 lflags, .slice la14 ln14 lc14] 35)) (.cells #[.int .i64 0, .int .u32 xid, .slice an nn cn, .slice ad nd cd, .slice none 0 0, .slice la5 ln5 lc5, .slice la6 ln6 lc6, .slice la7 ln7 lc7, .slice la8 ln8 lc8, .slice la9 ln9 lc9, .slice la10 ln10 lc10, .slice la11 ln11 lc11, .int .i64 lkind, .int .i64 lflags, .slice la14 ln14 lc14] 35)) (heap_alloc_new w (.cells #[.int .i64 0, .int .u32 xid, .slice an nn cn, .slice ad nd cd, .slice la4 els.length lc4, .slice la5 ln5 lc5, .slice la6 ln6 lc6, .slice la7 ln7 lc7, .slice la8 ln8 lc8, .slice la9 ln9 lc9, .slice la10 ln10 lc10, .slice la11 ln11 lc11, .int .i64 lkind, .int .i64 lflags, .slice la14 ln14 lc14] 35)))
    have HB0 := Lib.hid ((below_alloc2 (w := w) (.cells #[.int .i64 0, .int .u32 xid, .slice an nn cn, .slice ad nd cd, .slice la4 els.length lc4, .slice la5 ln5 lc5, .slice la6 ln6 lc6, .slice la7 ln7 lc7, .slice la8 ln8 lc8, .slice la9 ln9 lc9, .slice la10 ln10 lc10, .slice la11 ln11 lc11, .int .i64 lkind, .int .i64 lflags, .slice la14 ln14 lc14] 35)).trans ((below_alloc2 (w := w.alloc (.cells #[.int .i64 0, .int .u32 xid, .slice an nn cn, .slice ad nd cd, .slice la4 els.length lc4, .slice la5 ln5 lc5, .slice la6 ln6 lc6, .slice la7 ln7 lc7, .slice la8 ln8 lc8, .slice la9 ln9 lc9, .slice la10 ln10 lc10, .slice la11 ln11 lc11, .int .i64 lkind, .int .i64 lflags, .slice la14 ln14 lc14] 35)) (.cells #[.int .i64 0, .int .u32 xid, .slice an nn cn, .slice ad nd cd, .slice none 0 0, .slice la5 ln5 lc5, .slice la6 ln6 lc6, .slice la7 ln7 lc7, .slice la8 ln8 lc8, .slice la9 ln9 lc9, .slice la10 ln10 lc10, .slice la11 ln11 lc11, .int .i64 lkind, .int .i64 lflags, .slice la14 ln14 lc14] 35)).mono (by simp)))
    have hs0 : w.heap.size + 2 ≤ ((w.alloc (.cells #[.int .i64 0, .int .u32 xid, .slice an nn cn, .slice ad nd cd, .slice la4 els.length lc4, .slice la5 ln5 lc5, .slice la6 ln6 lc6, .slice la7 ln7 lc7, .slice la8 ln8 lc8, .slice la9 ln9 lc9, .slice la10 ln10 lc10, .slice la11 ln11 lc11, .int .i64 lkind, .int .i64 lflags, .slice la14 ln14 lc14] 35)).alloc (.cells #[.int .i64 0, .int .u32 xid, .slice an nn cn, .slice ad nd cd, .slice none 0 0, .slice la5 ln5 lc5, .slice la6 ln6 lc6, .slice la7 ln7 lc7, .slice la8 ln8 lc8, .slice la9 ln9 lc9, .slice la10 ln10 lc10, .slice la11 ln11 lc11, .int .i64 lkind, .int .i64 lflags, .slice la14 ln14 lc14] 35)).heap.size := by simp
    refine (HBr.out _).mono ?_
    rintro e w1 ⟨rfl, hb⟩
    have HM1 := Lib.hid (row_below hb HM0.out)
    have HB1 := Lib.hid (HB0.out.trans (hb.mono (by simp; omega)))
    have hs1 : w.heap.size + 2 ≤ w1.heap.size := Nat.le_trans hs0 hb.size
    clear hb HM0 HB0 hs0 HBr
    cases bare with
    | false =>
      go_wp2_with fail
      go_ret2
      exact fin.out _ (by simp) HB1.out
    | true =>
      go_wp2_with fail
      go_loopw [5, 6] (fun v i wr => ∃ k : Nat, k ≤ els.length ∧ i = .int .i64 k ∧ Hid (OutG (fun (_ : Nat) (_ : World) (x : Elt) (c : List Value) => ItemR w x c) 85 2 (w.heap.size + 1) wr v (els.take k)) ∧ Hid (wr.heap[w.heap.size]? = some (.cells #[.int .i64 0, .int .u32 xid, .slice an nn cn, .slice ad nd cd, .slice la4 els.length lc4, .slice la5 ln5 lc5, .slice la6 ln6 lc6, .slice la7 ln7 lc7, .slice la8 ln8 lc8, .slice la9 ln9 lc9, .slice la10 ln10 lc10, .slice la11 ln11 lc11, .int .i64 lkind, .int .i64 lflags, .slice la14 ln14 lc14] 35 (0, 0))) ∧ Hid (Below w.heap.size w wr) ∧ Hid ((els.take k).any wrongE = false)) (fun _ i _ => els.length - (intOf i).toNat)
      case atStart => exact ⟨0, by omega, rfl, OutG.nil _ _ _ _ _, HM1.out, HB1.out, rfl⟩
      case round =>
        obtain ⟨k, hk, rfl, HO, HM, HB, HW⟩ := hrel
        have hln : (els.take k).length = k := by rw [List.length_take]; omega
        obtain ⟨ar, capr, rfl⟩ := OutG.slice HO.out
        rw [hln]
        have hs := (Array.getElem?_eq_some_iff.1 HM.out).1
        have z4 := cell_row HM.out 4
        by_cases hlt : k < els.length
        · obtain rfl := A.out (by omega)
          obtain ⟨⟨t, bs⟩, hx⟩ : ∃ x, els[k]? = some x := ⟨_, List.getElem?_eq_getElem hlt⟩
          obtain ⟨bv, x0, x1, hbv, hwt⟩ := HIt.out k t bs hx
          have HE : Hid (ItemR w (t, bs) [.int .i64 t, bv]) := ⟨bv, rfl, hbv, hwt⟩
          have HX0 := Lib.hid x0
          have HX1 := Lib.hid x1
          have x0 := (HB.out.cell (World.block_lt_of_cell? _ _ x0)).trans x0
          have x1 := (HB.out.cell (World.block_lt_of_cell? _ _ x1)).trans x1
          have HSn : Hid (els.take (k + 1) = els.take k ++ [(t, bs)]) := by show _ = _; rw [take_snoc' hx]
          have HO : Hid (OutG (fun (_ : Nat) (_ : World) (x : Elt) (c : List Value) => ItemR w x c) 85 2 (w.heap.size + 1) wr (.slice ar k capr) (els.take k)) := by have := HO.out; rw [hln] at this; exact this
          have hwr := ref_wrong (t := t) (hbv.below HB.out)
          unfold GotEq at hwr
          obtain ⟨ab, cb, bb, ob, rfl, -⟩ := hbv.open
          have HLn := Lib.hid hln
          have HXm := Lib.hid (List.mem_of_getElem? hx)
          have e1 : (k : Int) < (els.length : Int) := by omega
          clear hx hbv hwt hln
          cases hw : wrongE (t, bs) with
          | true =>
            rw [hw] at hwr
            have HWr := Lib.hid hwr
            have HAny : Hid (els.any wrongE = true) := List.any_eq_true.2 ⟨_, HXm.out, hw⟩
            clear hw hwr
            go_wp2_with fail
            refine HWr.out.mono ?_
            rintro e w2 ⟨rfl, hb⟩
            have HB2 := Lib.hid (HB.out.trans (hb.mono HB.out.size))
            clear hb
            go_wp2_with fail
            go_ret2
            exact fin.out _ (.inr (.inr HAny.out)) HB2.out
          | false =>
            rw [hw] at hwr
            have HWr := Lib.hid hwr
            have HWn : Hid ((els.take (k + 1)).any wrongE = false) := by rw [Hid, HSn.out, List.any_append, HW.out]; simp [hw]
            generalize els.take k = pre at HO HSn HLn
            clear hw hwr HW
            go_wp2_with fail
            refine HWr.out.mono ?_
            rintro e w2 ⟨rfl, hb⟩
            have HM2 := Lib.hid (row_below hb HM.out)
            have HB2 := Lib.hid (HB.out.trans (hb.mono HB.out.size))
            have HO2 := Lib.hid (OutG.below (ItR.kind w) HO.out hb)
            have hs2 : w.heap.size + 1 ≤ w2.heap.size := by have := hb.size; omega
            clear hb z4 x0 x1
            have z4 := cell_row HM2.out 4
            have z4' := cell_row (row_below (below_alloc2 (w := w2) (.cells #[.int .i64 t, .slice ab bs.length cb] 85)) HM2.out) 4
            have HB3 := HB2.out.trans ((below_alloc2 (w := w2) (.cells #[.int .i64 t, .slice ab bs.length cb] 85)).mono HB2.out.size)
            have x0 := (HB2.out.cell (World.block_lt_of_cell? _ _ HX0.out)).trans HX0.out
            have x1 := (HB2.out.cell (World.block_lt_of_cell? _ _ HX1.out)).trans HX1.out
            have x0' := (HB3.cell (World.block_lt_of_cell? _ _ HX0.out)).trans HX0.out
            have x1' := (HB3.cell (World.block_lt_of_cell? _ _ HX1.out)).trans HX1.out
            clear HB3
            go_wp2_with fail
            go_region_law (refine step_append_out (ItR.kind w) (by rfl) _ _ _ (by rfl) (w.heap.size + 1) 85 (fun h => h) (.agg #[.int .i64 0, .slice none 0 0]) 2 32 Try.underlying84 info_ref rfl (by omega) (.slice ar k capr) pre (t, bs) (by rfl) HO2.out [.int .i64 t, .slice ab bs.length cb] (by rfl) rfl (by simp [Value.oneCell']) (by rw [HLn.out]; unfold maxLen; omega) (by rw [HLn.out]; omega) hs2 HE.out ?_
                           intro v' w5 hown hg
                           have HO5 := Lib.hid hown
                           have HM5 := Lib.hid ((hg.block w.heap.size (Array.getElem?_eq_some_iff.1 HM2.out).1 (fun e => by obtain ⟨xs, how, -⟩ := HO2.out; have := (how.lt _ e.symm).1; omega)).trans HM2.out)
                           have HB5 := Lib.hid (by obtain ⟨xs, how, -⟩ := HO2.out; exact HB2.out.grown hg HB2.out.size (fun k e => by have := (how.lt k e).1; omega))
                           clear hown hg)
            all_goals
              go_wp2_with fail
              go_roundw
              case rel => exact ⟨k + 1, by omega, by go_num, by rw [HSn.out]; exact HO5.out, HM5.out, HB5.out, HWn.out⟩
              case measure => simp [intOf]; omega
        · obtain rfl : k = els.length := by omega
          rw [List.take_length] at HO HW
          have e1 : ¬ (els.length : Int) < (els.length : Int) := by omega
          have hj := ref_join (s := shH) (OutG.rows (R := ItemR) HO.out (fun h => ItemR.lasts _ _ _ _ HB.out h)) (by omega) (fun x hx => by have := HD.out x hx; omega)
          have hcs := bodyH_cases 0 true els
          unfold GotJoin at hj
          generalize shH.join els = j at hcs hj
          generalize hbd : bodyH 0 true els = bd at hcs
          have HBd := Lib.hid hbd
          obtain ⟨jb, je⟩ := j
          simp only at hcs hj
          have HJ := Lib.hid hj
          clear hj hbd hln
          simp only [Sh.val, shH] at HJ
          rcases hcs with ⟨hbd, -, -, -, rfl, hjl⟩ | ⟨hbd, hor⟩
          · have HBd2 := Lib.hid hbd
            have e5 : ¬ (65527 : Int) < (jb.length : Int) := by omega
            clear hbd
            go_wp2_with fail
            refine HJ.out.mono ?_
            rintro e w5 ⟨vx, rfl, ho, hu, hb⟩
            have HB5 := Lib.hid (HB.out.trans (hb.mono HB.out.size))
            have HX5 := Lib.hid (own_base ho HB.out.size)
            have HU5 := Lib.hid hu
            obtain ⟨ax, cx, rfl⟩ := own_slice ho
            clear ho hu hb
            go_wp2_with fail
            go_ret2
            unfold GotBody
            rw [HBd.out, HBd2.out]
            exact ⟨_, rfl, HX5.out, HU5.out, HB5.out⟩
          · have HBd2 := Lib.hid hbd
            have hor2 : je ≠ 0 ∨ (je = 0 ∧ 65527 < jb.length) := by
              by_cases hj : je = 0
              · right
                rcases hor with h | h | h | h | h
                · exact absurd rfl h
                · cases h
                · rw [HW.out] at h; cases h
                · exact absurd hj h
                · exact ⟨hj, h⟩
              · exact .inl hj
            clear hor hbd
            rcases hor2 with hj | ⟨rfl, hj⟩
            · have e6 : (je != 0) = true := by simpa using hj
              clear hj
              go_wp2_with fail
              refine HJ.out.mono ?_
              rintro e w5 ⟨vx, rfl, ho, hu, hb⟩
              have HB5 := Lib.hid (HB.out.trans (hb.mono HB.out.size))
              obtain ⟨ax, cx, rfl⟩ := own_slice ho
              clear ho hu hb
              go_wp2_with fail
              go_ret2
              exact GotBody.none (HBd.out.trans HBd2.out) HB5.out
            · have e6 : (65527 : Int) < (jb.length : Int) := by omega
              clear hj
              go_wp2_with fail
              refine HJ.out.mono ?_
              rintro e w5 ⟨vx, rfl, ho, hu, hb⟩
              have HB5 := Lib.hid (HB.out.trans (hb.mono HB.out.size))
              obtain ⟨ax, cx, rfl⟩ := own_slice ho
              clear ho hu hb
              go_wp2_with fail
              go_ret2
              exact GotBody.none (HBd.out.trans HBd2.out) HB5.out
  · have e5 : (ty != 0) = true := by simpa using ht
    have HT := Lib.hid ht
    clear ht
    go_enter Try.func9, Try.ntmps9
    go_wp2_with fail
    go_ret2
    exact fin.out _ (.inl HT.out) ((below_alloc2 _).trans ((below_alloc2 _).mono (by simp)))
end Go.Proofs.Ytcebcncpbedkmaa
