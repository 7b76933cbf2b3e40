/- The walk of hello.Body, given that of hello.Bare. Conditions: not too many elements. -/
import Derived.Test.YtcebcncpbedkmaaGreatZHelA
import Derived.Test.YtcebcncpbedkmaaGreatZMsgA
import Derived.Test.YtcebcncpbedkmaaGreatZOutG
namespace Go.Proofs.YtcebcncpbedkmaaGreat
open Go Go.RowKit
set_option maxRecDepth 100000
set_option maxHeartbeats 8000000

theorem hel_shape (w : World) : Calls Tryz.prog 62 #[] w fun e w' => e = .returned shH.val ∧ Below w.heap.size w w' := by
  simp only [Sh.val, shH]
  go_enter Tryz.func62, Tryz.ntmps62
  go_wp2
  have hh := heap_alloc_new w (.cells #[.int .i64 4, .int .i64 8, .bool true, .int .i64 263, .int .i64 269] 111)
  refine bodyPost_ret (res_row1 rfl _ _ w.heap.size _ _ _ _ rfl hh Tryz.underlying111 rfl (by kernel_rfl)) rfl ?_
  exact ⟨rfl, below_alloc2 _⟩
theorem hel_has (t : Int) (w : World) : Calls Tryz.prog 65 #[.int .i64 t] w fun e w' => e = .returned (.bool (t == 0)) ∧ w = w' := by
  go_enter Tryz.func65, Tryz.ntmps65
  go_wp2
  go_ret
  exact ⟨rfl, rfl⟩
theorem ItR.kind (w0 : World) : Kind (fun (_ : Nat) (_ : World) (x : Elt) (c : List Value) => ItemR w0 x c) (fun _ => False) where
  agree := fun h _ => h
  low := fun h _ => h
  kept := fun h _ _ => h

/-- What hello.Body hands back. -/
def GotBody (r : List Int × Int) (w : World) (e : Ending) (w' : World) : Prop :=
  ∃ v, e = .returned (.tuple #[v, .int .i64 r.2]) ∧ w'.ownsRow w.heap.size 5 1 v r.1.length (r.1.map (Value.int .u8)) ∧ U8 r.1 ∧ Below w.heap.size w w'
theorem GotBody.none {r : List Int × Int} {w w' : World} (h : r = ([], 10001)) (hb : Below w.heap.size w w') : GotBody r w (.returned (.tuple #[.slice Option.none 0 0, .int .i64 10001])) w' := by
  subst h
  exact ⟨_, rfl, World.ownsRow_nil _ _ _ _, fun z hz => by simp at hz, hb⟩

theorem hel_body {ty xid : Int} {an ad : Option Addr} {nn cn nd cd : Nat} {L : Lens} {els : List Elt} {w : World} (h4 : RowsOf ItemR 2 w (.slice L.a4 L.n4 L.c4) els) (hl : els.length ≤ 100000) (hd : ∀ x ∈ els, x.2.length ≤ 100000)
    (hbare : ∀ W, Calls Tryz.prog 8 #[.agg (msgL ty xid (.slice an nn cn) (.slice ad nd cd) L.noEl)] W fun e w' => e = .returned (.bool (decide (nn = 0) && bareL L.noEl && decide (nd = 0))) ∧ Below W.heap.size W w') :
    Calls Tryz.prog 18 #[.agg (msgL ty xid (.slice an nn cn) (.slice ad nd cd) L)] w (GotBody (bodyH ty (decide (nn = 0) && bareL L.noEl && decide (nd = 0)) els) w) := by
  obtain ⟨a4, c4, b, off, e4, hcap, hmx, -, ha, hit⟩ := items_open h4
  unfold maxLen at hmx
  have H4 := Lib.hid h4
  have A := Lib.hid ha
  have HIt := Lib.hid hit
  have HD := Lib.hid hd
  have HBr := Lib.hid hbare
  have HM0 := Lib.hid (heap_alloc_new w (.cells (msgL ty xid (.slice an nn cn) (.slice ad nd cd) L) 35))
  have HB0 := Lib.hid (below_alloc2 (w := w) (.cells (msgL ty xid (.slice an nn cn) (.slice ad nd cd) L) 35))
  generalize (decide (nn = 0) && bareL L.noEl && decide (nd = 0)) = bare at HBr ⊢
  obtain ⟨la4, ln4, lc4, la5, ln5, lc5, la6, ln6, lc6, la7, ln7, lc7, la8, ln8, lc8, la9, ln9, lc9, la10, ln10, lc10, la11, ln11, lc11, la14, ln14, lc14, lkind, lflags⟩ := L
  simp only [msgL, Lens.noEl] at HM0 HB0 HBr H4 ⊢
  simp only at e4
  injection e4 with e4 e5 e6
  subst e4 e5 e6
  clear h4 ha hit hd hbare
  go_enter Tryz.func18, Tryz.ntmps18
  go_wp2_with fail
  go_loopw [4, 13] (fun v i wr => ∃ k : Nat, k ≤ els.length ∧ i = .int .i64 k ∧ Hid (OutG (fun (_ : Nat) (_ : World) (x : Elt) (c : List Value) => ItemR w x c) 108 2 (w.heap.size + 1) wr v (els.take k)) ∧ Hid (wr.heap[w.heap.size]? = some (.cells #[.int .i64 ty, .int .u32 xid, .slice an nn cn, .slice ad nd cd, .slice la4 els.length lc4, .slice la5 ln5 lc5, .slice la6 ln6 lc6, .slice la7 ln7 lc7, .slice la8 ln8 lc8, .slice la9 ln9 lc9, .slice la10 ln10 lc10, .slice la11 ln11 lc11, .int .i64 lkind, .int .i64 lflags, .slice la14 ln14 lc14] 35 (0, 0))) ∧ Hid (Below w.heap.size w wr)) (fun _ i _ => els.length - (intOf i).toNat)
  case atStart => exact ⟨0, by omega, rfl, OutG.nil _ _ _ _ _, HM0.out, HB0.out⟩
  case round =>
    obtain ⟨k, hk, rfl, HO, HM, HB⟩ := hrel
    have hln : (els.take k).length = k := by rw [List.length_take]; omega
    obtain ⟨ar, capr, rfl⟩ := OutG.slice HO.out
    rw [hln]
    have hs := (Array.getElem?_eq_some_iff.1 HM.out).1
    by_cases hlt : k < els.length
    · obtain rfl := A.out (by omega)
      obtain ⟨⟨t, bs⟩, hx⟩ : ∃ x, els[k]? = some x := ⟨_, List.getElem?_eq_getElem hlt⟩
      obtain ⟨bv, x0, x1, hbv, hwt⟩ := HIt.out k t bs hx
      have HE : Hid (ItemR w (t, bs) [.int .i64 t, bv]) := ⟨bv, rfl, hbv, hwt⟩
      have x0 := (HB.out.cell (World.block_lt_of_cell? _ _ x0)).trans x0
      have x1 := (HB.out.cell (World.block_lt_of_cell? _ _ x1)).trans x1
      have HSn : Hid (els.take (k + 1) = els.take k ++ [(t, bs)]) := by show _ = _; rw [take_snoc' hx]
      have HO : Hid (OutG (fun (_ : Nat) (_ : World) (x : Elt) (c : List Value) => ItemR w x c) 108 2 (w.heap.size + 1) wr (.slice ar k capr) (els.take k)) := by have := HO.out; rw [hln] at this; exact this
      have HOx := Lib.hid (OutG.below (ItR.kind w) HO.out (below_alloc2 (.cells #[.int .i64 t, bv] 40)))
      have HMx := Lib.hid (row_below (below_alloc2 (w := wr) (.cells #[.int .i64 t, bv] 40)) HM.out)
      have HBx := Lib.hid (HB.out.trans ((below_alloc2 (w := wr) (.cells #[.int .i64 t, bv] 40)).mono HB.out.size))
      obtain ⟨ab, cb, bb, ob, rfl, -⟩ := hbv.open
      have HLn := Lib.hid hln
      have e1 : decide ((k : Int) < (els.length : Int)) = true := decide_eq_true (by omega)
      generalize els.take k = pre at HO HOx HSn HLn
      clear hx hbv hwt hln
      go_wp2_with (at_builtin; refine wpList_append_out (ItR.kind w) rfl _ _ _ rfl (w.heap.size + 1) 108 (fun h => h) (.agg #[.int .i64 0, .slice none 0 0]) 2 32 Tryz.underlying106 info_item rfl (by decide) (.slice ar k capr) pre (t, bs) rfl HOx.out [.int .i64 t, .slice ab bs.length cb] (by rw [World.size_alloc]; rfl) rfl (by simp [Value.oneCell']) (by rw [HLn.out]; unfold maxLen; omega) (by rw [HLn.out]; omega) (by simp; omega) HE.out ?_; intro v' w5 hown hg; have HO5 := Lib.hid hown; have HM5 := Lib.hid ((hg.block w.heap.size (Array.getElem?_eq_some_iff.1 HMx.out).1 (fun e => by obtain ⟨xs, how, -⟩ := HOx.out; have := (how.lt _ e.symm).1; omega)).trans HMx.out); have HB5 := Lib.hid (by obtain ⟨xs, how, -⟩ := HOx.out; exact HBx.out.grown hg HBx.out.size (fun k e => by have := (how.lt k e).1; omega)); clear hown hg)
      go_roundw
      case rel => exact ⟨k + 1, by omega, by go_num, by rw [HSn.out]; exact HO5.out, HM5.out, HB5.out⟩
      case measure => simp [intOf]; omega
    · obtain rfl : k = els.length := by omega
      rw [List.take_length] at HO
      have e1 : decide ((els.length : Int) < (els.length : Int)) = false := decide_eq_false (by omega)
      clear hln
      go_wp2_with fail
      refine (hel_shape _).mono ?_
      rintro e w1 ⟨rfl, hb⟩
      have HM1 := Lib.hid (row_below hb HM.out)
      have HB1 := Lib.hid (HB.out.trans (hb.mono HB.out.size))
      have HO1 := Lib.hid (OutG.below (ItR.kind w) HO.out hb)
      have HR1 := Lib.hid (OutG.rows (R := ItemR) HO1.out (fun h => ItemR.lasts _ _ _ _ HB1.out h))
      clear hb
      go_wp2_with fail
      refine (tlv_join (s := shH) HR1.out (by omega) (fun x hx => by have := HD.out x hx; omega)).mono ?_
      rintro e w2 ⟨vx, rfl, hox, hux, hb⟩
      have HM2 := Lib.hid (row_below hb HM1.out)
      have HB2 := Lib.hid (HB1.out.trans (hb.mono HB1.out.size))
      have hs2 := hb.size
      have HX2 := Lib.hid (own_base hox HB1.out.size)
      have HU2 := Lib.hid hux
      obtain ⟨ax, cx, rfl⟩ := own_slice hox
      have z4 := cell_row HM2.out 4
      clear hox hux hb
      go_wp2_with fail
      refine (has_wrong (H4.out.below ItemR.lasts HB2.out)).mono ?_
      rintro e w3 ⟨rfl, hb⟩
      have HM3 := Lib.hid (row_below hb HM2.out)
      have HB3 := Lib.hid (HB2.out.trans (hb.mono HB2.out.size))
      have HX3 := Lib.hid (own_below HX2.out hb)
      clear z4 hb
      have z4 := cell_row HM3.out 4
      have f4 := frozen_row HM3.out 4
      have HM4 := Lib.hid ((heap_put HM3.out 4 (.slice none 0 0)).trans (by rfl : _ = some (.cells #[.int .i64 ty, .int .u32 xid, .slice an nn cn, .slice ad nd cd, .slice none 0 0, .slice la5 ln5 lc5, .slice la6 ln6 lc6, .slice la7 ln7 lc7, .slice la8 ln8 lc8, .slice la9 ln9 lc9, .slice la10 ln10 lc10, .slice la11 ln11 lc11, .int .i64 lkind, .int .i64 lflags, .slice la14 ln14 lc14] 35 (0, 0))))
      have HB4 := Lib.hid (below_row HB3.out HB3.out.size (grown_put w3 w.heap.size 4 (.slice none 0 0)) (Nat.le_refl _))
      have HX4 := Lib.hid (own_kept HX3.out (grown_put w3 w.heap.size 4 (.slice none 0 0)) (NotTy.of_block HM3.out (by decide)))
      have m0 := cell_row HM4.out 0
      have m1 := cell_row HM4.out 1
      have m2 := cell_row HM4.out 2
      have m3 := cell_row HM4.out 3
      have m4 := cell_row HM4.out 4
      have m5 := cell_row HM4.out 5
      have m6 := cell_row HM4.out 6
      have m7 := cell_row HM4.out 7
      have m8 := cell_row HM4.out 8
      have m9 := cell_row HM4.out 9
      have m10 := cell_row HM4.out 10
      have m11 := cell_row HM4.out 11
      have m12 := cell_row HM4.out 12
      have m13 := cell_row HM4.out 13
      have m14 := cell_row HM4.out 14
      have hbr := HBr.out (w3.setCell ⟨w.heap.size, 4, none⟩ (.slice none 0 0))
      have hcs := bodyH_cases ty bare els
      generalize els.any wrongE = wr at hcs ⊢
      generalize shH.join els = j at hcs HX4 HU2 ⊢
      generalize hbd : bodyH ty bare els = bd at hcs ⊢
      have HBd := Lib.hid hbd
      obtain ⟨jb, je⟩ := j
      simp only at hcs HX4 HU2 ⊢
      clear hbd hlt HX3 HX2 HM3 HM2 HM1 HM HO HO1 HR1 HBr
      have fin : Hid (∀ (wq : World), bd = ([], 10001) → Below w.heap.size w wq → GotBody (bodyH ty bare els) w (.returned (.tuple #[.slice none 0 0, .int .i64 10001])) wq) := fun wq he hb => GotBody.none (HBd.out.trans he) hb
      rcases hcs with ⟨hbd, rfl, rfl, rfl, rfl, hjl⟩ | ⟨hbd, hor⟩
      · have HBd2 := Lib.hid hbd
        have HBr2 := Lib.hid hbr
        clear hbd hbr
        have e5 : ¬ (65527 : Int) < (jb.length : Int) := by omega
        go_wp2_with fail
        refine (hel_has 0 _).mono ?_
        rintro e w5 ⟨rfl, rfl⟩
        go_wp2_with fail
        refine HBr2.out.mono ?_
        rintro e w5 ⟨rfl, hb⟩
        have HB5 := Lib.hid (HB4.out.trans (hb.mono HB4.out.size))
        have HX5 := Lib.hid (own_below HX4.out hb)
        clear hb
        go_wp2_with fail
        go_ret2
        unfold GotBody
        rw [HBd.out, HBd2.out]
        exact ⟨_, rfl, HX5.out, HU2.out, HB5.out⟩
      · have HBd2 := Lib.hid hbd
        clear hbd
        by_cases ht : ty = 0
        · subst ht
          cases wr with
          | true =>
            clear hor hbr
            go_wp2_with fail
            refine (hel_has 0 _).mono ?_
            rintro e w5 ⟨rfl, rfl⟩
            go_wp2_with fail
            go_ret2
            exact fin.out _ HBd2.out HB4.out
          | false =>
            cases bare with
            | false =>
              have HBr2 := Lib.hid hbr
              clear hor hbr
              go_wp2_with fail
              refine (hel_has 0 _).mono ?_
              rintro e w5 ⟨rfl, rfl⟩
              go_wp2_with fail
              refine HBr2.out.mono ?_
              rintro e w5 ⟨rfl, hb⟩
              have HB5 := Lib.hid (HB4.out.trans (hb.mono HB4.out.size))
              clear hb
              go_wp2_with fail
              go_ret2
              exact fin.out _ HBd2.out HB5.out
            | true =>
              have HBr2 := Lib.hid hbr
              have hor2 : je ≠ 0 ∨ (je = 0 ∧ 65527 < jb.length) := by
                by_cases hj : je = 0
                · right
                  rcases hor with h | h | h | h | h
                  · exact absurd rfl h
                  · cases h
                  · cases h
                  · exact absurd hj h
                  · exact ⟨hj, h⟩
                · exact .inl hj
              clear hor hbr
              rcases hor2 with hj | ⟨rfl, hj⟩
              · have e6 : (je != 0) = true := by simpa using hj
                clear hj
                go_wp2_with fail
                refine (hel_has 0 _).mono ?_
                rintro e w5 ⟨rfl, rfl⟩
                go_wp2_with fail
                refine HBr2.out.mono ?_
                rintro e w5 ⟨rfl, hb⟩
                have HB5 := Lib.hid (HB4.out.trans (hb.mono HB4.out.size))
                clear hb
                go_wp2_with fail
                go_ret2
                exact fin.out _ HBd2.out HB5.out
              · have e6 : (65527 : Int) < (jb.length : Int) := by omega
                clear hj
                go_wp2_with fail
                refine (hel_has 0 _).mono ?_
                rintro e w5 ⟨rfl, rfl⟩
                go_wp2_with fail
                refine HBr2.out.mono ?_
                rintro e w5 ⟨rfl, hb⟩
                have HB5 := Lib.hid (HB4.out.trans (hb.mono HB4.out.size))
                clear hb
                go_wp2_with fail
                go_ret2
                exact fin.out _ HBd2.out HB5.out
        · have e6 : (ty == 0) = false := by simpa using ht
          clear ht hor hbr
          go_wp2_with fail
          refine (hel_has ty _).mono ?_
          rintro e w5 ⟨rfl, rfl⟩
          go_wp2_with fail
          go_ret2
          exact fin.out _ HBd2.out HB4.out
end Go.Proofs.YtcebcncpbedkmaaGreat
