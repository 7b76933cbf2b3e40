/- The walk of hello.Read. Conditions: the argument reads as bytes, not too many. -/
import Derived.Test.YtcebcncpbedkmaaGreatZHelC
import Derived.Test.YtcebcncpbedkmaaGreatZHelP
import Derived.Test.YtcebcncpbedkmaaGreatZHelG
import Derived.Test.YtcebcncpbedkmaaGreatZRefTG
namespace Go.Proofs.YtcebcncpbedkmaaGreat
open Go Go.RowKit
set_option maxRecDepth 100000
set_option maxHeartbeats 8000000

/-- What Read of a hello hands back. -/
def GotRead (r : List Elt × Int) (w : World) (e : Ending) (w' : World) : Prop :=
  ∃ ve, e = .returned (.tuple #[.agg (msgE ve), .int .i64 r.2]) ∧ OutG ItmO 40 2 w.heap.size w' ve r.1 ∧ Below w.heap.size w w'
theorem GotRead.err {r : List Elt × Int} {er : Int} {w w' : World} (h : r = ([], er)) (hb : Below w.heap.size w w') : GotRead r w (.returned (.tuple #[.agg (msgE (.slice Option.none 0 0)), .int .i64 er])) w' := by
  subst h
  exact ⟨_, rfl, OutG.nil _ _ _ _ _, hb⟩
theorem OutRows.owns {L : Nat} {W : World} {v : Value} {pre : List Elt} (h : OutRows L W v pre) : OutG ItmO 108 2 L W v pre := by
  obtain ⟨xs, ho, hx⟩ := h
  refine ⟨xs, ho, fun i x hi => ?_⟩
  obtain ⟨bv, q1, q2, q3, q4, q5⟩ := hx i x.1 x.2 hi
  refine ⟨[.int .i64 x.1, bv], rfl, ⟨bv, rfl, q3, q4, wf_i64 (by omega) (by omega)⟩, fun j u hu => ?_⟩
  match j, hu with
  | 0, hu => simp at hu; subst hu; exact q1
  | 1, hu => simp at hu; subst hu; exact q2
theorem owns_open {e L : Nat} {W : World} {v : Value} {l : List Elt} (h : OutG ItmO e 2 L W v l) :
    ∃ a cap b off, v = .slice a l.length cap ∧ l.length ≤ cap ∧ cap ≤ maxLen ∧ (0 < l.length → a = some ⟨b, off, none⟩) ∧
      ∀ i t bs, l[i]? = some (t, bs) → ∃ bv, W.cell? ⟨b, off + i * 2, none⟩ = some (.int .i64 t) ∧ W.cell? ⟨b, off + i * 2 + 1, none⟩ = some bv ∧ ItmO L W (t, bs) [.int .i64 t, bv] := by
  obtain ⟨a, cap, b, off, h1, h2, h3, h4, h5, h6⟩ := OutG.rows (R := fun W x c => ItmO L W x c) h (fun h => h)
  refine ⟨a, cap, b, off, h1, h2, h3, h5, fun i t bs hi => ?_⟩
  obtain ⟨c, hc, hit, hcell⟩ := h6 i _ hi
  have hk := hit
  obtain ⟨bv, rfl, -⟩ := hit
  exact ⟨bv, hcell 0 _ rfl, hcell 1 _ rfl, hk⟩
theorem own_notrow {L e size n : Nat} {W : World} {v : Value} {xs : List Value} {b : Nat} {cs : Array Value} {t : TypeId} {fr : Nat × Nat} (h : W.ownsRow L e size v n xs) (hb : W.heap[b]? = some (.cells cs t fr)) (he : e ≠ t) : some b ≠ v.ownBlock := fun hv => NotTy.of_own h he b cs fr hv.symm hb

theorem grown_setR (w : World) (g : Nat) (cs : Array Value) : w.grownBy (w.setRow g cs) (some g) :=
  ⟨rfl, rfl, rfl, by rw [setRow_size]; exact Nat.le_refl _, fun k _ hne => setRow_other w g k cs (fun e => hne (by rw [e]))⟩

theorem hel_read {t : Int} {va : Value} {bs : List Int} {w : World} (h : Ints .u8 w va bs) (hl : bs.length ≤ 100000) :
    Calls Tryz.prog 19 #[.int .i64 t, va] w (GotRead (readH t bs) w) := by
  have HB0 := Lib.hid (below_alloc2 (w := w) (.cells (msgE (.slice none 0 0)) 35))
  have HR0 := Lib.hid (heap_alloc_new w (.cells (msgE (.slice none 0 0)) 35))
  have HV0 := Lib.hid (h.below HB0.out)
  have hcs := readH_cases t bs
  have hfew := Sh.cut_few shH bs
  obtain ⟨av, cv, bvv, ov, rfl, -⟩ := h.open
  have hs0 : w.heap.size + 1 ≤ (w.alloc (.cells (msgE (.slice none 0 0)) 35)).heap.size := by simp
  clear h
  by_cases ht : t = 0
  · subst ht
    go_enter Tryz.func19, Tryz.ntmps19
    go_wp2_with fail
    generalize w.alloc (.cells (msgE (.slice none 0 0)) 35) = w0 at HB0 HR0 HV0 hs0 ⊢
    refine (hel_has 0 _).mono ?_
    rintro e w1 ⟨rfl, rfl⟩
    go_wp2_with fail
    refine (hel_shape _).mono ?_
    rintro e w1 ⟨rfl, hb⟩
    have HB1 := Lib.hid (HB0.out.trans (hb.mono (by omega)))
    have HR1 := Lib.hid (row_below hb HR0.out)
    have HV1 := Lib.hid (HV0.out.below hb)
    have hs1 : w.heap.size + 1 ≤ w1.heap.size := Nat.le_trans hs0 hb.size
    clear hb HB0 HR0 HV0 hs0
    go_wp2_with fail
    have hc := tlv_cut (s := shH) HV1.out (by omega)
    unfold GotCut at hc
    generalize shH.cut bs = j at hc hcs hfew
    obtain ⟨items, je⟩ := j
    simp only at hc hcs hfew
    refine hc.mono ?_
    rintro e w2 ⟨vi, rfl, ho, hb⟩
    have HB2 := Lib.hid (HB1.out.trans (hb.mono (by omega)))
    have HR2 := Lib.hid (row_below hb HR1.out)
    have HI2 := Lib.hid (OutG.low ItmO.kind ho.owns (show w.heap.size ≤ w1.heap.size by omega))
    have hs2 : w.heap.size + 1 ≤ w2.heap.size := Nat.le_trans hs1 hb.size
    clear hb HB1 HR1 ho hc HV1
    obtain ⟨ai, ci, rfl⟩ := OutG.slice HI2.out
    by_cases hj : je = 0
    · subst hj
      have HM3 := Lib.hid (heap_alloc_new w2 (.cells (msgE (.slice none 0 0)) 35))
      have HR3 := Lib.hid (row_below (below_alloc2 (w := w2) (.cells (msgE (.slice none 0 0)) 35)) HR2.out)
      have HB3 := Lib.hid (HB2.out.trans ((below_alloc2 (w := w2) (.cells (msgE (.slice none 0 0)) 35)).mono (by omega)))
      have HI3 := Lib.hid (OutG.below ItmO.kind HI2.out (below_alloc2 (w := w2) (.cells (msgE (.slice none 0 0)) 35)))
      have hmx : items.length ≤ maxLen := by obtain ⟨_, _, _, _, e, h1, h2, -⟩ := owns_open HI3.out; omega
      unfold maxLen at hmx
      have HCs := Lib.hid hcs
      clear hcs HR2 HB2 HI2
      go_wp2_with fail
      go_loopw [27] (fun i wr => ∃ (k : Nat) (vr : Value), k ≤ items.length ∧ i = .int .i64 k ∧ Hid (wr.heap[w2.heap.size]? = some (.cells (msgE vr) 35 (0, 0))) ∧ Hid (wr.heap[w.heap.size]? = some (.cells (msgE (.slice none 0 0)) 35 (0, 0))) ∧ Hid (OutG ItmO 40 2 w.heap.size wr vr (items.take k)) ∧ Hid (OutG ItmO 108 2 w.heap.size wr (.slice ai items.length ci) items) ∧ Hid (Below w.heap.size w wr)) (fun i _ => items.length - (intOf i).toNat)
      case atStart => exact ⟨0, .slice none 0 0, by omega, rfl, HM3.out, HR3.out, OutG.nil _ _ _ _ _, HI3.out, HB3.out⟩
      case round =>
        obtain ⟨k, vr, hk, rfl, HM, HR, HO, HI, HB⟩ := hrel
        have hln : (items.take k).length = k := by rw [List.length_take]; omega
        obtain ⟨ar, capr, rfl⟩ := OutG.slice HO.out
        rw [hln] at HM HO
        have hsr := HB.out.size
        have hsm := (Array.getElem?_eq_some_iff.1 HM.out).1
        by_cases hlt : k < items.length
        · obtain ⟨a4, c4, b4, o4, e4, -, -, ha4, hit⟩ := owns_open HI.out
          injection e4 with e4 e5 e6
          subst e4 e6
          obtain rfl := ha4 (by omega)
          obtain ⟨⟨t, bs'⟩, hx⟩ : ∃ x, items[k]? = some x := ⟨_, List.getElem?_eq_getElem hlt⟩
          obtain ⟨bv, x0, x1, hE⟩ := hit k t bs' hx
          have HSn : Hid (items.take (k + 1) = items.take k ++ [(t, bs')]) := by show _ = _; rw [take_snoc' hx]
          have HEx := Lib.hid (ItmO.kind.agree hE (agree_below (below_alloc2 (w := wr) (.cells #[.int .i64 t, bv] 108))) |> fun h => ItmO.kind.low h (Nat.le_refl _))
          have HOx := Lib.hid (OutG.below ItmO.kind HO.out (below_alloc2 (w := wr) (.cells #[.int .i64 t, bv] 108)))
          have HMx := Lib.hid (row_below (below_alloc2 (w := wr) (.cells #[.int .i64 t, bv] 108)) HM.out)
          have HRx := Lib.hid (row_below (below_alloc2 (w := wr) (.cells #[.int .i64 t, bv] 108)) HR.out)
          have HIx := Lib.hid (OutG.below ItmO.kind HI.out (below_alloc2 (w := wr) (.cells #[.int .i64 t, bv] 108)))
          have HBx := Lib.hid (HB.out.trans ((below_alloc2 (w := wr) (.cells #[.int .i64 t, bv] 108)).mono hsr))
          have z4 := cell_row HMx.out 4
          obtain ⟨ab, cb, rfl⟩ : ∃ ab cb, bv = .slice ab bs'.length cb := by obtain ⟨_, e, h, -⟩ := hE; injection e with e1 e; injection e with e e2; subst e; exact own_slice h
          have HLn := Lib.hid hln
          have e1 : decide ((k : Int) < (items.length : Int)) = true := decide_eq_true (by omega)
          generalize items.take k = pre at HO HOx HSn HLn
          clear hx hE hit hln HO HM HR HI HB
          go_wp2_with (at_builtin; refine wpList_append_out ItmO.kind rfl _ _ _ rfl w.heap.size 40 (by decide) (.agg #[.int .i64 0, .slice none 0 0]) 2 32 Tryz.underlying25 (by kernel_rfl) rfl (by decide) (.slice ar k capr) pre (t, bs') rfl HOx.out [.int .i64 t, .slice ab bs'.length cb] (by rw [World.size_alloc]; rfl) rfl (by simp [Value.oneCell']) (by rw [HLn.out]; unfold maxLen; omega) (by rw [HLn.out]; omega) (by simp; omega) HEx.out ?_; intro v' w5 hown hg; have HO5 := Lib.hid hown; have HM5 := Lib.hid ((hg.block w2.heap.size (Array.getElem?_eq_some_iff.1 HMx.out).1 (by obtain ⟨xs, how, -⟩ := HOx.out; exact own_notrow how HMx.out (by decide))).trans HMx.out); have HR5 := Lib.hid ((hg.block w.heap.size (Array.getElem?_eq_some_iff.1 HRx.out).1 (by obtain ⟨xs, how, -⟩ := HOx.out; exact own_notrow how HRx.out (by decide))).trans HRx.out); have HI5 := Lib.hid (OutG.kept ItmO.kind HIx.out hg (by obtain ⟨xs, how, -⟩ := HOx.out; rintro ty (rfl | rfl) <;> exact NotTy.of_own how (by decide))); have HB5 := Lib.hid (by obtain ⟨xs, how, -⟩ := HOx.out; exact HBx.out.grown hg HBx.out.size (fun k e => by have := (how.lt k e).1; omega)); obtain ⟨a', c', rfl⟩ := OutG.slice hown; have z5 := cell_row HM5.out 4; have f5 := frozen_row HM5.out 4; clear hown hg)
          have HO5 : Hid (OutG ItmO 40 2 w.heap.size w5 (.slice a' (pre.length + 1) c') (pre ++ [(t, bs')])) := Lib.hid (by have := HO5.out; rw [List.length_append] at this; exact this)
          have HM6 := Lib.hid ((heap_put HM5.out 4 (.slice a' (pre.length + 1) c')).trans (by rfl : _ = some (.cells (msgE (.slice a' (pre.length + 1) c')) 35 (0, 0))))
          have hgp := Lib.hid (grown_put w5 w2.heap.size 4 (.slice a' (pre.length + 1) c'))
          have HR6 := Lib.hid ((hgp.out.block w.heap.size (Array.getElem?_eq_some_iff.1 HR5.out).1 (fun e => by injection e with e; omega)).trans HR5.out)
          have HO6 := Lib.hid (OutG.kept ItmO.kind HO5.out hgp.out (by rintro ty (rfl | rfl) <;> exact NotTy.of_block HM5.out (by decide)))
          have HI6 := Lib.hid (OutG.kept ItmO.kind HI5.out hgp.out (by rintro ty (rfl | rfl) <;> exact NotTy.of_block HM5.out (by decide)))
          have HB6 := Lib.hid (below_row HB5.out HB5.out.size hgp.out (by omega))
          go_roundw
          case rel => exact ⟨k + 1, by omega, by omega, .slice a' (pre.length + 1) c', HM6.out, HR6.out, by rw [HSn.out]; exact HO6.out, HI6.out, HB6.out⟩
          case measure => simp [intOf]; omega
        · obtain rfl : k = items.length := by omega
          rw [List.take_length] at HO
          have e1 : decide ((items.length : Int) < (items.length : Int)) = false := decide_eq_false (by omega)
          have z4 := cell_row HM.out 4
          have HLn := Lib.hid hln
          clear hln
          go_wp2_with fail
          refine (has_wrong (OutG.rows (R := ItemR) HO.out (fun h => ItmO.read h))).mono ?_
          rintro e w3 ⟨rfl, hb⟩
          have HM3 := Lib.hid (row_below hb HM.out)
          have HR3 := Lib.hid (row_below hb HR.out)
          have HO3 := Lib.hid (OutG.below ItmO.kind HO.out hb)
          have HB3 := Lib.hid (HB.out.trans (hb.mono hsr))
          clear hb z4 e1
          cases hw : items.any wrongE with
          | true =>
            have HQ : Hid (readH 0 bs = ([], 263)) := by
              show _ = _
              rcases HCs.out with ⟨h, -⟩ | ⟨-, h, -⟩ | ⟨-, -, -, h⟩ | ⟨-, -, h, -, -⟩
              · exact absurd rfl h
              · exact absurd rfl h
              · exact h
              · rw [hw] at h; cases h
            clear hw
            go_wp2_with (refine wpList_store_rowTo rfl 35 _ _ rfl rfl w.heap.size (msgE (.slice none 0 0)) rfl rfl _ _ HR3.out (by kernel_rfl) (by kernel_rfl) (by kernel_rfl) ?_; have hheap := setRow_heap w3 w.heap.size _ (msgE (.slice none 0 0)) _ _ HR3.out; have HB9 := Lib.hid (below_setRow HB3.out (Nat.le_refl _) (msgE (.slice none 0 0))))
            refine bodyPost_ret (res_row_tmpI rfl _ _ w.heap.size _ _ _ _ rfl hheap Tryz.underlying35 rfl (by kernel_rfl)) rfl ?_
            exact GotRead.err HQ.out HB9.out
          | false =>
            by_cases hbl : 65527 < bs.length
            · have HQ : Hid (readH 0 bs = ([], 263)) := by
                show _ = _
                rcases HCs.out with ⟨h, -⟩ | ⟨-, h, -⟩ | ⟨-, -, -, h⟩ | ⟨-, -, -, h, -⟩
                · exact absurd rfl h
                · exact absurd rfl h
                · exact h
                · omega
              have e2 : (65527 : Int) < (bs.length : Int) := by omega
              clear hw hbl
              go_wp2_with (refine wpList_store_rowTo rfl 35 _ _ rfl rfl w.heap.size (msgE (.slice none 0 0)) rfl rfl _ _ HR3.out (by kernel_rfl) (by kernel_rfl) (by kernel_rfl) ?_; have hheap := setRow_heap w3 w.heap.size _ (msgE (.slice none 0 0)) _ _ HR3.out; have HB9 := Lib.hid (below_setRow HB3.out (Nat.le_refl _) (msgE (.slice none 0 0))))
              refine bodyPost_ret (res_row_tmpI rfl _ _ w.heap.size _ _ _ _ rfl hheap Tryz.underlying35 rfl (by kernel_rfl)) rfl ?_
              exact GotRead.err HQ.out HB9.out
            · have HQ : Hid (readH 0 bs = (items, 0)) := by
                show _ = _
                rcases HCs.out with ⟨h, -⟩ | ⟨-, h, -⟩ | ⟨-, -, h, -⟩ | ⟨-, -, -, -, h⟩
                · exact absurd rfl h
                · exact absurd rfl h
                · rcases h with h | h
                  · rw [hw] at h; cases h
                  · exact absurd h hbl
                · exact h
              have e2 : ¬ (65527 : Int) < (bs.length : Int) := by omega
              clear hw hbl
              have m0 := cell_row HM3.out 0
              have m1 := cell_row HM3.out 1
              have m2 := cell_row HM3.out 2
              have m3 := cell_row HM3.out 3
              have m4 := cell_row HM3.out 4
              have m5 := cell_row HM3.out 5
              have m6 := cell_row HM3.out 6
              have m7 := cell_row HM3.out 7
              have m8 := cell_row HM3.out 8
              have m9 := cell_row HM3.out 9
              have m10 := cell_row HM3.out 10
              have m11 := cell_row HM3.out 11
              have m12 := cell_row HM3.out 12
              have m13 := cell_row HM3.out 13
              have m14 := cell_row HM3.out 14
              go_wp2_with (refine wpList_store_rowTo rfl 35 _ _ rfl rfl w.heap.size (msgE (.slice ar items.length capr)) rfl rfl _ _ HR3.out (by kernel_rfl) (by kernel_rfl) (by kernel_rfl) ?_; have hheap := setRow_heap w3 w.heap.size _ (msgE (.slice ar items.length capr)) _ _ HR3.out; have HB9 := Lib.hid (below_setRow HB3.out (Nat.le_refl _) (msgE (.slice ar items.length capr))))
              refine bodyPost_ret (res_row_tmpI rfl _ _ w.heap.size _ _ _ _ rfl hheap Tryz.underlying35 rfl (by kernel_rfl)) rfl ?_
              unfold GotRead
              rw [HQ.out]
              exact ⟨_, rfl, OutG.kept ItmO.kind HO3.out (grown_setR _ _ _) (by rintro ty (rfl | rfl) <;> exact NotTy.of_block HR3.out (by decide)), HB9.out⟩
    · have HQ : Hid (readH 0 bs = ([], je)) := by
        show _ = _
        rcases hcs with ⟨h, -⟩ | ⟨-, -, h⟩ | ⟨-, h, -, -⟩ | ⟨-, h, -⟩
        · exact absurd rfl h
        · exact h
        · exact absurd h hj
        · exact absurd h hj
      have e2 : (je != 0) = true := by simpa using hj
      clear hj hcs
      go_wp2_with (refine wpList_store_rowTo rfl 35 _ _ rfl rfl w.heap.size (msgE (.slice none 0 0)) rfl rfl _ _ HR2.out (by kernel_rfl) (by kernel_rfl) (by kernel_rfl) ?_; have hheap := setRow_heap w2 w.heap.size _ (msgE (.slice none 0 0)) _ _ HR2.out; have HB9 := Lib.hid (below_setRow HB2.out (Nat.le_refl _) (msgE (.slice none 0 0))))
      refine bodyPost_ret (res_row_tmpI rfl _ _ w.heap.size _ _ _ _ rfl hheap Tryz.underlying35 rfl (by kernel_rfl)) rfl ?_
      exact GotRead.err HQ.out HB9.out
  · have HQ : Hid (readH t bs = ([], 10001)) := by
      show _ = _
      rcases hcs with ⟨-, h⟩ | ⟨h, -⟩ | ⟨h, -⟩ | ⟨h, -⟩
      · exact h
      · exact absurd h ht
      · exact absurd h ht
      · exact absurd h ht
    have e2 : (t == 0) = false := by simpa using ht
    clear ht hcs
    go_enter Tryz.func19, Tryz.ntmps19
    go_wp2_with fail
    generalize w.alloc (.cells (msgE (.slice none 0 0)) 35) = w0 at HB0 HR0 HV0 hs0 ⊢
    refine (hel_has t _).mono ?_
    rintro e w1 ⟨rfl, rfl⟩
    go_wp2_with (refine wpList_store_rowTo rfl 35 _ _ rfl rfl w.heap.size (msgE (.slice none 0 0)) rfl rfl _ _ HR0.out (by kernel_rfl) (by kernel_rfl) (by kernel_rfl) ?_; have hheap := setRow_heap w0 w.heap.size _ (msgE (.slice none 0 0)) _ _ HR0.out; have HB9 := Lib.hid (below_setRow HB0.out (Nat.le_refl _) (msgE (.slice none 0 0))))
    refine bodyPost_ret (res_row_tmpI rfl _ _ w.heap.size _ _ _ _ rfl hheap Tryz.underlying35 rfl (by kernel_rfl)) rfl ?_
    exact GotRead.err HQ.out HB9.out
end Go.Proofs.YtcebcncpbedkmaaGreat
