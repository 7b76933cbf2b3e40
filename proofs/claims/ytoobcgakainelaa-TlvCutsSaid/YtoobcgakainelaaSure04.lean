/- The fixed calls of the fourth chapter's statements come out true. -/
import Derived.Test.YtoobcgakainelaaRefTC
namespace Go.Proofs.Ytoobcgakainelaa
open Go.RowKit
set_option maxRecDepth 100000
set_option maxHeartbeats 4000000

def su4 : Sh := ⟨4, 8, true, 263, 269⟩
theorem su4_cut : su4.cut [0, 1, 0, 6, 9, 9, 0, 0] = ([(1, [9, 9])], 0) := by decide
theorem su4_join : su4.join [(1, [9, 9])] = ([0, 1, 0, 6, 9, 9, 0, 0], 0) := by decide
theorem su4_bad : su4.cut [0, 1, 0, 6, 9, 9, 0, 1] = ([], 269) := by decide

/-- A literal row of one thing. -/
theorem one_item {w : World} {t : Int} {ab : Option Addr} {m capb : Nat} {zs : List Int} (e : TypeId) (h : Ints .u8 w (.slice ab m capb) zs) (ht : (Lit.int .i64 t).wf = true) :
    RowsOf ItemR 2 (w.alloc (.cells #[.int .i64 t, .slice ab m capb] e)) (.slice (some ⟨w.heap.size, 0, none⟩) 1 1) [(t, zs)] := by
  refine ⟨_, 1, w.heap.size, 0, rfl, by simp, by unfold maxLen; omega, by simp, fun _ => rfl, fun i x hi => ?_⟩
  cases i with
  | zero =>
    have e' : (t, zs) = x := by simpa using hi
    subst e'
    refine ⟨[.int .i64 t, .slice ab m capb], rfl, ⟨_, rfl, h.alloc _, ht⟩, fun j u hu => ?_⟩
    have hb := heap_alloc_new w (.cells #[.int .i64 t, .slice ab m capb] e)
    match j, hu with
    | 0, hu => simp at hu; subst hu; exact cell_row hb 0
    | 1, hu => simp at hu; subst hu; exact cell_row hb 1
  | succ i => simp at hi

theorem sure04 (w : World) : Calls Try.prog 9 #[] w fun e w' => e = .returned (.bool true) ∧ Below w.heap.size w w' := by
  have H0 := Lib.hid (Sh1.start w su4)
  go_enter Try.func9, Try.ntmps9
  go_wp2_with fail
  have hc := tlv_cut (s := su4) (Ints.lit .u8 (w.alloc (.cells #[.int .i64 4, .int .i64 8, .bool true, .int .i64 263, .int .i64 269] 24)) 5 [0, 1, 0, 6, 9, 9, 0, 0] (w.heap.size + 1) (by simp) (by decide) (by decide)) (by decide)
  refine hc.mono ?_
  clear hc
  rintro e w2 ⟨v, rfl, ho, hb⟩
  rw [su4_cut] at ho ⊢
  have H2 := Lib.hid ((H0.out.step (below_alloc2 _) H0.out.size).step hb (by have := H0.out.size; simp))
  have HL2 := Lib.hid ho.rows
  obtain ⟨av, capv, rfl⟩ := ho.slice
  obtain ⟨c0, c1, c2, c3, c4⟩ := H2.out.cells
  clear ho hb
  go_wp2_with fail
  have hj := tlv_join (s := su4) (one_item (w := w2.alloc (.cells #[.int .u8 9, .int .u8 9] 5)) (t := 1) 28 (Ints.lit .u8 w2 5 [9, 9] _ rfl (by decide) (by decide)) (by decide)) (by decide) (by decide)
  rw [World.size_alloc] at hj
  refine hj.mono ?_
  clear hj
  rintro e w3 ⟨v2, rfl, ho, hu, hb⟩
  rw [su4_join] at ho hu ⊢
  have hb' := ((below_alloc2 (w := w2) (.cells #[.int .u8 9, .int .u8 9] 5)).trans ((below_alloc2 (.cells #[.int .i64 1, .slice (some ⟨w2.heap.size, 0, none⟩) 2 2] 28)).mono (by simp))).trans (hb.mono (by simp; omega))
  have H3 := Lib.hid (H2.out.step hb' H2.out.size)
  have HL3 := Lib.hid (HL2.out.below ItemR.lasts hb')
  have HV3 := Lib.hid (Ints.of_own ho hu.wf)
  obtain ⟨av2, capv2, rfl⟩ := own_slice ho
  clear ho hu hb hb' c0 c1 c2 c3 c4
  obtain ⟨c0, c1, c2, c3, c4⟩ := H3.out.cells
  go_wp2_with fail
  have hc := tlv_cut (s := su4) (Ints.lit .u8 w3 5 [0, 1, 0, 6, 9, 9, 0, 1] _ rfl (by decide) (by decide)) (by decide)
  refine hc.mono ?_
  clear hc
  rintro e w4 ⟨v3, rfl, ho, hb⟩
  rw [su4_bad] at ho ⊢
  have hb' := (below_alloc2 (w := w3) (.cells #[.int .u8 0, .int .u8 1, .int .u8 0, .int .u8 6, .int .u8 9, .int .u8 9, .int .u8 0, .int .u8 1] 5)).trans (hb.mono (by simp))
  have H4 := Lib.hid (H3.out.step hb' H3.out.size)
  have HL4 := Lib.hid (HL3.out.below ItemR.lasts hb')
  have HV4 := Lib.hid (HV3.out.below hb')
  obtain ⟨av3, capv3, rfl⟩ := ho.slice
  clear ho hb hb' c0 c1 c2 c3 c4
  obtain ⟨a, cap, b, off, e, hcap, hmx, -, ha, hit⟩ := items_open HL4.out
  injection e with e1 e2 e3
  subst e1 e3
  obtain rfl := ha (by simp)
  obtain ⟨bv, k0, k1, hbv, -⟩ := hit 0 1 [9, 9] rfl
  rw [Nat.zero_mul, Nat.add_zero] at k0 k1
  obtain ⟨ab, capb, bb, ob, rfl, -⟩ := hbv.open
  have HB4 := Lib.hid hbv
  clear ha hit hbv e2
  go_wp2_with fail
  refine (ref_bytes _ _ [9, 9] [9, 9] _ (HB4.out.alloc _) (Ints.lit .u8 w4 5 [9, 9] _ rfl (by decide) (by decide))).mono ?_
  rintro e w5 ⟨rfl, hb⟩
  have hb5 := (below_alloc2 (w := w4) (.cells #[.int .u8 9, .int .u8 9] 5)).trans (hb.mono (by simp))
  have HB5 := Lib.hid (H4.out.below.trans (hb5.mono H4.out.below.size))
  have HV5 := Lib.hid (HV4.out.below hb5)
  clear hb hb5
  rw [show decide (([9, 9] : List Int) = [9, 9]) = true by decide]
  go_wp2_with fail
  refine (ref_bytes _ _ [0, 1, 0, 6, 9, 9, 0, 0] [0, 1, 0, 6, 9, 9, 0, 0] _ (HV5.out.alloc _) (Ints.lit .u8 w5 5 [0, 1, 0, 6, 9, 9, 0, 0] _ rfl (by decide) (by decide))).mono ?_
  rintro e w6 ⟨rfl, hb⟩
  have hb6 := (below_alloc2 (w := w5) (.cells #[.int .u8 0, .int .u8 1, .int .u8 0, .int .u8 6, .int .u8 9, .int .u8 9, .int .u8 0, .int .u8 0] 5)).trans (hb.mono (by simp))
  have HB6 := Lib.hid (HB5.out.trans (hb6.mono HB5.out.size))
  clear hb hb6
  rw [show decide (([0, 1, 0, 6, 9, 9, 0, 0] : List Int) = [0, 1, 0, 6, 9, 9, 0, 0]) = true by decide]
  go_wp2_with fail
  go_ret
  exact ⟨rfl, HB6.out⟩

end Go.Proofs.Ytoobcgakainelaa
