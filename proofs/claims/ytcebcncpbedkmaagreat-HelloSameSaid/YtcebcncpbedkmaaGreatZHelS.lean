/- The fixed calls of the twenty-first chapter's statements come out true. -/
import Derived.Test.YtcebcncpbedkmaaGreatZHelH
import Derived.Test.YtcebcncpbedkmaaGreatZHelD
import Derived.Test.YtcebcncpbedkmaaGreatZBodyA
namespace Go.Proofs.YtcebcncpbedkmaaGreat
open Go Go.RowKit
set_option maxRecDepth 100000
set_option maxHeartbeats 8000000

theorem su_body : bodyH 0 true [(1, [0, 0, 0, 16])] = ([0, 1, 0, 8, 0, 0, 0, 16], 0) := by decide
theorem su_read : readH 0 [0, 1, 0, 8, 0, 0, 0, 16] = ([(1, [0, 0, 0, 16])], 0) := by decide
theorem su_bad : readH 0 [0, 1, 0, 6, 1, 2, 0, 0] = ([], 263) := by decide
theorem one_elt {w : World} {t : Int} {ab : Option Addr} {m capb : Nat} {zs : List Int} (e : TypeId) (h : Ints .u8 w (.slice ab m capb) zs) (ht : (Lit.int .i64 t).wf = true) :
    RowsOf ItemR 2 (w.alloc (.cells #[.int .i64 t, .slice ab m capb] e)) (.slice (some ⟨w.heap.size, 0, none⟩) 1 1) [(t, zs)] := by
  refine ⟨_, 1, w.heap.size, 0, rfl, by simp, by unfold maxLen; omega, by simp, fun _ => rfl, fun i x hi => ?_⟩
  cases i with
  | zero =>
    have e' : (t, zs) = x := by simpa using hi
    subst e'
    refine ⟨[.int .i64 t, .slice ab m capb], rfl, ⟨_, rfl, h.alloc _, ht⟩, fun j u hu => ?_⟩
    have hb := heap_alloc_new w (.cells #[.int .i64 t, .slice ab m capb] e)
    match j, hu with
    | 0, hu => simp at hu; subst hu; exact cell_row hb 0
    | 1, hu => simp at hu; subst hu; exact cell_row hb 1
  | succ i => simp at hi
abbrev L1 (a : Option Addr) (n c : Nat) : Lens := ⟨a, n, c, none, 0, 0, none, 0, 0, none, 0, 0, none, 0, 0, none, 0, 0, none, 0, 0, none, 0, 0, none, 0, 0, 0, 0⟩
theorem su_bare (a : Option Addr) (n c : Nat) : bareL (L1 a n c) = decide (n = 0) := by simp [bareL]

theorem sure21 (w : World) : Calls Tryz.prog 5 #[] w fun e w' => e = .returned (.bool true) ∧ Below w.heap.size w w' := by
  have hE0 := one_elt (w := w.alloc (.cells #[.int .u8 0, .int .u8 0, .int .u8 0, .int .u8 16] 5)) (t := 1) 40 (Ints.lit .u8 w 5 [0, 0, 0, 16] _ rfl (by decide) (by decide)) (by decide)
  have hb0 := ((below_alloc2 (w := w) (.cells #[.int .u8 0, .int .u8 0, .int .u8 0, .int .u8 16] 5)).trans ((below_alloc2 (.cells #[.int .i64 1, .slice (some ⟨w.heap.size, 0, none⟩) 4 4] 40)).mono (by simp)))
  rw [World.size_alloc] at hE0
  have HB0 := Lib.hid hb0
  have HE0 := Lib.hid hE0
  clear hb0 hE0
  go_enter Tryz.func5, Tryz.ntmps5
  go_wp2_with fail
  have hbd := hel_body (ty := 0) (xid := 7) (an := none) (nn := 0) (cn := 0) (ad := none) (nd := 0) (cd := 0) (L := L1 (some ⟨w.heap.size + 1, 0, none⟩) 1 1) (els := [(1, [0, 0, 0, 16])]) HE0.out (by decide) (by decide) (fun W => bare_go 0 7 none 0 0 none 0 0 _ W)
  rw [show (decide (0 = 0) && bareL (L1 (some ⟨w.heap.size + 1, 0, none⟩) 1 1).noEl && decide (0 = 0)) = true from rfl, su_body] at hbd
  refine hbd.mono ?_
  clear hbd
  rintro e w1 ⟨v1, rfl, ho, hu, hb⟩
  simp only at ho hu ⊢
  have HB1 := Lib.hid (HB0.out.trans (hb.mono (by simp; omega)))
  have HV1 := Lib.hid (Ints.of_own ho hu.wf)
  obtain ⟨a1, c1, rfl⟩ := own_slice ho
  clear ho hu hb
  go_wp2_with fail
  have hrd := hel_read (t := 0) HV1.out (by decide)
  rw [su_read] at hrd
  refine hrd.mono ?_
  clear hrd
  rintro e w2 ⟨ve, rfl, hoe, hb⟩
  simp only at hoe ⊢
  have HB2 := Lib.hid (HB1.out.trans (hb.mono HB1.out.size))
  have HV2 := Lib.hid (HV1.out.below hb)
  have HE2 := Lib.hid (OutG.rows (R := ItemR) hoe (fun h => ItmO.read h))
  obtain ⟨a2, c2, rfl⟩ := OutG.slice hoe
  clear hoe hb
  rw [show ([(1, [0, 0, 0, 16])] : List Elt).length = 1 from rfl] at HE2 ⊢
  have hM := heap_alloc_new w2 (.cells (msgE (.slice a2 1 c2)) 35)
  have m0 := cell_row hM 0
  have m1 := cell_row hM 1
  have m2 := cell_row hM 2
  have m3 := cell_row hM 3
  have m4 := cell_row hM 4
  have m5 := cell_row hM 5
  have m6 := cell_row hM 6
  have m7 := cell_row hM 7
  have m8 := cell_row hM 8
  have m9 := cell_row hM 9
  have m10 := cell_row hM 10
  have m11 := cell_row hM 11
  have m12 := cell_row hM 12
  have m13 := cell_row hM 13
  have m14 := cell_row hM 14
  have HM2 := Lib.hid hM
  have HE3 := Lib.hid (HE2.out.below ItemR.lasts (below_alloc2 (.cells (msgE (.slice a2 1 c2)) 35)))
  have HV3 := Lib.hid (HV2.out.below (below_alloc2 (.cells (msgE (.slice a2 1 c2)) 35)))
  have HB3 := Lib.hid (HB2.out.trans ((below_alloc2 (.cells (msgE (.slice a2 1 c2)) 35)).mono HB2.out.size))
  clear hM
  go_wp2_with fail
  refine (hel_of HE3.out).mono ?_
  rintro e w3 ⟨vo, rfl, ho, hb⟩
  have HB4 := Lib.hid (HB3.out.trans (hb.mono HB3.out.size))
  have HV4 := Lib.hid (HV3.out.below hb)
  have HM4 := Lib.hid (row_below hb HM2.out)
  have HO4 := Lib.hid (Ints.of_own (zs := [4]) (k := .i64) ho (by decide))
  obtain ⟨a3, c3, rfl⟩ := own_slice ho
  clear ho hb m0 m1 m2 m3 m4 m5 m6 m7 m8 m9 m10 m11 m12 m13 m14
  have hO := heap_alloc_new w3 (.cells #[.int .i64 4, .bool true, .slice a3 1 c3] 61)
  have o0 := cell_row hO 0
  have o1 := cell_row hO 1
  have o2 := cell_row hO 2
  have HO0 := Lib.hid hO
  have hb5 := (below_alloc2 (w := w3) (.cells #[.int .i64 4, .bool true, .slice a3 1 c3] 61)).trans ((below_alloc2 (w := w3.alloc (.cells #[.int .i64 4, .bool true, .slice a3 1 c3] 61)) (.cells #[.int .i64 1, .int .i64 4, .int .i64 5] 3)).mono (by simp))
  have HA5 := Lib.hid (HO4.out.below (below_alloc2 (.cells #[.int .i64 4, .bool true, .slice a3 1 c3] 61)))
  have hl5 := Ints.lit .i64 (w3.alloc (.cells #[.int .i64 4, .bool true, .slice a3 1 c3] 61)) 3 [1, 4, 5] _ rfl (by decide) (by decide)
  have ha5 := HA5.out.below (below_alloc2 (w := w3.alloc (.cells #[.int .i64 4, .bool true, .slice a3 1 c3] 61)) (.cells #[.int .i64 1, .int .i64 4, .int .i64 5] 3))
  rw [World.size_alloc] at hl5
  have hch := hel_choose ha5 hl5
  have HCh := Lib.hid hch
  have HHb5 := Lib.hid hb5
  clear hb5 hl5 ha5 hch hO
  go_wp2_with fail
  refine HCh.out.mono ?_
  rintro e w4 ⟨rfl, hb⟩
  have hb' := HHb5.out.trans (hb.mono (by simp; omega))
  have HB5 := Lib.hid (HB4.out.trans (hb'.mono HB4.out.size))
  have HV5 := Lib.hid (HV4.out.below hb')
  have HM5 := Lib.hid (row_below hb' HM4.out)
  have HA6 := Lib.hid (HA5.out.below ((below_alloc2 (w := w3.alloc (.cells #[.int .i64 4, .bool true, .slice a3 1 c3] 61)) (.cells #[.int .i64 1, .int .i64 4, .int .i64 5] 3)).trans (hb.mono (by simp))))
  have HO5 := Lib.hid (row_below ((below_alloc2 (w := w3.alloc (.cells #[.int .i64 4, .bool true, .slice a3 1 c3] 61)) (.cells #[.int .i64 1, .int .i64 4, .int .i64 5] 3)).trans (hb.mono (by simp))) HO0.out)
  clear hb hb' o0 o1 o2 HCh HHb5
  go_wp2_with fail
  have hl6 := Ints.lit .u8 w4 5 [0, 1, 0, 6, 1, 2, 0, 0] _ rfl (by decide) (by decide)
  have hr6 := hel_read (t := 0) hl6 (by decide)
  rw [su_bad] at hr6
  refine hr6.mono ?_
  clear hr6 hl6
  rintro e w5 ⟨vx, rfl, hox, hb⟩
  simp only at hox ⊢
  obtain ⟨ax, cx, rfl⟩ := OutG.slice hox
  rw [show ([] : List Elt).length = 0 from rfl]
  have hb6 := (below_alloc2 (w := w4) (.cells #[.int .u8 0, .int .u8 1, .int .u8 0, .int .u8 6, .int .u8 1, .int .u8 2, .int .u8 0, .int .u8 0] 5)).trans (hb.mono (by simp))
  have HB6 := Lib.hid (HB5.out.trans (hb6.mono HB5.out.size))
  have HV6 := Lib.hid (HV5.out.below hb6)
  have HM6 := Lib.hid (row_below hb6 HM5.out)
  have HO6 := Lib.hid (row_below hb6 HO5.out)
  have HA7 := Lib.hid (HA6.out.below hb6)
  clear hox hb hb6
  have hb7 := (below_alloc2 (w := w5) (.cells #[.int .i64 0, .int .u32 0, .slice none 0 0, .slice none 0 0, .slice ax 0 cx, .slice none 0 0, .slice none 0 0, .slice none 0 0, .slice none 0 0, .slice none 0 0, .slice none 0 0, .slice none 0 0, .int .i64 0, .int .i64 0, .slice none 0 0] 35)).trans ((below_alloc2 (w := w5.alloc (.cells #[.int .i64 0, .int .u32 0, .slice none 0 0, .slice none 0 0, .slice ax 0 cx, .slice none 0 0, .slice none 0 0, .slice none 0 0, .slice none 0 0, .slice none 0 0, .slice none 0 0, .slice none 0 0, .int .i64 0, .int .i64 0, .slice none 0 0] 35)) (.cells #[.int .u8 0, .int .u8 1, .int .u8 0, .int .u8 8, .int .u8 0, .int .u8 0, .int .u8 0, .int .u8 16] 5)).mono (by simp))
  have hl7 := Ints.lit .u8 (w5.alloc (.cells #[.int .i64 0, .int .u32 0, .slice none 0 0, .slice none 0 0, .slice ax 0 cx, .slice none 0 0, .slice none 0 0, .slice none 0 0, .slice none 0 0, .slice none 0 0, .slice none 0 0, .slice none 0 0, .int .i64 0, .int .i64 0, .slice none 0 0] 35)) 5 [0, 1, 0, 8, 0, 0, 0, 16] _ rfl (by decide) (by decide)
  rw [World.size_alloc] at hl7
  have hq7 := ref_bytes _ _ _ _ _ (HV6.out.below hb7) hl7
  rw [decide_eq_true (Eq.refl ([0, 1, 0, 8, 0, 0, 0, 16] : List Int))] at hq7
  have HQ7 := Lib.hid hq7
  have HHb7 := Lib.hid hb7
  clear hb7 hl7 hq7
  go_wp2_with fail
  refine HQ7.out.mono ?_
  rintro e w6 ⟨rfl, hb⟩
  have hb' := HHb7.out.trans (hb.mono (by simp; omega))
  have HB7 := Lib.hid (HB6.out.trans (hb'.mono HB6.out.size))
  have HM7 := Lib.hid (row_below hb' HM6.out)
  have HO7 := Lib.hid (row_below hb' HO6.out)
  have HA8 := Lib.hid (HA7.out.below hb')
  clear hb hb' HQ7 HHb7
  have m4 := cell_row HM7.out 4
  have o1 := cell_row HO7.out 1
  have o2 := cell_row HO7.out 2
  have hl8 := Ints.lit .i64 w6 3 [4] _ rfl (by decide) (by decide)
  have hq8 := ref_ints _ _ _ _ _ (HA8.out.below (below_alloc2 (.cells #[.int .i64 4] 3))) hl8
  rw [decide_eq_true (Eq.refl ([4] : List Int))] at hq8
  have HQ8 := Lib.hid hq8
  clear hl8 hq8
  go_wp2_with fail
  refine HQ8.out.mono ?_
  rintro e w7 ⟨rfl, hb⟩
  have hb' := (below_alloc2 (w := w6) (.cells #[.int .i64 4] 3)).trans (hb.mono (by simp))
  have HB8 := Lib.hid (HB7.out.trans (hb'.mono HB7.out.size))
  have HM8 := Lib.hid (row_below hb' HM7.out)
  clear hb hb' HQ8 m4 o1 o2
  go_wp2_with fail
  have hr8 := bare_go 3 1 none 0 0 none 0 0 (L1 none 0 0) w7
  rw [su_bare] at hr8
  refine hr8.mono ?_
  clear hr8
  rintro e w8 ⟨rfl, hb⟩
  have HB9 := Lib.hid (HB8.out.trans (hb.mono HB8.out.size))
  have HM9 := Lib.hid (row_below hb HM8.out)
  clear hb
  have m0 := cell_row HM9.out 0
  have m1 := cell_row HM9.out 1
  have m2 := cell_row HM9.out 2
  have m3 := cell_row HM9.out 3
  have m4 := cell_row HM9.out 4
  have m5 := cell_row HM9.out 5
  have m6 := cell_row HM9.out 6
  have m7 := cell_row HM9.out 7
  have m8 := cell_row HM9.out 8
  have m9 := cell_row HM9.out 9
  have m10 := cell_row HM9.out 10
  have m11 := cell_row HM9.out 11
  have m12 := cell_row HM9.out 12
  have m13 := cell_row HM9.out 13
  have m14 := cell_row HM9.out 14
  go_wp2_with fail
  have hr9 := bare_go 0 0 none 0 0 none 0 0 (L1 a2 1 c2) w8
  rw [su_bare] at hr9
  refine hr9.mono ?_
  clear hr9
  rintro e w9 ⟨rfl, hb⟩
  have HB10 := Lib.hid (HB9.out.trans (hb.mono HB9.out.size))
  clear hb
  go_wp2_with fail
  go_ret
  exact ⟨rfl, HB10.out⟩
end Go.Proofs.YtcebcncpbedkmaaGreat
