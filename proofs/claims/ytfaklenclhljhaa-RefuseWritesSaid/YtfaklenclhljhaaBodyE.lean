/- The walk of the document's Body of chapter 26, of any message. Conditions: the data is not too long. -/
import Derived.Test.YtfaklenclhljhaaBodyD
import Derived.Test.YtfaklenclhljhaaRowH
namespace Go.Proofs.Ytfaklenclhljhaa
open Go.RowKit
set_option maxRecDepth 100000
set_option maxHeartbeats 4000000

theorem ref_body26_a (ty xid : Int) (v vd : Value) (nums ds : List Int) (L : Lens) (w : World) (h : Ints .u64 w v nums) (hd : Ints .u8 w vd ds) (hl : ds.length ≤ 3000) (his : (rowR ty).2 = false) :
    Calls Try.prog 22 #[.agg (msgL ty xid v vd L)] w fun e w' => ∃ vb, e = .returned (.tuple #[vb, .int .i64 (bodyR ty nums ds (bareL L)).2]) ∧ Ints .u8 w' vb (bodyR ty nums ds (bareL L)).1 ∧ Below w.heap.size w w' := by
  have _ := hl
  have h := Lib.hid h
  have hd := Lib.hid hd
  have hp8 := rowR_put ty nums
  obtain ⟨a, cap, b, off, rfl, -⟩ := h.out.open
  obtain ⟨ad, cd, bd, od, rfl, -⟩ := hd.out.open
  have HBx : Hid (Below w.heap.size w (w.alloc (.cells (msgL ty xid (.slice a nums.length cap) (.slice ad ds.length cd) L) 35))) := below_alloc2 _
  have HX := Lib.hid (h.out.below HBx.out)
  have HPt : ∀ (w : World) (v1 v2 : Value), Ints .i64 w v1 (rowR ty).1 → Ints .u64 w v2 nums → Hid (Calls Try.prog 45 #[v1, v2] w (fun e w' => ∃ v', e = .returned (.tuple #[v', .bool (putS (rowR ty).1 nums).isSome]) ∧ w'.ownsRow w.heap.size 5 1 v' ((putS (rowR ty).1 nums).getD []).length (((putS (rowR ty).1 nums).getD []).map (Value.int .u8)) ∧ Below w.heap.size w w')) := fun w v1 v2 i1 i2 => ref_put v1 v2 _ _ w i1 i2
  have HR := fun w => Lib.hid (ref_row26 ty w)
  have hq : bodyR ty nums ds (bareL L) = ([], 10001) := if_neg (by simp [his])
  rw [hq]
  clear hq
  rw [his] at HR
  go_enter Try.func22, Try.ntmps22
  go_wp2_with fail
  (with_reducible refine (HR _).out.mono ?_)
  rintro e w1 ⟨vw, rfl, hw, hb⟩
  have HB1 := Lib.hid hb
  have HH1 := (hb.block w.heap.size (by simp)).trans (heap_alloc_new _ _)
  have c2 := cell_heap HH1 2
  have HP1 := HPt _ _ _ hw (HX.out.below hb)
  clear hb hw HH1
  go_wp2_with fail
  (with_reducible refine HP1.out.mono ?_)
  rintro e w2 ⟨vb, rfl, hvo, hb⟩
  have HS12 : Hid (w1.heap.size ≤ w2.heap.size) := hb.size
  have HB2 := Lib.hid (HB1.out.trans (hb.mono HB1.out.size))
  have HH2 := (HB2.out.block w.heap.size (by simp)).trans (heap_alloc_new _ _)
  have hs2 : Hid (w.heap.size < w2.heap.size) := (Array.getElem?_eq_some_iff.1 HH2).1
  have HO2 := Lib.hid hvo
  have HH2 := Lib.hid HH2
  obtain ⟨ab, cb, rfl⟩ := own_slice hvo
  have k0 := cell_heap HH2.out 0
  have k1 := cell_heap HH2.out 1
  have k2 := cell_heap HH2.out 2
  have k3 := cell_heap HH2.out 3
  have k4 := cell_heap HH2.out 4
  have k5 := cell_heap HH2.out 5
  have k6 := cell_heap HH2.out 6
  have k7 := cell_heap HH2.out 7
  have k8 := cell_heap HH2.out 8
  have k9 := cell_heap HH2.out 9
  have k10 := cell_heap HH2.out 10
  have k11 := cell_heap HH2.out 11
  have k12 := cell_heap HH2.out 12
  have k13 := cell_heap HH2.out 13
  have k14 := cell_heap HH2.out 14
  clear hb hvo
  have HB4 : Hid (Below w.heap.size w (w2.alloc (.cells (msgL ty xid nilV nilV L) 35))) := (below1 HB2.out).alloc (below1 HB2.out).size _
  have HO4 := Lib.hid (own_below HO2.out (below_alloc2 (.cells (msgL ty xid nilV nilV L) 35)))
  have HM4 := Lib.hid (((below_alloc2 (w := w2) (.cells (msgL ty xid nilV nilV L) 35)).block w.heap.size hs2.out).trans HH2.out)
  go_wp2_with fail
  go_ret2
  exact ⟨_, rfl, Ints.nil _ _, HB4.out⟩

theorem ref_body26_b (ty xid : Int) (v vd : Value) (nums ds : List Int) (L : Lens) (w : World) (h : Ints .u64 w v nums) (hd : Ints .u8 w vd ds) (hl : ds.length ≤ 3000) (his : (rowR ty).2 = true) (hok : (putS (rowR ty).1 nums).isSome = false) :
    Calls Try.prog 22 #[.agg (msgL ty xid v vd L)] w fun e w' => ∃ vb, e = .returned (.tuple #[vb, .int .i64 (bodyR ty nums ds (bareL L)).2]) ∧ Ints .u8 w' vb (bodyR ty nums ds (bareL L)).1 ∧ Below w.heap.size w w' := by
  have _ := hl
  have h := Lib.hid h
  have hd := Lib.hid hd
  have hp8 := rowR_put ty nums
  obtain ⟨a, cap, b, off, rfl, -⟩ := h.out.open
  obtain ⟨ad, cd, bd, od, rfl, -⟩ := hd.out.open
  have HBx : Hid (Below w.heap.size w (w.alloc (.cells (msgL ty xid (.slice a nums.length cap) (.slice ad ds.length cd) L) 35))) := below_alloc2 _
  have HX := Lib.hid (h.out.below HBx.out)
  have HPt : ∀ (w : World) (v1 v2 : Value), Ints .i64 w v1 (rowR ty).1 → Ints .u64 w v2 nums → Hid (Calls Try.prog 45 #[v1, v2] w (fun e w' => ∃ v', e = .returned (.tuple #[v', .bool (putS (rowR ty).1 nums).isSome]) ∧ w'.ownsRow w.heap.size 5 1 v' ((putS (rowR ty).1 nums).getD []).length (((putS (rowR ty).1 nums).getD []).map (Value.int .u8)) ∧ Below w.heap.size w w')) := fun w v1 v2 i1 i2 => ref_put v1 v2 _ _ w i1 i2
  have HR := fun w => Lib.hid (ref_row26 ty w)
  rw [his] at HR
  have hq : bodyR ty nums ds (bareL L) = ([], 10001) := if_neg (by simp [hok])
  rw [hq]
  clear hq
  rw [hok] at HPt
  go_enter Try.func22, Try.ntmps22
  go_wp2_with fail
  (with_reducible refine (HR _).out.mono ?_)
  rintro e w1 ⟨vw, rfl, hw, hb⟩
  have HB1 := Lib.hid hb
  have HH1 := (hb.block w.heap.size (by simp)).trans (heap_alloc_new _ _)
  have c2 := cell_heap HH1 2
  have HP1 := HPt _ _ _ hw (HX.out.below hb)
  clear hb hw HH1
  go_wp2_with fail
  (with_reducible refine HP1.out.mono ?_)
  rintro e w2 ⟨vb, rfl, hvo, hb⟩
  have HS12 : Hid (w1.heap.size ≤ w2.heap.size) := hb.size
  have HB2 := Lib.hid (HB1.out.trans (hb.mono HB1.out.size))
  have HH2 := (HB2.out.block w.heap.size (by simp)).trans (heap_alloc_new _ _)
  have hs2 : Hid (w.heap.size < w2.heap.size) := (Array.getElem?_eq_some_iff.1 HH2).1
  have HO2 := Lib.hid hvo
  have HH2 := Lib.hid HH2
  obtain ⟨ab, cb, rfl⟩ := own_slice hvo
  have k0 := cell_heap HH2.out 0
  have k1 := cell_heap HH2.out 1
  have k2 := cell_heap HH2.out 2
  have k3 := cell_heap HH2.out 3
  have k4 := cell_heap HH2.out 4
  have k5 := cell_heap HH2.out 5
  have k6 := cell_heap HH2.out 6
  have k7 := cell_heap HH2.out 7
  have k8 := cell_heap HH2.out 8
  have k9 := cell_heap HH2.out 9
  have k10 := cell_heap HH2.out 10
  have k11 := cell_heap HH2.out 11
  have k12 := cell_heap HH2.out 12
  have k13 := cell_heap HH2.out 13
  have k14 := cell_heap HH2.out 14
  clear hb hvo
  have HB4 : Hid (Below w.heap.size w (w2.alloc (.cells (msgL ty xid nilV nilV L) 35))) := (below1 HB2.out).alloc (below1 HB2.out).size _
  have HO4 := Lib.hid (own_below HO2.out (below_alloc2 (.cells (msgL ty xid nilV nilV L) 35)))
  have HM4 := Lib.hid (((below_alloc2 (w := w2) (.cells (msgL ty xid nilV nilV L) 35)).block w.heap.size hs2.out).trans HH2.out)
  go_wp2_with fail
  go_ret2
  exact ⟨_, rfl, Ints.nil _ _, HB4.out⟩

theorem ref_body26_c (ty xid : Int) (v vd : Value) (nums ds : List Int) (L : Lens) (w : World) (h : Ints .u64 w v nums) (hd : Ints .u8 w vd ds) (hl : ds.length ≤ 3000) (his : (rowR ty).2 = true) (hok : (putS (rowR ty).1 nums).isSome = true) (hbr : bareL L = false) :
    Calls Try.prog 22 #[.agg (msgL ty xid v vd L)] w fun e w' => ∃ vb, e = .returned (.tuple #[vb, .int .i64 (bodyR ty nums ds (bareL L)).2]) ∧ Ints .u8 w' vb (bodyR ty nums ds (bareL L)).1 ∧ Below w.heap.size w w' := by
  have _ := hl
  have h := Lib.hid h
  have hd := Lib.hid hd
  have hp8 := rowR_put ty nums
  obtain ⟨a, cap, b, off, rfl, -⟩ := h.out.open
  obtain ⟨ad, cd, bd, od, rfl, -⟩ := hd.out.open
  have HBx : Hid (Below w.heap.size w (w.alloc (.cells (msgL ty xid (.slice a nums.length cap) (.slice ad ds.length cd) L) 35))) := below_alloc2 _
  have HX := Lib.hid (h.out.below HBx.out)
  have HPt : ∀ (w : World) (v1 v2 : Value), Ints .i64 w v1 (rowR ty).1 → Ints .u64 w v2 nums → Hid (Calls Try.prog 45 #[v1, v2] w (fun e w' => ∃ v', e = .returned (.tuple #[v', .bool (putS (rowR ty).1 nums).isSome]) ∧ w'.ownsRow w.heap.size 5 1 v' ((putS (rowR ty).1 nums).getD []).length (((putS (rowR ty).1 nums).getD []).map (Value.int .u8)) ∧ Below w.heap.size w w')) := fun w v1 v2 i1 i2 => ref_put v1 v2 _ _ w i1 i2
  have HR := fun w => Lib.hid (ref_row26 ty w)
  rw [his] at HR
  rw [hbr]
  have hq : bodyR ty nums ds (false) = ([], 10001) := if_neg (by simp)
  rw [hq]
  clear hq
  rw [hok] at HPt
  go_enter Try.func22, Try.ntmps22
  go_wp2_with fail
  (with_reducible refine (HR _).out.mono ?_)
  rintro e w1 ⟨vw, rfl, hw, hb⟩
  have HB1 := Lib.hid hb
  have HH1 := (hb.block w.heap.size (by simp)).trans (heap_alloc_new _ _)
  have c2 := cell_heap HH1 2
  have HP1 := HPt _ _ _ hw (HX.out.below hb)
  clear hb hw HH1
  go_wp2_with fail
  (with_reducible refine HP1.out.mono ?_)
  rintro e w2 ⟨vb, rfl, hvo, hb⟩
  have HS12 : Hid (w1.heap.size ≤ w2.heap.size) := hb.size
  have HB2 := Lib.hid (HB1.out.trans (hb.mono HB1.out.size))
  have HH2 := (HB2.out.block w.heap.size (by simp)).trans (heap_alloc_new _ _)
  have hs2 : Hid (w.heap.size < w2.heap.size) := (Array.getElem?_eq_some_iff.1 HH2).1
  have HO2 := Lib.hid hvo
  have HH2 := Lib.hid HH2
  obtain ⟨ab, cb, rfl⟩ := own_slice hvo
  have k0 := cell_heap HH2.out 0
  have k1 := cell_heap HH2.out 1
  have k2 := cell_heap HH2.out 2
  have k3 := cell_heap HH2.out 3
  have k4 := cell_heap HH2.out 4
  have k5 := cell_heap HH2.out 5
  have k6 := cell_heap HH2.out 6
  have k7 := cell_heap HH2.out 7
  have k8 := cell_heap HH2.out 8
  have k9 := cell_heap HH2.out 9
  have k10 := cell_heap HH2.out 10
  have k11 := cell_heap HH2.out 11
  have k12 := cell_heap HH2.out 12
  have k13 := cell_heap HH2.out 13
  have k14 := cell_heap HH2.out 14
  clear hb hvo
  have HB4 : Hid (Below w.heap.size w (w2.alloc (.cells (msgL ty xid nilV nilV L) 35))) := (below1 HB2.out).alloc (below1 HB2.out).size _
  have HO4 := Lib.hid (own_below HO2.out (below_alloc2 (.cells (msgL ty xid nilV nilV L) 35)))
  have HM4 := Lib.hid (((below_alloc2 (w := w2) (.cells (msgL ty xid nilV nilV L) 35)).block w.heap.size hs2.out).trans HH2.out)
  go_wp2_with fail
  have HL := Lib.hid (bare_ref ty xid none 0 0 L (w2.alloc (.cells (msgL ty xid nilV nilV L) 35)))
  rw [hbr] at HL
  (with_reducible refine HL.out.mono ?_)
  rintro e w4 ⟨rfl, hb⟩
  have HB5 := Lib.hid (HB4.out.trans (hb.mono HB4.out.size))
  clear hb
  go_wp2_with fail
  go_ret2
  exact ⟨_, rfl, Ints.nil _ _, HB5.out⟩

theorem ref_body26_e (ty xid : Int) (v vd : Value) (nums ds : List Int) (L : Lens) (w : World) (h : Ints .u64 w v nums) (hd : Ints .u8 w vd ds) (hl : ds.length ≤ 3000) (his : (rowR ty).2 = true) (hok : (putS (rowR ty).1 nums).isSome = true) (hbr : bareL L = true) :
    Calls Try.prog 22 #[.agg (msgL ty xid v vd L)] w fun e w' => ∃ vb, e = .returned (.tuple #[vb, .int .i64 (bodyR ty nums ds (bareL L)).2]) ∧ Ints .u8 w' vb (bodyR ty nums ds (bareL L)).1 ∧ Below w.heap.size w w' := by
  have _ := hl
  have h := Lib.hid h
  have hd := Lib.hid hd
  have hp8 := rowR_put ty nums
  obtain ⟨a, cap, b, off, rfl, -⟩ := h.out.open
  obtain ⟨ad, cd, bd, od, rfl, -⟩ := hd.out.open
  have HBx : Hid (Below w.heap.size w (w.alloc (.cells (msgL ty xid (.slice a nums.length cap) (.slice ad ds.length cd) L) 35))) := below_alloc2 _
  have HX := Lib.hid (h.out.below HBx.out)
  have HPt : ∀ (w : World) (v1 v2 : Value), Ints .i64 w v1 (rowR ty).1 → Ints .u64 w v2 nums → Hid (Calls Try.prog 45 #[v1, v2] w (fun e w' => ∃ v', e = .returned (.tuple #[v', .bool (putS (rowR ty).1 nums).isSome]) ∧ w'.ownsRow w.heap.size 5 1 v' ((putS (rowR ty).1 nums).getD []).length (((putS (rowR ty).1 nums).getD []).map (Value.int .u8)) ∧ Below w.heap.size w w')) := fun w v1 v2 i1 i2 => ref_put v1 v2 _ _ w i1 i2
  have HR := fun w => Lib.hid (ref_row26 ty w)
  rw [his] at HR
  rw [hbr]
  have hq : bodyR ty nums ds true = (((putS (rowR ty).1 nums).getD []) ++ ds, 0) := if_pos ⟨his, hok, rfl⟩
  rw [hq]
  clear hq
  rw [hok] at HPt
  go_enter Try.func22, Try.ntmps22
  go_wp2_with fail
  (with_reducible refine (HR _).out.mono ?_)
  rintro e w1 ⟨vw, rfl, hw, hb⟩
  have HB1 := Lib.hid hb
  have HH1 := (hb.block w.heap.size (by simp)).trans (heap_alloc_new _ _)
  have c2 := cell_heap HH1 2
  have HP1 := HPt _ _ _ hw (HX.out.below hb)
  clear hb hw HH1
  go_wp2_with fail
  (with_reducible refine HP1.out.mono ?_)
  rintro e w2 ⟨vb, rfl, hvo, hb⟩
  have HS12 : Hid (w1.heap.size ≤ w2.heap.size) := hb.size
  have HB2 := Lib.hid (HB1.out.trans (hb.mono HB1.out.size))
  have HH2 := (HB2.out.block w.heap.size (by simp)).trans (heap_alloc_new _ _)
  have hs2 : Hid (w.heap.size < w2.heap.size) := (Array.getElem?_eq_some_iff.1 HH2).1
  have HO2 := Lib.hid hvo
  have HH2 := Lib.hid HH2
  obtain ⟨ab, cb, rfl⟩ := own_slice hvo
  have k0 := cell_heap HH2.out 0
  have k1 := cell_heap HH2.out 1
  have k2 := cell_heap HH2.out 2
  have k3 := cell_heap HH2.out 3
  have k4 := cell_heap HH2.out 4
  have k5 := cell_heap HH2.out 5
  have k6 := cell_heap HH2.out 6
  have k7 := cell_heap HH2.out 7
  have k8 := cell_heap HH2.out 8
  have k9 := cell_heap HH2.out 9
  have k10 := cell_heap HH2.out 10
  have k11 := cell_heap HH2.out 11
  have k12 := cell_heap HH2.out 12
  have k13 := cell_heap HH2.out 13
  have k14 := cell_heap HH2.out 14
  clear hb hvo
  have HB4 : Hid (Below w.heap.size w (w2.alloc (.cells (msgL ty xid nilV nilV L) 35))) := (below1 HB2.out).alloc (below1 HB2.out).size _
  have HO4 := Lib.hid (own_below HO2.out (below_alloc2 (.cells (msgL ty xid nilV nilV L) 35)))
  have HM4 := Lib.hid (((below_alloc2 (w := w2) (.cells (msgL ty xid nilV nilV L) 35)).block w.heap.size hs2.out).trans HH2.out)
  go_wp2_with fail
  have HL := Lib.hid (bare_ref ty xid none 0 0 L (w2.alloc (.cells (msgL ty xid nilV nilV L) 35)))
  rw [hbr] at HL
  (with_reducible refine HL.out.mono ?_)
  rintro e w4 ⟨rfl, hb⟩
  have HB5 := Lib.hid (HB4.out.trans (hb.mono HB4.out.size))
  have HH5 := (hb.block w.heap.size (by have := hs2.out; simp; omega)).trans HM4.out
  have c3 := cell_heap HH5 3
  have HO5 := Lib.hid (own_below HO4.out hb)
  have HD5 := Lib.hid (hd.out.below HB5.out)
  have HS5 : Hid (w1.heap.size ≤ w4.heap.size) := by have h1 := HS12.out; have h2 := hb.size; show _ ≤ _; simp at h2; omega
  clear hb HH5 k0 k1 k2 k3 k4 k5 k6 k7 k8 k9 k10 k11 k12 k13 k14
  go_wp2_with (at_builtin
               refine wpList_append_sl rfl (.tmp 45) (.tmp 47) _ rfl w1.heap.size 5 (.int .u8 0) 1 1 Try.underlying24 info_u8 rfl (by decide) (.slice ab ((putS (rowR ty).1 nums).getD []).length cb) ((putS (rowR ty).1 nums).getD []).length _ rfl HO5.out (.slice ad ds.length cd) ds.length (ds.map (Value.int .u8)) rfl (by simp) HD5.out.1 (ints_one _ _) (by unfold maxLen; omega) (by omega) HS5.out ?_
               intro v3 w3 hown3 hgrow3 hv3
               have HB6 : Hid (Below w.heap.size w w3) := own_grown HB5.out HB5.out.size (own_base HO5.out (by have := (below1 HB1.out).size; exact this)) hgrow3 rfl
               rw [← List.map_append] at hown3
               have HV6 := Lib.hid (Ints.of_own hown3 (bodyR_u8 ty nums HD5.out.u8).wf)
               clear hown3 hgrow3 hv3)
  go_ret2
  exact ⟨_, rfl, HV6.out, HB6.out⟩

theorem ref_body26 (ty xid : Int) (v vd : Value) (nums ds : List Int) (L : Lens) (w : World) (h : Ints .u64 w v nums) (hd : Ints .u8 w vd ds) (hl : ds.length ≤ 3000) :
    Calls Try.prog 22 #[.agg (msgL ty xid v vd L)] w fun e w' => ∃ vb, e = .returned (.tuple #[vb, .int .i64 (bodyR ty nums ds (bareL L)).2]) ∧ Ints .u8 w' vb (bodyR ty nums ds (bareL L)).1 ∧ Below w.heap.size w w' := by
  cases his : (rowR ty).2
  case false => exact ref_body26_a ty xid v vd nums ds L w h hd hl his
  cases hok : (putS (rowR ty).1 nums).isSome
  case false => exact ref_body26_b ty xid v vd nums ds L w h hd hl his hok
  by_cases hbr : bareL L = false
  · exact ref_body26_c ty xid v vd nums ds L w h hd hl his hok hbr
  · exact ref_body26_e ty xid v vd nums ds L w h hd hl his hok (eq_true_of_ne_false hbr)
end Go.Proofs.Ytfaklenclhljhaa
