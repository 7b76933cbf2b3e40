/- The walk of the document's Body of chapter 22, of any message. Conditions: none beyond each lemma's own. -/
import Derived.Test.YtfaklenclhljhaaBodyB
namespace Go.Proofs.Ytfaklenclhljhaa
open Go.RowKit
set_option maxRecDepth 100000
set_option maxHeartbeats 4000000

theorem rb22_a (ty xid : Int) (v : Value) (nums : List Int) (ad : Option Addr) (nd cd : Nat) (L : Lens) (w : World) (h : Ints .u64 w v nums) (his : (rowS ty).2 = false) :
    Calls Try.prog 13 #[.agg (msgL ty xid v (.slice ad nd cd) L)] w fun e w' => ∃ vb, e = .returned (.tuple #[vb, .int .i64 (bodyS ty nums (bareL L && decide (nd = 0))).2]) ∧ Ints .u8 w' vb (bodyS ty nums (bareL L && decide (nd = 0))).1 ∧ Below w.heap.size w w' := by
  have h := Lib.hid h
  obtain ⟨a, cap, b, off, rfl, -⟩ := h.out.open
  have HBx : Hid (Below w.heap.size w (w.alloc (.cells (msgL ty xid (.slice a nums.length cap) (.slice ad nd cd) L) 35))) := below_alloc2 _
  have HX := Lib.hid (h.out.below HBx.out)
  have HPt : ∀ (w : World) (v1 v2 : Value), Ints .i64 w v1 (rowS ty).1 → Ints .u64 w v2 nums → Hid (Calls Try.prog 45 #[v1, v2] w (PutI w (rowS ty).1 nums)) := fun w v1 v2 i1 i2 => ref_put_i v1 v2 _ _ w i1 i2
  have HR := fun w => Lib.hid (ref_row22 ty w)
  have hq : bodyS ty nums (bareL L && decide (nd = 0)) = ([], 10001) := if_neg (by simp [his])
  rw [hq]
  clear hq
  rw [his] at HR
  go_enter Try.func13, Try.ntmps13
  go_wp2_with fail
  (with_reducible refine (HR _).out.mono ?_)
  rintro e w1 ⟨vw, rfl, hw, hb⟩
  have HB1 := Lib.hid hb
  have HH1 := (hb.block w.heap.size (by simp)).trans (heap_alloc_new _ _)
  have c2 := cell_heap HH1 2
  have HP1 := HPt _ _ _ hw (HX.out.below hb)
  have HH1 := Lib.hid HH1
  clear hb hw
  go_wp2_with fail
  (with_reducible refine HP1.out.mono ?_)
  rintro e w2 ⟨vb, rfl, hvb, hb⟩
  have HB2 := Lib.hid (HB1.out.trans (hb.mono HB1.out.size))
  have HH2 := (HB2.out.block w.heap.size (by simp)).trans (heap_alloc_new _ _)
  have hs2 : Hid (w.heap.size < w2.heap.size) := (Array.getElem?_eq_some_iff.1 HH2).1
  have HV2 := Lib.hid hvb
  have HH2 := Lib.hid HH2
  have k0 := cell_heap HH2.out 0
  have k1 := cell_heap HH2.out 1
  have k2 := cell_heap HH2.out 2
  have k3 := cell_heap HH2.out 3
  have k4 := cell_heap HH2.out 4
  have k5 := cell_heap HH2.out 5
  have k6 := cell_heap HH2.out 6
  have k7 := cell_heap HH2.out 7
  have k8 := cell_heap HH2.out 8
  have k9 := cell_heap HH2.out 9
  have k10 := cell_heap HH2.out 10
  have k11 := cell_heap HH2.out 11
  have k12 := cell_heap HH2.out 12
  have k13 := cell_heap HH2.out 13
  have k14 := cell_heap HH2.out 14
  clear hb hvb
  have HB4 : Hid (Below w.heap.size w (w2.alloc (.cells (msgL ty xid nilV (.slice ad nd cd) L) 35))) := (below1 HB2.out).alloc (below1 HB2.out).size _
  have HV4 := Lib.hid (HV2.out.alloc (.cells (msgL ty xid nilV (.slice ad nd cd) L) 35))
  have HM4 := Lib.hid (((below_alloc2 (w := w2) (.cells (msgL ty xid nilV (.slice ad nd cd) L) 35)).block w.heap.size hs2.out).trans HH2.out)
  go_wp2_with fail
  go_ret2
  exact ⟨_, rfl, Ints.nil _ _, HB4.out⟩

theorem rb22_b (ty xid : Int) (v : Value) (nums : List Int) (ad : Option Addr) (nd cd : Nat) (L : Lens) (w : World) (h : Ints .u64 w v nums) (his : (rowS ty).2 = true) (hok : (putS (rowS ty).1 nums).isSome = false) :
    Calls Try.prog 13 #[.agg (msgL ty xid v (.slice ad nd cd) L)] w fun e w' => ∃ vb, e = .returned (.tuple #[vb, .int .i64 (bodyS ty nums (bareL L && decide (nd = 0))).2]) ∧ Ints .u8 w' vb (bodyS ty nums (bareL L && decide (nd = 0))).1 ∧ Below w.heap.size w w' := by
  have h := Lib.hid h
  obtain ⟨a, cap, b, off, rfl, -⟩ := h.out.open
  have HBx : Hid (Below w.heap.size w (w.alloc (.cells (msgL ty xid (.slice a nums.length cap) (.slice ad nd cd) L) 35))) := below_alloc2 _
  have HX := Lib.hid (h.out.below HBx.out)
  have HPt : ∀ (w : World) (v1 v2 : Value), Ints .i64 w v1 (rowS ty).1 → Ints .u64 w v2 nums → Hid (Calls Try.prog 45 #[v1, v2] w (PutI w (rowS ty).1 nums)) := fun w v1 v2 i1 i2 => ref_put_i v1 v2 _ _ w i1 i2
  have HR := fun w => Lib.hid (ref_row22 ty w)
  rw [his] at HR
  have hq : bodyS ty nums (bareL L && decide (nd = 0)) = ([], 10001) := if_neg (by simp [hok])
  rw [hq]
  clear hq
  unfold PutI at HPt
  rw [hok] at HPt
  go_enter Try.func13, Try.ntmps13
  go_wp2_with fail
  (with_reducible refine (HR _).out.mono ?_)
  rintro e w1 ⟨vw, rfl, hw, hb⟩
  have HB1 := Lib.hid hb
  have HH1 := (hb.block w.heap.size (by simp)).trans (heap_alloc_new _ _)
  have c2 := cell_heap HH1 2
  have HP1 := HPt _ _ _ hw (HX.out.below hb)
  have HH1 := Lib.hid HH1
  clear hb hw
  go_wp2_with fail
  (with_reducible refine HP1.out.mono ?_)
  rintro e w2 ⟨vb, rfl, hvb, hb⟩
  have HB2 := Lib.hid (HB1.out.trans (hb.mono HB1.out.size))
  have HH2 := (HB2.out.block w.heap.size (by simp)).trans (heap_alloc_new _ _)
  have hs2 : Hid (w.heap.size < w2.heap.size) := (Array.getElem?_eq_some_iff.1 HH2).1
  have HV2 := Lib.hid hvb
  have HH2 := Lib.hid HH2
  have k0 := cell_heap HH2.out 0
  have k1 := cell_heap HH2.out 1
  have k2 := cell_heap HH2.out 2
  have k3 := cell_heap HH2.out 3
  have k4 := cell_heap HH2.out 4
  have k5 := cell_heap HH2.out 5
  have k6 := cell_heap HH2.out 6
  have k7 := cell_heap HH2.out 7
  have k8 := cell_heap HH2.out 8
  have k9 := cell_heap HH2.out 9
  have k10 := cell_heap HH2.out 10
  have k11 := cell_heap HH2.out 11
  have k12 := cell_heap HH2.out 12
  have k13 := cell_heap HH2.out 13
  have k14 := cell_heap HH2.out 14
  clear hb hvb
  have HB4 : Hid (Below w.heap.size w (w2.alloc (.cells (msgL ty xid nilV (.slice ad nd cd) L) 35))) := (below1 HB2.out).alloc (below1 HB2.out).size _
  have HV4 := Lib.hid (HV2.out.alloc (.cells (msgL ty xid nilV (.slice ad nd cd) L) 35))
  have HM4 := Lib.hid (((below_alloc2 (w := w2) (.cells (msgL ty xid nilV (.slice ad nd cd) L) 35)).block w.heap.size hs2.out).trans HH2.out)
  go_wp2_with fail
  go_ret2
  exact ⟨_, rfl, Ints.nil _ _, HB4.out⟩

theorem rb22_c (ty xid : Int) (v : Value) (nums : List Int) (ad : Option Addr) (nd cd : Nat) (L : Lens) (w : World) (h : Ints .u64 w v nums) (his : (rowS ty).2 = true) (hok : (putS (rowS ty).1 nums).isSome = true) (hbr : (bareL L && decide (nd = 0)) = false) :
    Calls Try.prog 13 #[.agg (msgL ty xid v (.slice ad nd cd) L)] w fun e w' => ∃ vb, e = .returned (.tuple #[vb, .int .i64 (bodyS ty nums (bareL L && decide (nd = 0))).2]) ∧ Ints .u8 w' vb (bodyS ty nums (bareL L && decide (nd = 0))).1 ∧ Below w.heap.size w w' := by
  have h := Lib.hid h
  obtain ⟨a, cap, b, off, rfl, -⟩ := h.out.open
  have HBx : Hid (Below w.heap.size w (w.alloc (.cells (msgL ty xid (.slice a nums.length cap) (.slice ad nd cd) L) 35))) := below_alloc2 _
  have HX := Lib.hid (h.out.below HBx.out)
  have HPt : ∀ (w : World) (v1 v2 : Value), Ints .i64 w v1 (rowS ty).1 → Ints .u64 w v2 nums → Hid (Calls Try.prog 45 #[v1, v2] w (PutI w (rowS ty).1 nums)) := fun w v1 v2 i1 i2 => ref_put_i v1 v2 _ _ w i1 i2
  have HR := fun w => Lib.hid (ref_row22 ty w)
  rw [hbr]
  have hq : bodyS ty nums (false) = ([], 10001) := if_neg (by simp)
  rw [hq]
  clear hq
  rw [his] at HR
  have hask := put_asked hok
  unfold PutI at HPt
  rw [hok] at HPt
  go_enter Try.func13, Try.ntmps13
  go_wp2_with fail
  (with_reducible refine (HR _).out.mono ?_)
  rintro e w1 ⟨vw, rfl, hw, hb⟩
  have HB1 := Lib.hid hb
  have HH1 := (hb.block w.heap.size (by simp)).trans (heap_alloc_new _ _)
  have c2 := cell_heap HH1 2
  have HP1 := HPt _ _ _ hw (HX.out.below hb)
  have HH1 := Lib.hid HH1
  clear hb hw
  go_wp2_with fail
  (with_reducible refine HP1.out.mono ?_)
  rintro e w2 ⟨vb, rfl, hvb, hb⟩
  have HB2 := Lib.hid (HB1.out.trans (hb.mono HB1.out.size))
  have HH2 := (HB2.out.block w.heap.size (by simp)).trans (heap_alloc_new _ _)
  have hs2 : Hid (w.heap.size < w2.heap.size) := (Array.getElem?_eq_some_iff.1 HH2).1
  have HV2 := Lib.hid hvb
  have HH2 := Lib.hid HH2
  have k0 := cell_heap HH2.out 0
  have k1 := cell_heap HH2.out 1
  have k2 := cell_heap HH2.out 2
  have k3 := cell_heap HH2.out 3
  have k4 := cell_heap HH2.out 4
  have k5 := cell_heap HH2.out 5
  have k6 := cell_heap HH2.out 6
  have k7 := cell_heap HH2.out 7
  have k8 := cell_heap HH2.out 8
  have k9 := cell_heap HH2.out 9
  have k10 := cell_heap HH2.out 10
  have k11 := cell_heap HH2.out 11
  have k12 := cell_heap HH2.out 12
  have k13 := cell_heap HH2.out 13
  have k14 := cell_heap HH2.out 14
  clear hb hvb
  have HB4 : Hid (Below w.heap.size w (w2.alloc (.cells (msgL ty xid nilV (.slice ad nd cd) L) 35))) := (below1 HB2.out).alloc (below1 HB2.out).size _
  have HV4 := Lib.hid (HV2.out.alloc (.cells (msgL ty xid nilV (.slice ad nd cd) L) 35))
  have HM4 := Lib.hid (((below_alloc2 (w := w2) (.cells (msgL ty xid nilV (.slice ad nd cd) L) 35)).block w.heap.size hs2.out).trans HH2.out)
  go_wp2_with fail
  have HL := Lib.hid (bare_ref ty xid ad nd cd L (w2.alloc (.cells (msgL ty xid nilV (.slice ad nd cd) L) 35)))
  rw [hbr] at HL
  (with_reducible refine HL.out.mono ?_)
  rintro e w4 ⟨rfl, hb⟩
  have HB5 := Lib.hid (HB4.out.trans (hb.mono HB4.out.size))
  clear hb
  go_wp2_with fail
  go_ret2
  exact ⟨_, rfl, Ints.nil _ _, HB5.out⟩

theorem rb22_d (ty xid : Int) (v : Value) (nums : List Int) (ad : Option Addr) (nd cd : Nat) (L : Lens) (w : World) (h : Ints .u64 w v nums) (his : (rowS ty).2 = true) (hok : (putS (rowS ty).1 nums).isSome = true) (hbr : (bareL L && decide (nd = 0)) = true) (h0 : ¬ askedS ty nums = 0) :
    Calls Try.prog 13 #[.agg (msgL ty xid v (.slice ad nd cd) L)] w fun e w' => ∃ vb, e = .returned (.tuple #[vb, .int .i64 (bodyS ty nums (bareL L && decide (nd = 0))).2]) ∧ Ints .u8 w' vb (bodyS ty nums (bareL L && decide (nd = 0))).1 ∧ Below w.heap.size w w' := by
  have h := Lib.hid h
  obtain ⟨a, cap, b, off, rfl, -⟩ := h.out.open
  have HBx : Hid (Below w.heap.size w (w.alloc (.cells (msgL ty xid (.slice a nums.length cap) (.slice ad nd cd) L) 35))) := below_alloc2 _
  have HX := Lib.hid (h.out.below HBx.out)
  have HPt : ∀ (w : World) (v1 v2 : Value), Ints .i64 w v1 (rowS ty).1 → Ints .u64 w v2 nums → Hid (Calls Try.prog 45 #[v1, v2] w (PutI w (rowS ty).1 nums)) := fun w v1 v2 i1 i2 => ref_put_i v1 v2 _ _ w i1 i2
  have HR := fun w => Lib.hid (ref_row22 ty w)
  rw [hbr]
  have hq : bodyS ty nums (true) = ([], 10001) := if_neg (by simp [h0])
  rw [hq]
  clear hq
  rw [his] at HR
  have hask := put_asked hok
  unfold PutI at HPt
  rw [hok] at HPt
  have hne : (askedS ty nums != 0) = true := by simp [h0]
  go_enter Try.func13, Try.ntmps13
  go_wp2_with fail
  (with_reducible refine (HR _).out.mono ?_)
  rintro e w1 ⟨vw, rfl, hw, hb⟩
  have HB1 := Lib.hid hb
  have HH1 := (hb.block w.heap.size (by simp)).trans (heap_alloc_new _ _)
  have c2 := cell_heap HH1 2
  have HP1 := HPt _ _ _ hw (HX.out.below hb)
  have HH1 := Lib.hid HH1
  clear hb hw
  go_wp2_with fail
  (with_reducible refine HP1.out.mono ?_)
  rintro e w2 ⟨vb, rfl, hvb, hb⟩
  have HB2 := Lib.hid (HB1.out.trans (hb.mono HB1.out.size))
  have HH2 := (HB2.out.block w.heap.size (by simp)).trans (heap_alloc_new _ _)
  have hs2 : Hid (w.heap.size < w2.heap.size) := (Array.getElem?_eq_some_iff.1 HH2).1
  have HV2 := Lib.hid hvb
  have HH2 := Lib.hid HH2
  have k0 := cell_heap HH2.out 0
  have k1 := cell_heap HH2.out 1
  have k2 := cell_heap HH2.out 2
  have k3 := cell_heap HH2.out 3
  have k4 := cell_heap HH2.out 4
  have k5 := cell_heap HH2.out 5
  have k6 := cell_heap HH2.out 6
  have k7 := cell_heap HH2.out 7
  have k8 := cell_heap HH2.out 8
  have k9 := cell_heap HH2.out 9
  have k10 := cell_heap HH2.out 10
  have k11 := cell_heap HH2.out 11
  have k12 := cell_heap HH2.out 12
  have k13 := cell_heap HH2.out 13
  have k14 := cell_heap HH2.out 14
  clear hb hvb
  have HB4 : Hid (Below w.heap.size w (w2.alloc (.cells (msgL ty xid nilV (.slice ad nd cd) L) 35))) := (below1 HB2.out).alloc (below1 HB2.out).size _
  have HV4 := Lib.hid (HV2.out.alloc (.cells (msgL ty xid nilV (.slice ad nd cd) L) 35))
  have HM4 := Lib.hid (((below_alloc2 (w := w2) (.cells (msgL ty xid nilV (.slice ad nd cd) L) 35)).block w.heap.size hs2.out).trans HH2.out)
  go_wp2_with fail
  have HL := Lib.hid (bare_ref ty xid ad nd cd L (w2.alloc (.cells (msgL ty xid nilV (.slice ad nd cd) L) 35)))
  rw [hbr] at HL
  (with_reducible refine HL.out.mono ?_)
  rintro e w4 ⟨rfl, hb⟩
  have HB5 := Lib.hid (HB4.out.trans (hb.mono HB4.out.size))
  have HH5 := (hb.block w.heap.size (by have := hs2.out; simp; omega)).trans HM4.out
  have c0 := cell_heap HH5 0
  have c2 := cell_heap HH5 2
  have HA := Lib.hid (ref_asked22 ty _ nums _ (h.out.below HB5.out) hask)
  have HV5 := Lib.hid (HV4.out.below hb)
  clear hb HH5 k0 k1 k2 k3 k4 k5 k6 k7 k8 k9 k10 k11 k12 k13 k14
  go_wp2_with fail
  (with_reducible refine HA.out.mono ?_)
  rintro e w5 ⟨rfl, hb⟩
  have HB6 := Lib.hid (HB5.out.trans (hb.mono HB5.out.size))
  have HV6 := Lib.hid (HV5.out.below hb)
  clear hb
  go_wp2_with fail
  go_ret2
  exact ⟨_, rfl, Ints.nil _ _, HB6.out⟩

theorem rb22_e (ty xid : Int) (v : Value) (nums : List Int) (ad : Option Addr) (nd cd : Nat) (L : Lens) (w : World) (h : Ints .u64 w v nums) (his : (rowS ty).2 = true) (hok : (putS (rowS ty).1 nums).isSome = true) (hbr : (bareL L && decide (nd = 0)) = true) (h0 : askedS ty nums = 0) :
    Calls Try.prog 13 #[.agg (msgL ty xid v (.slice ad nd cd) L)] w fun e w' => ∃ vb, e = .returned (.tuple #[vb, .int .i64 (bodyS ty nums (bareL L && decide (nd = 0))).2]) ∧ Ints .u8 w' vb (bodyS ty nums (bareL L && decide (nd = 0))).1 ∧ Below w.heap.size w w' := by
  have h := Lib.hid h
  obtain ⟨a, cap, b, off, rfl, -⟩ := h.out.open
  have HBx : Hid (Below w.heap.size w (w.alloc (.cells (msgL ty xid (.slice a nums.length cap) (.slice ad nd cd) L) 35))) := below_alloc2 _
  have HX := Lib.hid (h.out.below HBx.out)
  have HPt : ∀ (w : World) (v1 v2 : Value), Ints .i64 w v1 (rowS ty).1 → Ints .u64 w v2 nums → Hid (Calls Try.prog 45 #[v1, v2] w (PutI w (rowS ty).1 nums)) := fun w v1 v2 i1 i2 => ref_put_i v1 v2 _ _ w i1 i2
  have HR := fun w => Lib.hid (ref_row22 ty w)
  rw [hbr]
  have hq : bodyS ty nums true = ((putS (rowS ty).1 nums).getD [], 0) := if_pos ⟨his, hok, rfl, h0⟩
  rw [hq]
  clear hq
  rw [his] at HR
  have hask := put_asked hok
  unfold PutI at HPt
  rw [hok] at HPt
  have hne : (askedS ty nums != 0) = false := by simp [h0]
  go_enter Try.func13, Try.ntmps13
  go_wp2_with fail
  (with_reducible refine (HR _).out.mono ?_)
  rintro e w1 ⟨vw, rfl, hw, hb⟩
  have HB1 := Lib.hid hb
  have HH1 := (hb.block w.heap.size (by simp)).trans (heap_alloc_new _ _)
  have c2 := cell_heap HH1 2
  have HP1 := HPt _ _ _ hw (HX.out.below hb)
  have HH1 := Lib.hid HH1
  clear hb hw
  go_wp2_with fail
  (with_reducible refine HP1.out.mono ?_)
  rintro e w2 ⟨vb, rfl, hvb, hb⟩
  have HB2 := Lib.hid (HB1.out.trans (hb.mono HB1.out.size))
  have HH2 := (HB2.out.block w.heap.size (by simp)).trans (heap_alloc_new _ _)
  have hs2 : Hid (w.heap.size < w2.heap.size) := (Array.getElem?_eq_some_iff.1 HH2).1
  have HV2 := Lib.hid hvb
  have HH2 := Lib.hid HH2
  have k0 := cell_heap HH2.out 0
  have k1 := cell_heap HH2.out 1
  have k2 := cell_heap HH2.out 2
  have k3 := cell_heap HH2.out 3
  have k4 := cell_heap HH2.out 4
  have k5 := cell_heap HH2.out 5
  have k6 := cell_heap HH2.out 6
  have k7 := cell_heap HH2.out 7
  have k8 := cell_heap HH2.out 8
  have k9 := cell_heap HH2.out 9
  have k10 := cell_heap HH2.out 10
  have k11 := cell_heap HH2.out 11
  have k12 := cell_heap HH2.out 12
  have k13 := cell_heap HH2.out 13
  have k14 := cell_heap HH2.out 14
  clear hb hvb
  have HB4 : Hid (Below w.heap.size w (w2.alloc (.cells (msgL ty xid nilV (.slice ad nd cd) L) 35))) := (below1 HB2.out).alloc (below1 HB2.out).size _
  have HV4 := Lib.hid (HV2.out.alloc (.cells (msgL ty xid nilV (.slice ad nd cd) L) 35))
  have HM4 := Lib.hid (((below_alloc2 (w := w2) (.cells (msgL ty xid nilV (.slice ad nd cd) L) 35)).block w.heap.size hs2.out).trans HH2.out)
  go_wp2_with fail
  have HL := Lib.hid (bare_ref ty xid ad nd cd L (w2.alloc (.cells (msgL ty xid nilV (.slice ad nd cd) L) 35)))
  rw [hbr] at HL
  (with_reducible refine HL.out.mono ?_)
  rintro e w4 ⟨rfl, hb⟩
  have HB5 := Lib.hid (HB4.out.trans (hb.mono HB4.out.size))
  have HH5 := (hb.block w.heap.size (by have := hs2.out; simp; omega)).trans HM4.out
  have c0 := cell_heap HH5 0
  have c2 := cell_heap HH5 2
  have HA := Lib.hid (ref_asked22 ty _ nums _ (h.out.below HB5.out) hask)
  have HV5 := Lib.hid (HV4.out.below hb)
  clear hb HH5 k0 k1 k2 k3 k4 k5 k6 k7 k8 k9 k10 k11 k12 k13 k14
  go_wp2_with fail
  (with_reducible refine HA.out.mono ?_)
  rintro e w5 ⟨rfl, hb⟩
  have HB6 := Lib.hid (HB5.out.trans (hb.mono HB5.out.size))
  have HV6 := Lib.hid (HV5.out.below hb)
  clear hb
  go_wp2_with fail
  go_ret2
  exact ⟨_, rfl, HV6.out, HB6.out⟩

theorem ref_body22 (ty xid : Int) (v : Value) (nums : List Int) (ad : Option Addr) (nd cd : Nat) (L : Lens) (w : World) (h : Ints .u64 w v nums) :
    Calls Try.prog 13 #[.agg (msgL ty xid v (.slice ad nd cd) L)] w fun e w' => ∃ vb, e = .returned (.tuple #[vb, .int .i64 (bodyS ty nums (bareL L && decide (nd = 0))).2]) ∧ Ints .u8 w' vb (bodyS ty nums (bareL L && decide (nd = 0))).1 ∧ Below w.heap.size w w' := by
  cases his : (rowS ty).2
  case false => exact rb22_a ty xid v nums ad nd cd L w h his
  cases hok : (putS (rowS ty).1 nums).isSome
  case false => exact rb22_b ty xid v nums ad nd cd L w h his hok
  by_cases hbr : (bareL L && decide (nd = 0)) = false
  · exact rb22_c ty xid v nums ad nd cd L w h his hok hbr
  · have hbr := eq_true_of_ne_false hbr
    by_cases h0 : askedS ty nums = 0
    · exact rb22_e ty xid v nums ad nd cd L w h his hok hbr h0
    · exact rb22_d ty xid v nums ad nd cd L w h his hok hbr h0
end Go.Proofs.Ytfaklenclhljhaa
