/- The walks of plain.Has, hello.Bare of a message that has nothing, plain.Body of one fixed message; the fixed calls of chapter 22 come out true. Conditions: none beyond each lemma's own. -/
import Derived.Test.YtfaklenclhljhaaPlD
namespace Go.Proofs.Ytfaklenclhljhaa
open Go.RowKit
set_option maxRecDepth 100000
set_option maxHeartbeats 4000000

theorem plain_has (t : Int) (w : World) : Calls Try.prog 14 #[.int .i64 t] w fun e w' => e = .returned (.bool (rowS t).2) ∧ Below w.heap.size w w' := by
  have HR := Lib.hid (plain_rows t w)
  go_enter Try.func14, Try.ntmps14
  go_wp2_with (go_at_call 40; (with_reducible refine HR.out.mono ?_); rintro e w1 ⟨vw, rfl, hw, hb⟩; have HB1 := Lib.hid hb; clear hw hb)
  go_ret
  exact ⟨rfl, HB1.out⟩

theorem none0 (w : World) : Calls Try.prog 78 #[nilV] w fun e w' => e = .returned (.bool true) ∧ w = w' := by
  go_enter Try.func78, Try.ntmps78
  go_wp2
  go_ret
  exact ⟨rfl, rfl⟩
theorem none1 (w : World) : Calls Try.prog 79 #[nilV] w fun e w' => e = .returned (.bool true) ∧ w = w' := by
  go_enter Try.func79, Try.ntmps79
  go_wp2
  go_ret
  exact ⟨rfl, rfl⟩
theorem none2 (w : World) : Calls Try.prog 80 #[nilV] w fun e w' => e = .returned (.bool true) ∧ w = w' := by
  go_enter Try.func80, Try.ntmps80
  go_wp2
  go_ret
  exact ⟨rfl, rfl⟩
theorem none3 (w : World) : Calls Try.prog 81 #[nilV] w fun e w' => e = .returned (.bool true) ∧ w = w' := by
  go_enter Try.func81, Try.ntmps81
  go_wp2
  go_ret
  exact ⟨rfl, rfl⟩
theorem none4 (w : World) : Calls Try.prog 82 #[nilV] w fun e w' => e = .returned (.bool true) ∧ w = w' := by
  go_enter Try.func82, Try.ntmps82
  go_wp2
  go_ret
  exact ⟨rfl, rfl⟩
theorem none5 (w : World) : Calls Try.prog 83 #[nilV] w fun e w' => e = .returned (.bool true) ∧ w = w' := by
  go_enter Try.func83, Try.ntmps83
  go_wp2
  go_ret
  exact ⟨rfl, rfl⟩
theorem none6 (w : World) : Calls Try.prog 84 #[nilV] w fun e w' => e = .returned (.bool true) ∧ w = w' := by
  go_enter Try.func84, Try.ntmps84
  go_wp2
  go_ret
  exact ⟨rfl, rfl⟩
theorem none7 (w : World) : Calls Try.prog 85 #[nilV] w fun e w' => e = .returned (.bool true) ∧ w = w' := by
  go_enter Try.func85, Try.ntmps85
  go_wp2
  go_ret
  exact ⟨rfl, rfl⟩
theorem none8 (w : World) : Calls Try.prog 86 #[nilV] w fun e w' => e = .returned (.bool true) ∧ w = w' := by
  go_enter Try.func86, Try.ntmps86
  go_wp2
  go_ret
  exact ⟨rfl, rfl⟩
theorem none9 (w : World) : Calls Try.prog 87 #[nilV] w fun e w' => e = .returned (.bool true) ∧ w = w' := by
  go_enter Try.func87, Try.ntmps87
  go_wp2
  go_ret
  exact ⟨rfl, rfl⟩
theorem none10 (w : World) : Calls Try.prog 88 #[nilV] w fun e w' => e = .returned (.bool true) ∧ w = w' := by
  go_enter Try.func88, Try.ntmps88
  go_wp2
  go_ret
  exact ⟨rfl, rfl⟩

theorem bare_nil (ty : Int) (w : World) : Calls Try.prog 42 #[.agg (msgA ty nilV nilV)] w fun e w' => e = .returned (.bool true) ∧ Below w.heap.size w w' := by
  go_enter Try.func42, Try.ntmps42
  go_wp2_with (first
    | (go_at_call 78; (with_reducible refine (none0 _).mono ?_); rintro e w1 ⟨rfl, rfl⟩)
    | (go_at_call 79; (with_reducible refine (none1 _).mono ?_); rintro e w1 ⟨rfl, rfl⟩)
    | (go_at_call 80; (with_reducible refine (none2 _).mono ?_); rintro e w1 ⟨rfl, rfl⟩)
    | (go_at_call 81; (with_reducible refine (none3 _).mono ?_); rintro e w1 ⟨rfl, rfl⟩)
    | (go_at_call 82; (with_reducible refine (none4 _).mono ?_); rintro e w1 ⟨rfl, rfl⟩)
    | (go_at_call 83; (with_reducible refine (none5 _).mono ?_); rintro e w1 ⟨rfl, rfl⟩)
    | (go_at_call 84; (with_reducible refine (none6 _).mono ?_); rintro e w1 ⟨rfl, rfl⟩)
    | (go_at_call 85; (with_reducible refine (none7 _).mono ?_); rintro e w1 ⟨rfl, rfl⟩)
    | (go_at_call 86; (with_reducible refine (none8 _).mono ?_); rintro e w1 ⟨rfl, rfl⟩)
    | (go_at_call 87; (with_reducible refine (none9 _).mono ?_); rintro e w1 ⟨rfl, rfl⟩)
    | (go_at_call 88; (with_reducible refine (none10 _).mono ?_); rintro e w1 ⟨rfl, rfl⟩))
  go_ret
  exact ⟨rfl, below_alloc2 _⟩

theorem body_fixed (v : Value) (w : World) (h : Ints .u64 w v [3]) :
    Calls Try.prog 12 #[.agg (msgA 22 v nilV)] w fun e w' => ∃ vb, e = .returned (.tuple #[vb, .int .i64 0]) ∧ Ints .u8 w' vb [0, 0, 0, 3, 0, 0, 0, 0] ∧ Below w.heap.size w w' := by
  have HR := fun w => Lib.hid (plain_rows 22 w)
  rw [show rowS 22 = ([4, -4], true) from rfl] at HR
  have HBx : Hid (Below w.heap.size w (w.alloc (.cells (msgA 22 v nilV) 35))) := below_alloc2 _
  have HX := Lib.hid (h.below HBx.out)
  have HPt : ∀ (w : World) (v1 v2 : Value), Ints .i64 w v1 [4, -4] → Ints .u64 w v2 [3] → Hid (Calls Try.prog 41 #[v1, v2] w (fun e w' => ∃ v, e = .returned (.tuple #[v, .bool true]) ∧ w'.ownsRow w.heap.size 5 1 v 8 (([0, 0, 0, 3, 0, 0, 0, 0] : List Int).map (Value.int .u8)) ∧ Below w.heap.size w w')) := fun w v1 v2 i1 i2 => by
    have := row_put v1 v2 [4, -4] [3] w i1 i2
    rw [show putS [4, -4] [3] = some [0, 0, 0, 3, 0, 0, 0, 0] by decide] at this
    exact this
  obtain ⟨a, cap, b, off, rfl, -, -, -, ha, hc⟩ := h.open
  obtain rfl := ha (by decide)
  have hbl : b < w.heap.size := World.block_lt_of_cell? _ _ (hc 0 (by decide))
  have HX : Hid (Ints .u64 (w.alloc (.cells (msgA 22 (.slice (some ⟨b, off, none⟩) 1 cap) nilV) 35)) (.slice (some ⟨b, off, none⟩) 1 cap) [3]) := HX.out
  show Calls Try.prog 12 #[.agg (msgA 22 (.slice (some ⟨b, off, none⟩) 1 cap) nilV)] w _
  clear h ha hc
  go_enter Try.func12, Try.ntmps12
  go_wp2_with fail
  (with_reducible refine (HR _).out.mono ?_)
  rintro e w1 ⟨vw, rfl, hw, hb⟩
  have HB1 := Lib.hid hb
  have HH1 := (hb.block w.heap.size (by simp)).trans (heap_alloc_new _ _)
  have c2 := cell_heap HH1 2
  have HP1 := HPt _ _ _ hw (HX.out.below hb)
  have HX1 := Lib.hid (HX.out.below hb)
  have HH1 := Lib.hid HH1
  clear hb hw
  go_wp2_with fail
  (with_reducible refine HP1.out.mono ?_)
  rintro e w2 ⟨vb, rfl, hvo, hb⟩
  have hvb := Ints.of_own (zs := [0, 0, 0, 3, 0, 0, 0, 0]) hvo (by decide)
  have hvb0 : ∀ b', vb.ownBlock = some b' → w.heap.size = b' → False := fun b' e e' => by have := (hvo.lt b' e).1; have := HB1.out.size; simp at this; omega
  clear hvo
  have HB2 := Lib.hid (HB1.out.trans (hb.mono HB1.out.size))
  have HH2 := (HB2.out.block w.heap.size (by simp)).trans (heap_alloc_new _ _)
  have HX2 := Lib.hid (HX1.out.below hb)
  have HV2 := Lib.hid hvb
  have fz2 : w2.frozen? ⟨w.heap.size, 2, none⟩ = false := by simp [World.frozen?, HH2]
  have c2 := cell_heap HH2 2
  have HH3 := Lib.hid ((heap_put HH2 2 nilV).trans (show _ = some (.cells (msgA 22 nilV nilV) 35 (0, 0)) from rfl))
  have HB3 : Hid (Below (w.alloc (.cells (msgA 22 (.slice (some ⟨b, off, none⟩) 1 cap) nilV) 35)).heap.size (w.alloc (.cells (msgA 22 (.slice (some ⟨b, off, none⟩) 1 cap) nilV) 35)) w2) := HB2.out
  have HBw : Hid (Below w.heap.size w (w2.setCell ⟨w.heap.size, 2, none⟩ nilV)) := below_row (below1 HB2.out) (below1 HB2.out).size (grown_put _ _ _ _) (Nat.le_refl _)
  have HX3 : Hid (Ints .u64 (w2.setCell ⟨w.heap.size, 2, none⟩ nilV) (.slice (some ⟨b, off, none⟩) 1 cap) [3]) := HX2.out.grown (grown_put _ _ _ _) (fun b' e e' => by injection e with e; injection e' with e'; simp at e; omega)
  have HV3 : Hid (Ints .u8 (w2.setCell ⟨w.heap.size, 2, none⟩ nilV) vb [0, 0, 0, 3, 0, 0, 0, 0]) := HV2.out.grown (grown_put _ _ _ _) (fun b' e e' => by injection e' with e'; exact hvb0 b' e e'.symm)
  have hs2 : Hid (w.heap.size < (w2.setCell ⟨w.heap.size, 2, none⟩ nilV).heap.size) := by have := HB2.out.size; show _ < _; simp at this ⊢; omega
  have k0 := cell_heap HH3.out 0
  have k1 := cell_heap HH3.out 1
  have k2 := cell_heap HH3.out 2
  have k3 := cell_heap HH3.out 3
  have k4 := cell_heap HH3.out 4
  have k5 := cell_heap HH3.out 5
  have k6 := cell_heap HH3.out 6
  have k7 := cell_heap HH3.out 7
  have k8 := cell_heap HH3.out 8
  have k9 := cell_heap HH3.out 9
  have k10 := cell_heap HH3.out 10
  have k11 := cell_heap HH3.out 11
  have k12 := cell_heap HH3.out 12
  have k13 := cell_heap HH3.out 13
  have k14 := cell_heap HH3.out 14
  clear hb hvb HH2
  obtain ⟨ab, cb, bb, ob, rfl, -⟩ := HV2.out.open
  go_wp2_with fail
  (with_reducible refine (bare_nil 22 _).mono ?_)
  rintro e w4 ⟨rfl, hb⟩
  have HB4 := Lib.hid (HBw.out.trans (hb.mono HBw.out.size))
  have HH4 := (hb.block w.heap.size hs2.out).trans HH3.out
  have c0 := cell_heap HH4 0
  have HA := Lib.hid (plain_asked 22 _ [3] _ (HX3.out.below hb) (by simp [askedOk]))
  rw [show askedS 22 [3] = 0 from rfl] at HA
  have HV4 := Lib.hid (HV3.out.below hb)
  clear hb HH4 k0 k1 k2 k3 k4 k5 k6 k7 k8 k9 k10 k11 k12 k13 k14
  go_wp2_with fail
  (with_reducible refine HA.out.mono ?_)
  rintro e w5 ⟨rfl, hb⟩
  have HB5 := Lib.hid (HB4.out.trans (hb.mono HB4.out.size))
  have HV5 := Lib.hid (HV4.out.below hb)
  clear hb
  go_wp2_with fail
  go_ret2
  exact ⟨_, rfl, HV5.out, HB5.out⟩

theorem read9a (va : Value) (w : World) (h : Ints .u8 w va [0, 0, 0, 128]) : Calls Try.prog 17 #[.int .i64 9, va] w fun e w' => ∃ vn, e = .returned (.tuple #[.agg (msgA 9 vn nilV), .int .i64 0]) ∧ Ints .u64 w' vn [0, 128] ∧ Below w.heap.size w w' := by
  have := plain_read 9 va _ w h (by decide)
  rw [show readS 9 [0, 0, 0, 128] = ((9, [0, 128]), 0) by decide] at this
  exact this
theorem read9b (va : Value) (w : World) (h : Ints .u8 w va [0, 4, 0, 128]) : Calls Try.prog 17 #[.int .i64 9, va] w fun e w' => ∃ vn, e = .returned (.tuple #[.agg (msgA 0 vn nilV), .int .i64 2561]) ∧ Ints .u64 w' vn [] ∧ Below w.heap.size w w' := by
  have := plain_read 9 va _ w h (by decide)
  rw [show readS 9 [0, 4, 0, 128] = ((0, []), 2561) by decide] at this
  exact this

theorem sure22 (w : World) : Calls Try.prog 11 #[] w fun e w' => e = .returned (.bool true) ∧ Below w.heap.size w w' := by
  go_enter Try.func11, Try.ntmps11
  go_wp2_with fail
  refine (read9a _ _ (Ints.lit .u8 w 5 [0, 0, 0, 128] _ rfl (by decide) (by decide))).mono ?_
  rintro e w1 ⟨vn, rfl, hn, hb⟩
  have HN1 := Lib.hid hn
  obtain ⟨an, cn, bn, on, rfl, -⟩ := hn.open
  have HB1 := Lib.hid (below1 hb)
  clear hb hn
  go_wp2_with fail
  refine (read9b _ _ (Ints.lit .u8 (w1.alloc _) 5 [0, 4, 0, 128] _ (by simp) (by decide) (by decide))).mono ?_
  rintro e w2 ⟨vm, rfl, hm, hb⟩
  obtain ⟨am, cm, bm, om, rfl, -⟩ := hm.open
  have HH2 := (below1 hb).block w1.heap.size (by simp) |>.trans (heap_alloc_new _ _)
  have HB2 := Lib.hid (HB1.out.trans ((below2 hb).mono HB1.out.size))
  have HN2 := Lib.hid (((HN1.out.alloc _).alloc _).below hb)
  have hs2 : Hid (w1.heap.size < w2.heap.size) := (Array.getElem?_eq_some_iff.1 HH2).1
  have HH2 := Lib.hid HH2
  clear hb hm
  go_wp2_with fail
  refine (body_fixed _ _ (Ints.lit .u64 (w2.alloc _) 76 [3] _ (by simp) (by decide) (by decide))).mono ?_
  rintro e w3 ⟨vb, rfl, hvb, hb⟩
  have HH3 := ((below2 hb).block w1.heap.size hs2.out).trans HH2.out
  have c0 := cell_heap HH3 0
  have c2 := cell_heap HH3 2
  have HB3 := Lib.hid (HB2.out.trans ((below2 hb).mono HB2.out.size))
  have HN3 := Lib.hid (((HN2.out.alloc _).alloc _).below hb)
  have HV3 := Lib.hid hvb
  obtain ⟨av, cv, bv, ov, rfl, -⟩ := hvb.open
  clear hb hvb HH3
  go_wp2_with fail
  refine (nums_same (HN3.out.alloc _) (Ints.lit .u64 w3 76 [0, 128] _ rfl (by decide) (by decide))).mono ?_
  rintro e w4 ⟨rfl, hb⟩
  have HB4 := Lib.hid (HB3.out.trans ((below1 hb).mono HB3.out.size))
  have HV4 := Lib.hid ((HV3.out.alloc _).below hb)
  clear hb
  go_wp2_with fail
  refine (bytes_same (HV4.out.alloc _) (Ints.lit .u8 w4 5 [0, 0, 0, 3, 0, 0, 0, 0] _ rfl (by decide) (by decide))).mono ?_
  rintro e w5 ⟨rfl, hb⟩
  have HB5 := Lib.hid (HB4.out.trans ((below1 hb).mono HB4.out.size))
  clear hb
  have HA := fun w => Lib.hid (plain_has 20 w)
  have HC := fun w => Lib.hid (plain_has 0 w)
  rw [show (rowS 20).2 = true from rfl] at HA
  rw [show (rowS 0).2 = false from rfl] at HC
  go_wp2_with fail
  (with_reducible refine (HA _).out.mono ?_)
  rintro e w6 ⟨rfl, hb⟩
  have HB6 := Lib.hid (HB5.out.trans (hb.mono HB5.out.size))
  clear hb
  go_wp2_with fail
  (with_reducible refine (HC _).out.mono ?_)
  rintro e w7 ⟨rfl, hb⟩
  have HB7 := Lib.hid (HB6.out.trans (hb.mono HB6.out.size))
  clear hb
  go_wp2_with fail
  go_ret
  exact ⟨rfl, HB7.out⟩
end Go.Proofs.Ytfaklenclhljhaa
