/- The walk of refuse.Body of one fixed message; the fixed calls of chapter 26 come out true. Conditions: none beyond each lemma's own. -/
import Derived.Test.YtfaklenclhljhaaRfC
namespace Go.Proofs.Ytfaklenclhljhaa
open Go.RowKit
set_option maxRecDepth 100000
set_option maxHeartbeats 4000000

theorem bareX (ty xid : Int) (w : World) : Calls Try.prog 42 #[.agg (msgX ty xid nilV nilV)] w fun e w' => e = .returned (.bool true) ∧ Below w.heap.size w w' := by
  go_enter Try.func42, Try.ntmps42
  go_wp2_with (first
    | (go_at_call 78; (with_reducible refine (none0 _).mono ?_); rintro e w1 ⟨rfl, rfl⟩)
    | (go_at_call 79; (with_reducible refine (none1 _).mono ?_); rintro e w1 ⟨rfl, rfl⟩)
    | (go_at_call 80; (with_reducible refine (none2 _).mono ?_); rintro e w1 ⟨rfl, rfl⟩)
    | (go_at_call 81; (with_reducible refine (none3 _).mono ?_); rintro e w1 ⟨rfl, rfl⟩)
    | (go_at_call 82; (with_reducible refine (none4 _).mono ?_); rintro e w1 ⟨rfl, rfl⟩)
    | (go_at_call 83; (with_reducible refine (none5 _).mono ?_); rintro e w1 ⟨rfl, rfl⟩)
    | (go_at_call 84; (with_reducible refine (none6 _).mono ?_); rintro e w1 ⟨rfl, rfl⟩)
    | (go_at_call 85; (with_reducible refine (none7 _).mono ?_); rintro e w1 ⟨rfl, rfl⟩)
    | (go_at_call 86; (with_reducible refine (none8 _).mono ?_); rintro e w1 ⟨rfl, rfl⟩)
    | (go_at_call 87; (with_reducible refine (none9 _).mono ?_); rintro e w1 ⟨rfl, rfl⟩)
    | (go_at_call 88; (with_reducible refine (none10 _).mono ?_); rintro e w1 ⟨rfl, rfl⟩))
  go_ret
  exact ⟨rfl, below_alloc2 _⟩

theorem body_refuse (vn vd : Value) (w : World) (h1 : Ints .u64 w vn [1, 1]) (h2 : Ints .u8 w vd [4, 99, 0, 8, 0, 0, 0, 5]) :
    Calls Try.prog 21 #[.agg (msgX 1 5 vn vd)] w fun e w' => ∃ a c, e = .returned (.tuple #[.slice a 12 c, .int .i64 0]) ∧ Below w.heap.size w w' := by
  have HR := fun w => Lib.hid (refuse_rows 1 w)
  rw [show rowR 1 = ([2, 2], true) from rfl] at HR
  have HPt : ∀ (w : World) (v1 v2 : Value), Ints .i64 w v1 [2, 2] → Ints .u64 w v2 [1, 1] → Hid (Calls Try.prog 41 #[v1, v2] w (fun e w' => ∃ v, e = .returned (.tuple #[v, .bool true]) ∧ w'.ownsRow w.heap.size 5 1 v 4 (([0, 1, 0, 1] : List Int).map (Value.int .u8)) ∧ Below w.heap.size w w')) := fun w v1 v2 i1 i2 => by
    have := row_put v1 v2 [2, 2] [1, 1] w i1 i2
    rw [show putS [2, 2] [1, 1] = some [0, 1, 0, 1] by decide] at this
    exact this
  obtain ⟨a, cap, b, off, rfl, -, -, -, ha, -⟩ := h1.open
  obtain rfl := ha (by decide)
  obtain ⟨ad, capd, bd, od, rfl, -, -, -, had, -⟩ := h2.open
  obtain rfl := had (by decide)
  have HBx : Hid (Below w.heap.size w (w.alloc (.cells (msgX 1 5 (.slice (some ⟨b, off, none⟩) 2 cap) (.slice (some ⟨bd, od, none⟩) 8 capd)) 35))) := below_alloc2 _
  have HX : Hid (Ints .u64 (w.alloc (.cells (msgX 1 5 (.slice (some ⟨b, off, none⟩) 2 cap) (.slice (some ⟨bd, od, none⟩) 8 capd)) 35)) (.slice (some ⟨b, off, none⟩) 2 cap) [1, 1]) := h1.below HBx.out
  have HD : Hid (Ints .u8 (w.alloc (.cells (msgX 1 5 (.slice (some ⟨b, off, none⟩) 2 cap) (.slice (some ⟨bd, od, none⟩) 8 capd)) 35)) (.slice (some ⟨bd, od, none⟩) 8 capd) [4, 99, 0, 8, 0, 0, 0, 5]) := h2.below HBx.out
  show Calls Try.prog 21 #[.agg (msgX 1 5 (.slice (some ⟨b, off, none⟩) 2 cap) (.slice (some ⟨bd, od, none⟩) 8 capd))] w _
  clear h1 h2 ha had
  go_enter Try.func21, Try.ntmps21
  go_wp2_with fail
  (with_reducible refine (HR _).out.mono ?_)
  rintro e w1 ⟨vw, rfl, hw, hb⟩
  have HB1 := Lib.hid hb
  have HH1 := (hb.block w.heap.size (by simp)).trans (heap_alloc_new _ _)
  have c2 := cell_heap HH1 2
  have HP1 := HPt _ _ _ hw (HX.out.below hb)
  clear hb hw HH1
  go_wp2_with fail
  (with_reducible refine HP1.out.mono ?_)
  rintro e w2 ⟨vb, rfl, hvo, hb⟩
  have HS12 : Hid (w1.heap.size ≤ w2.heap.size) := hb.size
  have HB2 := Lib.hid (HB1.out.trans (hb.mono HB1.out.size))
  have HH2 := (HB2.out.block w.heap.size (by simp)).trans (heap_alloc_new _ _)
  have c3 := cell_heap HH2 3
  have HO2 := Lib.hid hvo
  have HD2 := Lib.hid (HD.out.below HB2.out)
  have HH2 := Lib.hid HH2
  obtain ⟨ab, cb, rfl⟩ := own_slice hvo
  clear hb hvo
  go_wp2_with (at_builtin; refine wpList_append_sl rfl (.tmp 21) (.tmp 23) _ rfl w1.heap.size 5 (.int .u8 0) 1 1 Try.underlying24 info_u8 rfl (by decide) (.slice ab 4 cb) 4 _ rfl HO2.out (.slice (some ⟨bd, od, none⟩) 8 capd) 8 (([4, 99, 0, 8, 0, 0, 0, 5] : List Int).map (Value.int .u8)) rfl rfl HD2.out.1 (ints_one _ _) (by unfold maxLen; omega) (by omega) HS12.out ?_; intro v3 w3 hown3 hgrow3 hv3; have HB3 : Hid (Below (w.alloc (.cells (msgX 1 5 (.slice (some ⟨b, off, none⟩) 2 cap) (.slice (some ⟨bd, od, none⟩) 8 capd)) 35)).heap.size (w.alloc (.cells (msgX 1 5 (.slice (some ⟨b, off, none⟩) 2 cap) (.slice (some ⟨bd, od, none⟩) 8 capd)) 35)) w3) := own_grown HB2.out HB2.out.size (own_base HO2.out (by have := HB1.out.size; exact this)) hgrow3 rfl; obtain ⟨a3, c3', rfl⟩ := own_slice hown3; clear hown3 hgrow3 hv3; have HH3 := (HB3.out.block w.heap.size (by simp)).trans (heap_alloc_new _ _); have fz2 : w3.frozen? ⟨w.heap.size, 2, none⟩ = false := (by simp [World.frozen?, HH3]); have cc2 := cell_heap HH3 2; have HH4 := (heap_put HH3 2 nilV).trans (show _ = some (.cells (msgX 1 5 nilV (.slice (some ⟨bd, od, none⟩) 8 capd)) 35 (0, 0)) from rfl); have fz3 : (w3.setCell ⟨w.heap.size, 2, none⟩ nilV).frozen? ⟨w.heap.size, 3, none⟩ = false := (by simp only [World.frozen?, HH4]; rfl); have cc3 := cell_heap HH4 3; have HH5 := (heap_put HH4 3 nilV).trans (show _ = some (.cells (msgX 1 5 nilV nilV) 35 (0, 0)) from rfl); have HB5 : Hid (Below w.heap.size w ((w3.setCell ⟨w.heap.size, 2, none⟩ nilV).setCell ⟨w.heap.size, 3, none⟩ nilV)) := below_row (below_row (below1 HB3.out) (below1 HB3.out).size (grown_put _ _ _ _) (Nat.le_refl _)) (by have := (below1 HB3.out).size; have := (grown_put w3 w.heap.size 2 nilV).size; exact Nat.le_trans ‹w.heap.size ≤ w3.heap.size› this) (grown_put _ _ _ _) (Nat.le_refl _); have k0 := cell_heap HH5 0; have k1 := cell_heap HH5 1; have k2 := cell_heap HH5 2; have k3 := cell_heap HH5 3; have k4 := cell_heap HH5 4; have k5 := cell_heap HH5 5; have k6 := cell_heap HH5 6; have k7 := cell_heap HH5 7; have k8 := cell_heap HH5 8; have k9 := cell_heap HH5 9; have k10 := cell_heap HH5 10; have k11 := cell_heap HH5 11; have k12 := cell_heap HH5 12; have k13 := cell_heap HH5 13; have k14 := cell_heap HH5 14; clear HH3 HH4 HH5)
  refine (bareX 1 5 _).mono ?_
  rintro e w6 ⟨rfl, hb⟩
  have HB6 := Lib.hid (HB5.out.trans (hb.mono HB5.out.size))
  clear hb
  go_wp2_with fail
  go_ret2
  exact ⟨_, _, rfl, HB6.out⟩

theorem sure26 (w : World) : Calls Try.prog 20 #[] w fun e w' => e = .returned (.bool true) ∧ Below w.heap.size w w' := by
  have HX0 : Hid (Ints .u8 (w.alloc (.cells ((([4, 99, 0, 8, 0, 0, 0, 5] : List Int).map (Value.int .u8)).toArray) 5)) (.slice (some ⟨w.heap.size, 0, none⟩) 8 8) [4, 99, 0, 8, 0, 0, 0, 5]) := Ints.lit .u8 w 5 [4, 99, 0, 8, 0, 0, 0, 5] _ rfl (by decide) (by decide)
  go_enter Try.func20, Try.ntmps20
  go_wp2_with fail
  refine (for_a _ _ HX0.out).mono ?_
  rintro e w1 ⟨vn, vd, rfl, hn, hd, hb⟩
  obtain ⟨an, cn, bn, on, rfl, -⟩ := hn.open
  obtain ⟨ad, cd, bd, od, rfl, -⟩ := hd.open
  have HN1 : Hid (Ints .u64 w1 (.slice an 2 cn) [1, 1]) := hn
  have HD1 : Hid (Ints .u8 w1 (.slice ad 8 cd) [4, 99, 0, 8, 0, 0, 0, 5]) := hd
  have HX1 := Lib.hid (HX0.out.below hb)
  have HB1 := Lib.hid (below1 hb)
  clear hb hn hd
  go_wp2_with fail
  refine (for_b _ _ (Ints.lit .u8 (w1.alloc _) 5 [4, 1, 0, 8] _ (by simp) (by decide) (by decide))).mono ?_
  rintro e w2 ⟨rfl, hb⟩
  have HH2 := Lib.hid (((below1 hb).block w1.heap.size (by simp)).trans (heap_alloc_new _ _))
  have HB2 := Lib.hid (HB1.out.trans ((below2 hb).mono HB1.out.size))
  have HN2 := Lib.hid (HN1.out.below (below2 hb))
  have HD2 := Lib.hid (HD1.out.below (below2 hb))
  have HX2 := Lib.hid (HX1.out.below (below2 hb))
  clear hb
  go_wp2_with (refine wpList_store_rowTo rfl 35 _ _ rfl rfl w2.heap.size (msgX 0 0 nilV nilV) rfl rfl _ _ (heap_alloc_new _ _) (by kernel_rfl) (by kernel_rfl) (by kernel_rfl) ?_; rw [alloc_setRow]; have HB3 := Lib.hid (HB2.out.alloc HB2.out.size (.cells (msgX 0 0 nilV nilV) 35)); have HN3 := Lib.hid (HN2.out.alloc (.cells (msgX 0 0 nilV nilV) 35)); have HD3 := Lib.hid (HD2.out.alloc (.cells (msgX 0 0 nilV nilV) 35)); have HX3 := Lib.hid (HX2.out.alloc (.cells (msgX 0 0 nilV nilV) 35)); have HH3 := ((below_alloc2 (w := w2) (.cells (msgX 0 0 nilV nilV) 35)).block w1.heap.size ((Array.getElem?_eq_some_iff.1 HH2.out).1)).trans HH2.out; generalize w2.alloc (.cells (msgX 0 0 nilV nilV) 35) = w3 at HB3 HN3 HD3 HX3 HH3 ⊢; have c0 := cell_heap HH3 0; have c1 := cell_heap HH3 1; have c2 := cell_heap HH3 2; have c3 := cell_heap HH3 3; have c4 := cell_heap HH3 4; have c5 := cell_heap HH3 5; have c6 := cell_heap HH3 6; have c7 := cell_heap HH3 7; have c8 := cell_heap HH3 8; have c9 := cell_heap HH3 9; have c10 := cell_heap HH3 10; have c11 := cell_heap HH3 11; have c12 := cell_heap HH3 12; have c13 := cell_heap HH3 13; have c14 := cell_heap HH3 14; have HH3 := Lib.hid HH3)
  refine (why_fixed _ _ _ HN3.out ⟨_, _, _, rfl⟩).mono ?_
  rintro e w4 ⟨rfl, hb⟩
  have HB4 := Lib.hid (HB3.out.trans (hb.mono HB3.out.size))
  have HN4 := Lib.hid (HN3.out.below hb)
  have HD4 := Lib.hid (HD3.out.below hb)
  have HX4 := Lib.hid (HX3.out.below hb)
  have HH4 := (hb.block w1.heap.size ((Array.getElem?_eq_some_iff.1 HH3.out).1)).trans HH3.out
  clear c0 c1 c2 c3 c4 c5 c6 c7 c8 c9 c10 c11 c12 c13 c14 hb
  have c0 := cell_heap HH4 0
  have c1 := cell_heap HH4 1
  have c2 := cell_heap HH4 2
  have c3 := cell_heap HH4 3
  have c4 := cell_heap HH4 4
  have c5 := cell_heap HH4 5
  have c6 := cell_heap HH4 6
  have c7 := cell_heap HH4 7
  have c8 := cell_heap HH4 8
  have c9 := cell_heap HH4 9
  have c10 := cell_heap HH4 10
  have c11 := cell_heap HH4 11
  have c12 := cell_heap HH4 12
  have c13 := cell_heap HH4 13
  have c14 := cell_heap HH4 14
  have HH4 := Lib.hid HH4
  go_wp2_with fail
  refine (body_refuse _ _ _ HN4.out HD4.out).mono ?_
  rintro e w5 ⟨a5, c5', rfl, hb⟩
  have HB5 := Lib.hid (HB4.out.trans (hb.mono HB4.out.size))
  have HN5 := Lib.hid (HN4.out.below hb)
  have HD5 := Lib.hid (HD4.out.below hb)
  have HX5 := Lib.hid (HX4.out.below hb)
  have HH5 := (hb.block w1.heap.size ((Array.getElem?_eq_some_iff.1 HH4.out).1)).trans HH4.out
  clear c0 c1 c2 c3 c4 c5 c6 c7 c8 c9 c10 c11 c12 c13 c14 hb
  have c2 := cell_heap HH5 2
  have HH5 := Lib.hid HH5
  go_wp2_with fail
  refine (nums_same (HN5.out.alloc _) (Ints.lit .u64 w5 76 [1, 1] _ rfl (by decide) (by decide))).mono ?_
  rintro e w6 ⟨rfl, hb⟩
  have HB6 := Lib.hid (HB5.out.trans ((below1 hb).mono HB5.out.size))
  have HD6 := Lib.hid (HD5.out.below (below1 hb))
  have HX6 := Lib.hid (HX5.out.below (below1 hb))
  have HH6 := ((below1 hb).block w1.heap.size ((Array.getElem?_eq_some_iff.1 HH5.out).1)).trans HH5.out
  clear c2 hb
  have c1 := cell_heap HH6 1
  have c3 := cell_heap HH6 3
  clear HH6
  have HY := Lib.hid (bytes_same HD6.out HX6.out)
  go_wp2_with fail
  refine HY.out.mono ?_
  rintro e w7 ⟨rfl, hb⟩
  have HB7 := Lib.hid (HB6.out.trans (hb.mono HB6.out.size))
  have HA := fun w => Lib.hid (refuse_has 4 w)
  have HC := fun w => Lib.hid (refuse_has 0 w)
  rw [show (rowR 4).2 = true from rfl] at HA
  rw [show (rowR 0).2 = false from rfl] at HC
  clear hb
  go_wp2_with fail
  (with_reducible refine (HA _).out.mono ?_)
  rintro e w8 ⟨rfl, hb⟩
  have HB8 := Lib.hid (HB7.out.trans (hb.mono HB7.out.size))
  clear hb
  go_wp2_with fail
  (with_reducible refine (HC _).out.mono ?_)
  rintro e w9 ⟨rfl, hb⟩
  have HB9 := Lib.hid (HB8.out.trans (hb.mono HB8.out.size))
  clear hb
  go_wp2_with fail
  go_ret
  exact ⟨rfl, HB9.out⟩
end Go.Proofs.Ytfaklenclhljhaa
