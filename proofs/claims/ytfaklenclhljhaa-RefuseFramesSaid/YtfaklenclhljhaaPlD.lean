/- The document's Same of two messages that have nothing but type, numbers and data; its parts, of nothing. Conditions: the two read alike. -/
import Derived.Test.YtfaklenclhljhaaPlC
namespace Go.Proofs.Ytfaklenclhljhaa
open Go.RowKit
set_option maxRecDepth 100000
set_option maxHeartbeats 4000000

theorem same_elems (w : World) : Calls Try.prog 55 #[nilV, nilV] w fun e w' => e = .returned (.bool true) ∧ w = w' := by
  go_enter Try.func55, Try.ntmps55
  go_wp2_with fail
  go_loop [5] (fun i => i = .int .i64 0) (fun _ => 0)
  case atStart => rfl
  case round =>
    obtain rfl := hrel
    go_wp2
    go_ret
    exact ⟨rfl, rfl⟩

theorem same09 (w : World) : Calls Try.prog 56 #[nilV, nilV] w fun e w' => e = .returned (.bool true) ∧ w = w' := by
  go_enter Try.func56, Try.ntmps56
  go_wp2_with fail
  go_loop [5] (fun i => i = .int .i64 0) (fun _ => 0)
  case atStart => rfl
  case round =>
    obtain rfl := hrel
    go_wp2
    go_ret
    exact ⟨rfl, rfl⟩

theorem same13 (w : World) : Calls Try.prog 57 #[nilV, nilV] w fun e w' => e = .returned (.bool true) ∧ w = w' := by
  go_enter Try.func57, Try.ntmps57
  go_wp2_with fail
  go_loop [5] (fun i => i = .int .i64 0) (fun _ => 0)
  case atStart => rfl
  case round =>
    obtain rfl := hrel
    go_wp2
    go_ret
    exact ⟨rfl, rfl⟩

theorem same15 (w : World) : Calls Try.prog 58 #[nilV, nilV] w fun e w' => e = .returned (.bool true) ∧ w = w' := by
  go_enter Try.func58, Try.ntmps58
  go_wp2_with fail
  go_loop [5] (fun i => i = .int .i64 0) (fun _ => 0)
  case atStart => rfl
  case round =>
    obtain rfl := hrel
    go_wp2
    go_ret
    exact ⟨rfl, rfl⟩

theorem same16 (w : World) : Calls Try.prog 59 #[nilV, nilV] w fun e w' => e = .returned (.bool true) ∧ w = w' := by
  go_enter Try.func59, Try.ntmps59
  go_wp2_with fail
  go_loop [5] (fun i => i = .int .i64 0) (fun _ => 0)
  case atStart => rfl
  case round =>
    obtain rfl := hrel
    go_wp2
    go_ret
    exact ⟨rfl, rfl⟩

theorem same17 (w : World) : Calls Try.prog 60 #[nilV, nilV] w fun e w' => e = .returned (.bool true) ∧ w = w' := by
  go_enter Try.func60, Try.ntmps60
  go_wp2_with fail
  go_loop [5] (fun i => i = .int .i64 0) (fun _ => 0)
  case atStart => rfl
  case round =>
    obtain rfl := hrel
    go_wp2
    go_ret
    exact ⟨rfl, rfl⟩

theorem same18 (w : World) : Calls Try.prog 61 #[nilV, nilV] w fun e w' => e = .returned (.bool true) ∧ w = w' := by
  go_enter Try.func61, Try.ntmps61
  go_wp2_with fail
  go_loop [5] (fun i => i = .int .i64 0) (fun _ => 0)
  case atStart => rfl
  case round =>
    obtain rfl := hrel
    go_wp2
    go_ret
    exact ⟨rfl, rfl⟩

theorem same19 (w : World) : Calls Try.prog 62 #[nilV, nilV] w fun e w' => e = .returned (.bool true) ∧ w = w' := by
  go_enter Try.func62, Try.ntmps62
  go_wp2_with fail
  go_loop [5] (fun i => i = .int .i64 0) (fun _ => 0)
  case atStart => rfl
  case round =>
    obtain rfl := hrel
    go_wp2
    go_ret
    exact ⟨rfl, rfl⟩

theorem nums_same {va vb : Value} {l : List Int} {w : World} (h1 : Ints .u64 w va l) (h2 : Ints .u64 w vb l) : Calls Try.prog 39 #[va, vb] w fun e w' => e = .returned (.bool true) ∧ Below w.heap.size w w' := by
  have := ref_nums va vb l l w h1 h2
  rw [show decide (l = l) = true from decide_eq_true rfl] at this
  exact this
theorem bytes_same {va vb : Value} {l : List Int} {w : World} (h1 : Ints .u8 w va l) (h2 : Ints .u8 w vb l) : Calls Try.prog 16 #[va, vb] w fun e w' => e = .returned (.bool true) ∧ Below w.heap.size w w' := by
  have := ref_bytes va vb l l w h1 h2
  rw [show decide (l = l) = true from decide_eq_true rfl] at this
  exact this

theorem same_msg (ty : Int) (va vb da db : Value) (l ds : List Int) (w : World) (h1 : Ints .u64 w va l) (h2 : Ints .u64 w vb l) (h3 : Ints .u8 w da ds) (h4 : Ints .u8 w db ds) :
    Calls Try.prog 19 #[.agg (msgA ty va da), .agg (msgA ty vb db)] w fun e w' => e = .returned (.bool true) ∧ Below w.heap.size w w' := by
  have HN := Lib.hid (nums_same ((h1.alloc (.cells (msgA ty va da) 35)).alloc (.cells (msgA ty vb db) 35)) ((h2.alloc (.cells (msgA ty va da) 35)).alloc (.cells (msgA ty vb db) 35)))
  have HD3 := Lib.hid ((h3.alloc (.cells (msgA ty va da) 35)).alloc (.cells (msgA ty vb db) 35))
  have HD4 := Lib.hid ((h4.alloc (.cells (msgA ty va da) 35)).alloc (.cells (msgA ty vb db) 35))
  have HBx : Hid (Below w.heap.size w ((w.alloc (.cells (msgA ty va da) 35)).alloc (.cells (msgA ty vb db) 35))) := ((Below.refl _ _).alloc (Nat.le_refl _) _).alloc (by simp) _
  have HH0 : Hid (((w.alloc (.cells (msgA ty va da) 35)).alloc (.cells (msgA ty vb db) 35)).heap[w.heap.size]? = some (.cells (msgA ty va da) 35 (0, 0))) := ((below_alloc2 _).block _ (by simp)).trans (heap_alloc_new _ _)
  have HH1 : Hid (((w.alloc (.cells (msgA ty va da) 35)).alloc (.cells (msgA ty vb db) 35)).heap[w.heap.size + 1]? = some (.cells (msgA ty vb db) 35 (0, 0))) := by
    have := heap_alloc_new (w.alloc (.cells (msgA ty va da) 35)) (.cells (msgA ty vb db) 35)
    rw [World.size_alloc] at this
    exact this
  obtain ⟨aa, ca, ba, oa, rfl, -⟩ := h1.open
  obtain ⟨ab, cb, bb, ob, rfl, -⟩ := h2.open
  obtain ⟨ac, cc, bc, oc, rfl, -⟩ := h3.open
  obtain ⟨ad, cd, bd, od, rfl, -⟩ := h4.open
  clear h1 h2 h3 h4
  go_enter Try.func19, Try.ntmps19
  go_wp2_with fail
  (with_reducible refine HN.out.mono ?_)
  rintro e w2 ⟨rfl, hb⟩
  have HA2 := (hb.block w.heap.size (by simp; omega)).trans HH0.out
  have HB2 := (hb.block (w.heap.size + 1) (by simp)).trans HH1.out
  have c3 := cell_heap HA2 3
  have e3 := cell_heap HB2 3
  have c14 := cell_heap HA2 14
  have e14 := cell_heap HB2 14
  have HY := Lib.hid (bytes_same (HD3.out.below hb) (HD4.out.below hb))
  have hs2 : Hid (w.heap.size + 1 < w2.heap.size) := by have := hb.size; show _ < _; simp at this; omega
  have HBy := Lib.hid (HBx.out.trans (hb.mono HBx.out.size))
  have HA2 := Lib.hid HA2
  have HB2 := Lib.hid HB2
  clear hb
  go_wp2_with fail
  (with_reducible refine HY.out.mono ?_)
  rintro e w3 ⟨rfl, hb⟩
  have HA3 := (hb.block w.heap.size (by have := hs2.out; omega)).trans HA2.out
  have HB3 := (hb.block (w.heap.size + 1) hs2.out).trans HB2.out
  clear c3 e3
  clear c14 e14
  have c4 := cell_heap HA3 4
  have e4 := cell_heap HB3 4
  have c5 := cell_heap HA3 5
  have e5 := cell_heap HB3 5
  have c6 := cell_heap HA3 6
  have e6 := cell_heap HB3 6
  have c7 := cell_heap HA3 7
  have e7 := cell_heap HB3 7
  have c8 := cell_heap HA3 8
  have e8 := cell_heap HB3 8
  have c9 := cell_heap HA3 9
  have e9 := cell_heap HB3 9
  have c10 := cell_heap HA3 10
  have e10 := cell_heap HB3 10
  have c11 := cell_heap HA3 11
  have e11 := cell_heap HB3 11
  have c14 := cell_heap HA3 14
  have e14 := cell_heap HB3 14
  have HBz := Lib.hid (HBy.out.trans (hb.mono HBy.out.size))
  clear hb HA3 HB3
  go_wp2_with fail
  go_loop [5] (fun i => i = .int .i64 0) (fun _ => 0)
  case atStart => rfl
  case round =>
    obtain rfl := hrel
    go_wp2_with (first
      | (go_at_call 55; (with_reducible refine (same_elems _).mono ?_); rintro e w4 ⟨rfl, rfl⟩)
      | (go_at_call 56; (with_reducible refine (same09 _).mono ?_); rintro e w4 ⟨rfl, rfl⟩)
      | (go_at_call 57; (with_reducible refine (same13 _).mono ?_); rintro e w4 ⟨rfl, rfl⟩)
      | (go_at_call 58; (with_reducible refine (same15 _).mono ?_); rintro e w4 ⟨rfl, rfl⟩)
      | (go_at_call 59; (with_reducible refine (same16 _).mono ?_); rintro e w4 ⟨rfl, rfl⟩)
      | (go_at_call 60; (with_reducible refine (same17 _).mono ?_); rintro e w4 ⟨rfl, rfl⟩)
      | (go_at_call 61; (with_reducible refine (same18 _).mono ?_); rintro e w4 ⟨rfl, rfl⟩)
      | (go_at_call 62; (with_reducible refine (same19 _).mono ?_); rintro e w4 ⟨rfl, rfl⟩))
    go_ret
    exact ⟨rfl, HBz.out⟩
end Go.Proofs.Ytfaklenclhljhaa
