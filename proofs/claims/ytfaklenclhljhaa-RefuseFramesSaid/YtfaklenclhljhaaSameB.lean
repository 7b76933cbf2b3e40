/- The document's Same of two messages that have nothing but type, number, numbers and data, whatever empty lists stand in them. Conditions: the two read alike. -/
import Derived.Test.YtfaklenclhljhaaBodyA
namespace Go.Proofs.Ytfaklenclhljhaa
open Go.RowKit
set_option maxRecDepth 100000
set_option maxHeartbeats 4000000

theorem bareL_nil : ∀ {L : Lens}, bareL L = true → L.n4 = 0 ∧ L.n5 = 0 ∧ L.n6 = 0 ∧ L.n7 = 0 ∧ L.n8 = 0 ∧ L.n9 = 0 ∧ L.n10 = 0 ∧ L.n11 = 0 ∧ L.n14 = 0 ∧ L.kind = 0 ∧ L.flags = 0 := fun {L} h => by
  simp only [bareL, Bool.and_eq_true, decide_eq_true_eq] at h
  simp only [h, and_self]

theorem empty_elems (a1 a2 : Option Addr) (c1 c2 : Nat) (w : World) : Calls Try.prog 55 #[.slice a1 0 c1, .slice a2 0 c2] w fun e w' => e = .returned (.bool true) ∧ w = w' := by
  go_enter Try.func55, Try.ntmps55
  go_wp2_with fail
  go_loop [5] (fun i => i = .int .i64 0) (fun _ => 0)
  case atStart => rfl
  case round =>
    obtain rfl := hrel
    go_wp2
    go_ret
    exact ⟨rfl, rfl⟩

theorem empty09 (a1 a2 : Option Addr) (c1 c2 : Nat) (w : World) : Calls Try.prog 56 #[.slice a1 0 c1, .slice a2 0 c2] w fun e w' => e = .returned (.bool true) ∧ w = w' := by
  go_enter Try.func56, Try.ntmps56
  go_wp2_with fail
  go_loop [5] (fun i => i = .int .i64 0) (fun _ => 0)
  case atStart => rfl
  case round =>
    obtain rfl := hrel
    go_wp2
    go_ret
    exact ⟨rfl, rfl⟩

theorem empty13 (a1 a2 : Option Addr) (c1 c2 : Nat) (w : World) : Calls Try.prog 57 #[.slice a1 0 c1, .slice a2 0 c2] w fun e w' => e = .returned (.bool true) ∧ w = w' := by
  go_enter Try.func57, Try.ntmps57
  go_wp2_with fail
  go_loop [5] (fun i => i = .int .i64 0) (fun _ => 0)
  case atStart => rfl
  case round =>
    obtain rfl := hrel
    go_wp2
    go_ret
    exact ⟨rfl, rfl⟩

theorem empty15 (a1 a2 : Option Addr) (c1 c2 : Nat) (w : World) : Calls Try.prog 58 #[.slice a1 0 c1, .slice a2 0 c2] w fun e w' => e = .returned (.bool true) ∧ w = w' := by
  go_enter Try.func58, Try.ntmps58
  go_wp2_with fail
  go_loop [5] (fun i => i = .int .i64 0) (fun _ => 0)
  case atStart => rfl
  case round =>
    obtain rfl := hrel
    go_wp2
    go_ret
    exact ⟨rfl, rfl⟩

theorem empty16 (a1 a2 : Option Addr) (c1 c2 : Nat) (w : World) : Calls Try.prog 59 #[.slice a1 0 c1, .slice a2 0 c2] w fun e w' => e = .returned (.bool true) ∧ w = w' := by
  go_enter Try.func59, Try.ntmps59
  go_wp2_with fail
  go_loop [5] (fun i => i = .int .i64 0) (fun _ => 0)
  case atStart => rfl
  case round =>
    obtain rfl := hrel
    go_wp2
    go_ret
    exact ⟨rfl, rfl⟩

theorem empty17 (a1 a2 : Option Addr) (c1 c2 : Nat) (w : World) : Calls Try.prog 60 #[.slice a1 0 c1, .slice a2 0 c2] w fun e w' => e = .returned (.bool true) ∧ w = w' := by
  go_enter Try.func60, Try.ntmps60
  go_wp2_with fail
  go_loop [5] (fun i => i = .int .i64 0) (fun _ => 0)
  case atStart => rfl
  case round =>
    obtain rfl := hrel
    go_wp2
    go_ret
    exact ⟨rfl, rfl⟩

theorem empty18 (a1 a2 : Option Addr) (c1 c2 : Nat) (w : World) : Calls Try.prog 61 #[.slice a1 0 c1, .slice a2 0 c2] w fun e w' => e = .returned (.bool true) ∧ w = w' := by
  go_enter Try.func61, Try.ntmps61
  go_wp2_with fail
  go_loop [5] (fun i => i = .int .i64 0) (fun _ => 0)
  case atStart => rfl
  case round =>
    obtain rfl := hrel
    go_wp2
    go_ret
    exact ⟨rfl, rfl⟩

theorem empty19 (a1 a2 : Option Addr) (c1 c2 : Nat) (w : World) : Calls Try.prog 62 #[.slice a1 0 c1, .slice a2 0 c2] w fun e w' => e = .returned (.bool true) ∧ w = w' := by
  go_enter Try.func62, Try.ntmps62
  go_wp2_with fail
  go_loop [5] (fun i => i = .int .i64 0) (fun _ => 0)
  case atStart => rfl
  case round =>
    obtain rfl := hrel
    go_wp2
    go_ret
    exact ⟨rfl, rfl⟩

theorem same_msgL (ty xid : Int) (va vb da db : Value) (l ds : List Int) (L K : Lens) (w : World) (hL : bareL L = true) (hK : bareL K = true) (h1 : Ints .u64 w va l) (h2 : Ints .u64 w vb l) (h3 : Ints .u8 w da ds) (h4 : Ints .u8 w db ds) :
    Calls Try.prog 19 #[.agg (msgL ty xid va da L), .agg (msgL ty xid vb db K)] w fun e w' => e = .returned (.bool true) ∧ Below w.heap.size w w' := by
  have HN := Lib.hid (nums_same ((h1.alloc (.cells (msgL ty xid va da L) 35)).alloc (.cells (msgL ty xid vb db K) 35)) ((h2.alloc (.cells (msgL ty xid va da L) 35)).alloc (.cells (msgL ty xid vb db K) 35)))
  have HD3 := Lib.hid ((h3.alloc (.cells (msgL ty xid va da L) 35)).alloc (.cells (msgL ty xid vb db K) 35))
  have HD4 := Lib.hid ((h4.alloc (.cells (msgL ty xid va da L) 35)).alloc (.cells (msgL ty xid vb db K) 35))
  have HBx : Hid (Below w.heap.size w ((w.alloc (.cells (msgL ty xid va da L) 35)).alloc (.cells (msgL ty xid vb db K) 35))) := ((Below.refl _ _).alloc (Nat.le_refl _) _).alloc (by simp) _
  have HH0 : Hid (((w.alloc (.cells (msgL ty xid va da L) 35)).alloc (.cells (msgL ty xid vb db K) 35)).heap[w.heap.size]? = some (.cells (msgL ty xid va da L) 35 (0, 0))) := ((below_alloc2 _).block _ (by simp)).trans (heap_alloc_new _ _)
  have HH1 : Hid (((w.alloc (.cells (msgL ty xid va da L) 35)).alloc (.cells (msgL ty xid vb db K) 35)).heap[w.heap.size + 1]? = some (.cells (msgL ty xid vb db K) 35 (0, 0))) := by
    have := heap_alloc_new (w.alloc (.cells (msgL ty xid va da L) 35)) (.cells (msgL ty xid vb db K) 35)
    rw [World.size_alloc] at this
    exact this
  obtain ⟨n4, n5, n6, n7, n8, n9, n10, n11, n14, nk, nf⟩ := bareL_nil hL
  obtain ⟨m4, m5, m6, m7, m8, m9, m10, m11, m14, mk, mf⟩ := bareL_nil hK
  obtain ⟨a4, ln4, c4, a5, ln5, c5, a6, ln6, c6, a7, ln7, c7, a8, ln8, c8, a9, ln9, c9, a10, ln10, c10, a11, ln11, c11, a14, ln14, c14, lk, lf⟩ := L
  obtain ⟨x4, kn4, y4, x5, kn5, y5, x6, kn6, y6, x7, kn7, y7, x8, kn8, y8, x9, kn9, y9, x10, kn10, y10, x11, kn11, y11, x14, kn14, y14, kk, kf⟩ := K
  dsimp only at n4 m4 n5 m5 n6 m6 n7 m7 n8 m8 n9 m9 n10 m10 n11 m11 n14 m14 nk nf mk mf
  subst n4 m4 n5 m5 n6 m6 n7 m7 n8 m8 n9 m9 n10 m10 n11 m11 n14 m14 nk nf mk mf
  clear hL hK
  obtain ⟨aa, ca, ba, oa, rfl, -⟩ := h1.open
  obtain ⟨ab, cb, bb, ob, rfl, -⟩ := h2.open
  obtain ⟨ac, cc, bc, oc, rfl, -⟩ := h3.open
  obtain ⟨ad, cd, bd, od, rfl, -⟩ := h4.open
  clear h1 h2 h3 h4
  go_enter Try.func19, Try.ntmps19
  go_wp2_with fail
  (with_reducible refine HN.out.mono ?_)
  rintro e w2 ⟨rfl, hb⟩
  have HA2 := (hb.block w.heap.size (by simp; omega)).trans HH0.out
  have HB2 := (hb.block (w.heap.size + 1) (by simp)).trans HH1.out
  have c3 := cell_heap HA2 3
  have e3 := cell_heap HB2 3
  have HY := Lib.hid (bytes_same (HD3.out.below hb) (HD4.out.below hb))
  have hs2 : Hid (w.heap.size + 1 < w2.heap.size) := by have := hb.size; show _ < _; simp at this; omega
  have HBy := Lib.hid (HBx.out.trans (hb.mono HBx.out.size))
  have HA2 := Lib.hid HA2
  have HB2 := Lib.hid HB2
  clear hb
  go_wp2_with fail
  (with_reducible refine HY.out.mono ?_)
  rintro e w3 ⟨rfl, hb⟩
  have HA3 := (hb.block w.heap.size (by have := hs2.out; omega)).trans HA2.out
  have HB3 := (hb.block (w.heap.size + 1) hs2.out).trans HB2.out
  clear c3 e3
  have d4 := cell_heap HA3 4
  have e4 := cell_heap HB3 4
  have d5 := cell_heap HA3 5
  have e5 := cell_heap HB3 5
  have d6 := cell_heap HA3 6
  have e6 := cell_heap HB3 6
  have d7 := cell_heap HA3 7
  have e7 := cell_heap HB3 7
  have d8 := cell_heap HA3 8
  have e8 := cell_heap HB3 8
  have d9 := cell_heap HA3 9
  have e9 := cell_heap HB3 9
  have d10 := cell_heap HA3 10
  have e10 := cell_heap HB3 10
  have d11 := cell_heap HA3 11
  have e11 := cell_heap HB3 11
  have d14 := cell_heap HA3 14
  have e14 := cell_heap HB3 14
  have d12 := cell_heap HA3 12
  have e12 := cell_heap HB3 12
  have d13 := cell_heap HA3 13
  have e13 := cell_heap HB3 13
  have HBz := Lib.hid (HBy.out.trans (hb.mono HBy.out.size))
  clear hb HA3 HB3
  go_wp2_with fail
  go_loop [5] (fun i => i = .int .i64 0) (fun _ => 0)
  case atStart => rfl
  case round =>
    obtain rfl := hrel
    go_wp2_with (first
      | (go_at_call 55; (with_reducible refine (empty_elems _ _ _ _ _).mono ?_); rintro e w4 ⟨rfl, rfl⟩)
      | (go_at_call 56; (with_reducible refine (empty09 _ _ _ _ _).mono ?_); rintro e w4 ⟨rfl, rfl⟩)
      | (go_at_call 57; (with_reducible refine (empty13 _ _ _ _ _).mono ?_); rintro e w4 ⟨rfl, rfl⟩)
      | (go_at_call 58; (with_reducible refine (empty15 _ _ _ _ _).mono ?_); rintro e w4 ⟨rfl, rfl⟩)
      | (go_at_call 59; (with_reducible refine (empty16 _ _ _ _ _).mono ?_); rintro e w4 ⟨rfl, rfl⟩)
      | (go_at_call 60; (with_reducible refine (empty17 _ _ _ _ _).mono ?_); rintro e w4 ⟨rfl, rfl⟩)
      | (go_at_call 61; (with_reducible refine (empty18 _ _ _ _ _).mono ?_); rintro e w4 ⟨rfl, rfl⟩)
      | (go_at_call 62; (with_reducible refine (empty19 _ _ _ _ _).mono ?_); rintro e w4 ⟨rfl, rfl⟩))
    go_ret
    exact ⟨rfl, HBz.out⟩
end Go.Proofs.Ytfaklenclhljhaa
