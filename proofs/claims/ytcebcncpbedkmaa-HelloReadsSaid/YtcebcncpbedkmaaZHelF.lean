/- The document's Same of two messages that have nothing but type, number, numbers, data and elements, whatever empty lists stand in them. Conditions: the two read alike. -/
import Derived.Test.YtcebcncpbedkmaaZMsgA
import Derived.Test.YtcebcncpbedkmaaZRefTA
namespace Go.Proofs.Ytcebcncpbedkmaa
open Go.RowKit
set_option maxRecDepth 100000
set_option maxHeartbeats 4000000

theorem ref_elems {v1 v2 : Value} {l m : List (Int × List Int)} {w : World} (h1 : RowsOf ItemR 2 w v1 l) (h2 : RowsOf ItemR 2 w v2 m) : Calls Try.prog 39 #[v1, v2] w fun e w' => e = .returned (.bool (decide (l = m))) ∧ ∃ q, w' = w.drewN q := by
  obtain ⟨a, cap, b, off, rfl, hcap, hmx, -, ha, hit⟩ := items_open h1
  obtain ⟨a2, cap2, b2, off2, rfl, hcap2, hmx2, -, ha2, hit2⟩ := items_open h2
  unfold maxLen at hmx hmx2
  have A := Lib.hid ha
  have A2 := Lib.hid ha2
  have HIt := Lib.hid hit
  have HIt2 := Lib.hid hit2
  clear h1 h2 ha ha2 hit hit2
  by_cases hl : l.length = m.length
  · have e1 : ((l.length : Int) != (l.length : Int)) = false := by simp
    have HL := Lib.hid hl
    rw [← hl]
    clear hl
    go_enter Try.func39, Try.ntmps39
    go_wp2_with fail
    go_loopw [4, 5] (fun r i wr => ∃ k : Nat, k ≤ l.length ∧ i = .int .i64 k ∧ r = .bool false ∧ Hid (∃ q, wr = w.drewN q) ∧ Hid (l.take k = m.take k)) (fun _ i _ => l.length - (intOf i).toNat)
    case atStart => exact ⟨0, by omega, rfl, rfl, ⟨0, rfl⟩, rfl⟩
    case round =>
      obtain ⟨k, hk, rfl, rfl, HW, HT⟩ := hrel
      by_cases hlt : k < l.length
      · obtain rfl := A.out (by omega)
        obtain rfl := A2.out (by have := HL.out; omega)
        obtain ⟨⟨t, bs⟩, hx⟩ : ∃ x, l[k]? = some x := ⟨_, List.getElem?_eq_getElem hlt⟩
        obtain ⟨⟨t2, bs2⟩, hx2⟩ : ∃ x, m[k]? = some x := ⟨_, List.getElem?_eq_getElem (by have := HL.out; omega)⟩
        obtain ⟨bv, x0, x1, hbv, hwf⟩ := HIt.out k t bs hx
        obtain ⟨bv2, y0, y1, hbv2, hwf2⟩ := HIt2.out k t2 bs2 hx2
        have HX := Lib.hid hx
        have HX2 := Lib.hid hx2
        have hbw : Below w.heap.size w wr := by obtain ⟨q, hq⟩ := HW.out; rw [hq]; exact below_drewN (Below.refl _ _) _
        have x0 := (hbw.cell (World.block_lt_of_cell? _ _ x0)).trans x0
        have x1 := (hbw.cell (World.block_lt_of_cell? _ _ x1)).trans x1
        have y0 := (hbw.cell (World.block_lt_of_cell? _ _ y0)).trans y0
        have y1 := (hbw.cell (World.block_lt_of_cell? _ _ y1)).trans y1
        have HBy : Hid (∀ n, Calls Try.prog 12 #[bv, bv2] (wr.drewN n) fun e w' => e = .returned (.bool (decide (bs = bs2))) ∧ ∃ q, w' = (wr.drewN n).drewN q) := fun n => ref_bytes_q bv bv2 bs bs2 _ ((hbv.below hbw).below (below_drewN (Below.refl _ _) n)) ((hbv2.below hbw).below (below_drewN (Below.refl _ _) n))
        have hlt' : (k : Int) < l.length := by omega
        clear hx hx2 hbv hbv2 hbw
        by_cases ht : t = t2
        · subst ht
          have e3 : (t != t) = false := by simp
          by_cases hb : bs = bs2
          · subst hb
            rw [decide_eq_true rfl] at HBy
            go_wp2_with fail
            go_quiet ((go_at_call 12; exact quiet_some (HBy.out _)))
            go_wp2_with fail
            go_roundw
            case rel => exact ⟨k + 1, by omega, by go_num, rfl, by obtain ⟨q, hq⟩ := HW.out; exact ⟨q + nq, by rw [hq]; simp [World.drewN, Nat.add_assoc]⟩, take_both HX.out HX2.out HT.out⟩
            case measure => simp [intOf]; omega
          · have HNE : Hid (decide (l = m) = false) := decide_eq_false (get_ne HX.out HX2.out (fun e => hb (by injection e)))
            rw [decide_eq_false hb] at HBy
            clear hb
            go_wp2_with fail
            go_quiet ((go_at_call 12; exact quiet_some (HBy.out _)))
            go_wp2_with fail
            go_ret
            exact ⟨by rw [HNE.out]; rfl, by obtain ⟨q, hq⟩ := HW.out; exact ⟨q + nq, by rw [hq]; simp [World.drewN, Nat.add_assoc]⟩⟩
        · have HNE : Hid (decide (l = m) = false) := decide_eq_false (get_ne HX.out HX2.out (fun e => ht (by injection e)))
          have e3 : (t != t2) = true := by simpa using ht
          clear ht
          go_wp2_with fail
          go_quiet (fail)
          go_wp2_with fail
          go_ret
          exact ⟨by rw [HNE.out]; rfl, by obtain ⟨q, hq⟩ := HW.out; exact ⟨q + nq, by rw [hq]; simp [World.drewN, Nat.add_assoc]⟩⟩
      · obtain rfl : k = l.length := by omega
        have HE : Hid (decide (l = m) = true) := by
          have := HT.out
          rw [List.take_length, HL.out, List.take_length] at this
          exact decide_eq_true this
        go_wp2_with fail
        go_ret
        exact ⟨by rw [HE.out]; rfl, HW.out⟩
  · have HNE : Hid (decide (l = m) = false) := decide_eq_false (fun e => hl (by rw [e]))
    have hb : ((l.length : Int) != (m.length : Int)) = true := by simp; omega
    clear hl
    go_enter Try.func39, Try.ntmps39
    go_wp2
    go_ret
    exact ⟨by rw [HNE.out]; rfl, 0, rfl⟩

theorem nums_same {va vb : Value} {l : List Int} {w : World} (h1 : Ints .u64 w va l) (h2 : Ints .u64 w vb l) : Calls Try.prog 37 #[va, vb] w fun e w' => e = .returned (.bool true) ∧ Below w.heap.size w w' := by
  have := ref_nums va vb l l w h1 h2
  rw [show decide (l = l) = true from decide_eq_true rfl] at this
  exact this
theorem bytes_same {va vb : Value} {l : List Int} {w : World} (h1 : Ints .u8 w va l) (h2 : Ints .u8 w vb l) : Calls Try.prog 12 #[va, vb] w fun e w' => e = .returned (.bool true) ∧ Below w.heap.size w w' := by
  have := ref_bytes va vb l l w h1 h2
  rw [show decide (l = l) = true from decide_eq_true rfl] at this
  exact this
theorem bareL_nil : ∀ {L : Lens}, bareL L = true → L.n4 = 0 ∧ L.n5 = 0 ∧ L.n6 = 0 ∧ L.n7 = 0 ∧ L.n8 = 0 ∧ L.n9 = 0 ∧ L.n10 = 0 ∧ L.n11 = 0 ∧ L.n14 = 0 ∧ L.kind = 0 ∧ L.flags = 0 := fun {L} h => by
  simp only [bareL, Bool.and_eq_true, decide_eq_true_eq] at h
  simp only [h, and_self]

theorem empty09 (a1 a2 : Option Addr) (c1 c2 : Nat) (w : World) : Calls Try.prog 40 #[.slice a1 0 c1, .slice a2 0 c2] w fun e w' => e = .returned (.bool true) ∧ w = w' := by
  go_enter Try.func40, Try.ntmps40
  go_wp2_with fail
  go_loop [5] (fun i => i = .int .i64 0) (fun _ => 0)
  case atStart => rfl
  case round =>
    obtain rfl := hrel
    go_wp2
    go_ret
    exact ⟨rfl, rfl⟩

theorem empty13 (a1 a2 : Option Addr) (c1 c2 : Nat) (w : World) : Calls Try.prog 41 #[.slice a1 0 c1, .slice a2 0 c2] w fun e w' => e = .returned (.bool true) ∧ w = w' := by
  go_enter Try.func41, Try.ntmps41
  go_wp2_with fail
  go_loop [5] (fun i => i = .int .i64 0) (fun _ => 0)
  case atStart => rfl
  case round =>
    obtain rfl := hrel
    go_wp2
    go_ret
    exact ⟨rfl, rfl⟩

theorem empty15 (a1 a2 : Option Addr) (c1 c2 : Nat) (w : World) : Calls Try.prog 42 #[.slice a1 0 c1, .slice a2 0 c2] w fun e w' => e = .returned (.bool true) ∧ w = w' := by
  go_enter Try.func42, Try.ntmps42
  go_wp2_with fail
  go_loop [5] (fun i => i = .int .i64 0) (fun _ => 0)
  case atStart => rfl
  case round =>
    obtain rfl := hrel
    go_wp2
    go_ret
    exact ⟨rfl, rfl⟩

theorem empty16 (a1 a2 : Option Addr) (c1 c2 : Nat) (w : World) : Calls Try.prog 43 #[.slice a1 0 c1, .slice a2 0 c2] w fun e w' => e = .returned (.bool true) ∧ w = w' := by
  go_enter Try.func43, Try.ntmps43
  go_wp2_with fail
  go_loop [5] (fun i => i = .int .i64 0) (fun _ => 0)
  case atStart => rfl
  case round =>
    obtain rfl := hrel
    go_wp2
    go_ret
    exact ⟨rfl, rfl⟩

theorem empty17 (a1 a2 : Option Addr) (c1 c2 : Nat) (w : World) : Calls Try.prog 44 #[.slice a1 0 c1, .slice a2 0 c2] w fun e w' => e = .returned (.bool true) ∧ w = w' := by
  go_enter Try.func44, Try.ntmps44
  go_wp2_with fail
  go_loop [5] (fun i => i = .int .i64 0) (fun _ => 0)
  case atStart => rfl
  case round =>
    obtain rfl := hrel
    go_wp2
    go_ret
    exact ⟨rfl, rfl⟩

theorem empty18 (a1 a2 : Option Addr) (c1 c2 : Nat) (w : World) : Calls Try.prog 45 #[.slice a1 0 c1, .slice a2 0 c2] w fun e w' => e = .returned (.bool true) ∧ w = w' := by
  go_enter Try.func45, Try.ntmps45
  go_wp2_with fail
  go_loop [5] (fun i => i = .int .i64 0) (fun _ => 0)
  case atStart => rfl
  case round =>
    obtain rfl := hrel
    go_wp2
    go_ret
    exact ⟨rfl, rfl⟩

theorem empty19 (a1 a2 : Option Addr) (c1 c2 : Nat) (w : World) : Calls Try.prog 46 #[.slice a1 0 c1, .slice a2 0 c2] w fun e w' => e = .returned (.bool true) ∧ w = w' := by
  go_enter Try.func46, Try.ntmps46
  go_wp2_with fail
  go_loop [5] (fun i => i = .int .i64 0) (fun _ => 0)
  case atStart => rfl
  case round =>
    obtain rfl := hrel
    go_wp2
    go_ret
    exact ⟨rfl, rfl⟩

theorem same_msgE (ty xid : Int) (va vb da db : Value) (l ds : List Int) (L K : Lens) (els : List Elt) (w : World) (hL : bareL L.noEl = true) (hK : bareL K.noEl = true) (g1 : RowsOf ItemR 2 w (.slice L.a4 L.n4 L.c4) els) (g2 : RowsOf ItemR 2 w (.slice K.a4 K.n4 K.c4) els) (h1 : Ints .u64 w va l) (h2 : Ints .u64 w vb l) (h3 : Ints .u8 w da ds) (h4 : Ints .u8 w db ds) :
    Calls Try.prog 15 #[.agg (msgL ty xid va da L), .agg (msgL ty xid vb db K)] w fun e w' => e = .returned (.bool true) ∧ Below w.heap.size w w' := by
  have HN := Lib.hid (nums_same ((h1.alloc (.cells (msgL ty xid va da L) 35)).alloc (.cells (msgL ty xid vb db K) 35)) ((h2.alloc (.cells (msgL ty xid va da L) 35)).alloc (.cells (msgL ty xid vb db K) 35)))
  have HD3 := Lib.hid ((h3.alloc (.cells (msgL ty xid va da L) 35)).alloc (.cells (msgL ty xid vb db K) 35))
  have HD4 := Lib.hid ((h4.alloc (.cells (msgL ty xid va da L) 35)).alloc (.cells (msgL ty xid vb db K) 35))
  have HBx : Hid (Below w.heap.size w ((w.alloc (.cells (msgL ty xid va da L) 35)).alloc (.cells (msgL ty xid vb db K) 35))) := ((Below.refl _ _).alloc (Nat.le_refl _) _).alloc (by simp) _
  have HH0 : Hid (((w.alloc (.cells (msgL ty xid va da L) 35)).alloc (.cells (msgL ty xid vb db K) 35)).heap[w.heap.size]? = some (.cells (msgL ty xid va da L) 35 (0, 0))) := ((below_alloc2 _).block _ (by simp)).trans (heap_alloc_new _ _)
  have HH1 : Hid (((w.alloc (.cells (msgL ty xid va da L) 35)).alloc (.cells (msgL ty xid vb db K) 35)).heap[w.heap.size + 1]? = some (.cells (msgL ty xid vb db K) 35 (0, 0))) := by
    have := heap_alloc_new (w.alloc (.cells (msgL ty xid va da L) 35)) (.cells (msgL ty xid vb db K) 35)
    rw [World.size_alloc] at this
    exact this
  have G1 := Lib.hid ((g1.below ItemR.lasts (below_alloc2 (.cells (msgL ty xid va da L) 35))).below ItemR.lasts (below_alloc2 (.cells (msgL ty xid vb db K) 35)))
  have G2 := Lib.hid ((g2.below ItemR.lasts (below_alloc2 (.cells (msgL ty xid va da L) 35))).below ItemR.lasts (below_alloc2 (.cells (msgL ty xid vb db K) 35)))
  obtain ⟨n4, n5, n6, n7, n8, n9, n10, n11, n14, nk, nf⟩ := bareL_nil hL
  obtain ⟨m4, m5, m6, m7, m8, m9, m10, m11, m14, mk, mf⟩ := bareL_nil hK
  obtain ⟨a4, ln4, c4, a5, ln5, c5, a6, ln6, c6, a7, ln7, c7, a8, ln8, c8, a9, ln9, c9, a10, ln10, c10, a11, ln11, c11, a14, ln14, c14, lk, lf⟩ := L
  obtain ⟨x4, kn4, y4, x5, kn5, y5, x6, kn6, y6, x7, kn7, y7, x8, kn8, y8, x9, kn9, y9, x10, kn10, y10, x11, kn11, y11, x14, kn14, y14, kk, kf⟩ := K
  dsimp only [Lens.noEl] at n4 m4 G1 G2 n5 m5 n6 m6 n7 m7 n8 m8 n9 m9 n10 m10 n11 m11 n14 m14 nk nf mk mf
  clear n4 m4
  subst n5 m5 n6 m6 n7 m7 n8 m8 n9 m9 n10 m10 n11 m11 n14 m14 nk nf mk mf
  clear hL hK g1 g2
  obtain ⟨aa, ca, ba, oa, rfl, -⟩ := h1.open
  obtain ⟨ab, cb, bb, ob, rfl, -⟩ := h2.open
  obtain ⟨ac, cc, bc, oc, rfl, -⟩ := h3.open
  obtain ⟨ad, cd, bd, od, rfl, -⟩ := h4.open
  clear h1 h2 h3 h4
  go_enter Try.func15, Try.ntmps15
  go_wp2_with fail
  (with_reducible refine HN.out.mono ?_)
  rintro e w2 ⟨rfl, hb⟩
  have HA2 := (hb.block w.heap.size (by simp; omega)).trans HH0.out
  have HB2 := (hb.block (w.heap.size + 1) (by simp)).trans HH1.out
  have c3 := cell_row HA2 3
  have e3 := cell_row HB2 3
  have G1 := Lib.hid (G1.out.below ItemR.lasts hb)
  have G2 := Lib.hid (G2.out.below ItemR.lasts hb)
  have HY := Lib.hid (bytes_same (HD3.out.below hb) (HD4.out.below hb))
  have hs2 : Hid (w.heap.size + 1 < w2.heap.size) := by have := hb.size; show _ < _; simp at this; omega
  have HBy := Lib.hid (HBx.out.trans (hb.mono HBx.out.size))
  have HA2 := Lib.hid HA2
  have HB2 := Lib.hid HB2
  clear hb
  go_wp2_with fail
  (with_reducible refine HY.out.mono ?_)
  rintro e w3 ⟨rfl, hb⟩
  have HA3 := (hb.block w.heap.size (by have := hs2.out; omega)).trans HA2.out
  have HB3 := (hb.block (w.heap.size + 1) hs2.out).trans HB2.out
  clear c3 e3
  have d4 := cell_row HA3 4
  have e4 := cell_row HB3 4
  have d5 := cell_row HA3 5
  have e5 := cell_row HB3 5
  have d6 := cell_row HA3 6
  have e6 := cell_row HB3 6
  have d7 := cell_row HA3 7
  have e7 := cell_row HB3 7
  have d8 := cell_row HA3 8
  have e8 := cell_row HB3 8
  have d9 := cell_row HA3 9
  have e9 := cell_row HB3 9
  have d10 := cell_row HA3 10
  have e10 := cell_row HB3 10
  have d11 := cell_row HA3 11
  have e11 := cell_row HB3 11
  have d14 := cell_row HA3 14
  have e14 := cell_row HB3 14
  have d12 := cell_row HA3 12
  have e12 := cell_row HB3 12
  have d13 := cell_row HA3 13
  have e13 := cell_row HB3 13
  have he := ref_elems (G1.out.below ItemR.lasts hb) (G2.out.below ItemR.lasts hb)
  rw [decide_eq_true (Eq.refl els)] at he
  have HEl := Lib.hid he
  clear he
  have HBz := Lib.hid (HBy.out.trans (hb.mono HBy.out.size))
  clear hb HA3 HB3
  go_wp2_with fail
  go_loop [5] (fun i => i = .int .i64 0) (fun _ => 0)
  case atStart => rfl
  case round =>
    obtain rfl := hrel
    go_wp2_with (first
      | (go_at_call 39; (with_reducible refine HEl.out.mono ?_); rintro e w4 ⟨rfl, q, rfl⟩)
      | (go_at_call 40; (with_reducible refine (empty09 _ _ _ _ _).mono ?_); rintro e w4 ⟨rfl, rfl⟩)
      | (go_at_call 41; (with_reducible refine (empty13 _ _ _ _ _).mono ?_); rintro e w4 ⟨rfl, rfl⟩)
      | (go_at_call 42; (with_reducible refine (empty15 _ _ _ _ _).mono ?_); rintro e w4 ⟨rfl, rfl⟩)
      | (go_at_call 43; (with_reducible refine (empty16 _ _ _ _ _).mono ?_); rintro e w4 ⟨rfl, rfl⟩)
      | (go_at_call 44; (with_reducible refine (empty17 _ _ _ _ _).mono ?_); rintro e w4 ⟨rfl, rfl⟩)
      | (go_at_call 45; (with_reducible refine (empty18 _ _ _ _ _).mono ?_); rintro e w4 ⟨rfl, rfl⟩)
      | (go_at_call 46; (with_reducible refine (empty19 _ _ _ _ _).mono ?_); rintro e w4 ⟨rfl, rfl⟩))
    go_ret
    exact ⟨rfl, below_drewN HBz.out _⟩
end Go.Proofs.Ytcebcncpbedkmaa
