/- The walks of fault.Codes, Pair and Make, and of refuse.For and Why, at fixed inputs. Conditions: none beyond each lemma's own. -/
import Derived.Test.YtfaklenclhljhaaHeadG
import Derived.Laws.CopyOwn
namespace Go.Proofs.Ytfaklenclhljhaa
open Go.RowKit
set_option maxRecDepth 100000
set_option maxHeartbeats 4000000

theorem codes1 (w : World) : Calls Try.prog 101 #[.int .i64 1] w fun e w' => e = .returned (.int .i64 14) ∧ w = w' := by
  go_enter Try.func101, Try.ntmps101
  go_wp2
  go_ret
  exact ⟨rfl, rfl⟩
theorem make11 (w : World) : Calls Try.prog 69 #[.int .i64 1, .int .i64 1] w fun e w' => e = .returned (.tuple #[.int .i64 258, .bool true]) ∧ w = w' := by
  go_enter Try.func69, Try.ntmps69
  go_wp2_with (go_at_call 101; (with_reducible refine (codes1 _).mono ?_); rintro e w1 ⟨rfl, rfl⟩)
  go_ret2
  exact ⟨rfl, rfl⟩
theorem pair258 (w : World) : Calls Try.prog 65 #[.int .i64 258] w fun e w' => e = .returned (.tuple #[.int .i64 1, .int .i64 1, .bool true]) ∧ w = w' := by
  go_enter Try.func65, Try.ntmps65
  go_wp2_with (go_at_call 101; (with_reducible refine (codes1 _).mono ?_); rintro e w1 ⟨rfl, rfl⟩)
  go_ret3
  exact ⟨rfl, rfl⟩

/-- A message of a type, a number, numbers and data; nothing else. -/
abbrev msgX (ty xid : Int) (vn vd : Value) : Array Value := #[.int .i64 ty, .int .u32 xid, vn, vd, nilV, nilV, nilV, nilV, nilV, nilV, nilV, nilV, .int .i64 0, .int .i64 0, nilV]

theorem for_b (va : Value) (w : World) (h : Ints .u8 w va [4, 1, 0, 8]) : Calls Try.prog 25 #[va, .int .i64 258] w fun e w' => e = .returned (.tuple #[.agg (msgX 0 0 nilV nilV), .bool false]) ∧ Below w.heap.size w w' := by
  obtain ⟨a, cap, b, off, rfl, -, -, -, ha, hc⟩ := h.open
  obtain rfl := ha (by decide)
  have hbl : b < w.heap.size := World.block_lt_of_cell? _ _ (hc 0 (by decide))
  have HBx : Hid (Below w.heap.size w (w.alloc (.cells (msgX 0 0 nilV nilV) 35))) := below_alloc2 _
  have d1 : (w.alloc (.cells (msgX 0 0 nilV nilV) 35)).cell? ⟨b, off + 1, none⟩ = some (.int .u8 1) := (HBx.out.cell (p := ⟨b, off + 1, none⟩) hbl).trans (hc 1 (by decide))
  have HH : Hid ((w.alloc (.cells (msgX 0 0 nilV nilV) 35)).heap[w.heap.size]? = some (.cells (msgX 0 0 nilV nilV) 35 (0, 0))) := heap_alloc_new _ _
  show Calls Try.prog 25 #[.slice (some ⟨b, off, none⟩) 4 cap, .int .i64 258] w _
  clear h ha hc
  go_enter Try.func25, Try.ntmps25
  go_wp2_with (first
    | (go_at_call 65; (with_reducible refine (pair258 _).mono ?_); rintro e w1 ⟨rfl, rfl⟩)
    | (refine wpList_store_rowTo rfl 35 _ _ rfl rfl w.heap.size (msgX 0 0 nilV nilV) rfl rfl _ _ HH.out (by kernel_rfl) (by kernel_rfl) (by kernel_rfl) ?_; have hheap := setRow_heap _ w.heap.size _ (msgX 0 0 nilV nilV) _ _ HH.out; have HB9 := Lib.hid (below_setRow HBx.out (Nat.le_refl _) (msgX 0 0 nilV nilV))))
  refine bodyPost_ret (results_row_tmp rfl _ _ w.heap.size _ _ _ _ rfl hheap Try.underlying35 rfl (by kernel_rfl)) rfl ?_
  exact ⟨rfl, HB9.out⟩

theorem src8 {w w4 : World} {b off : Nat} (hc : ∀ i, i < ([4, 99, 0, 8, 0, 0, 0, 5] : List Int).length → w.cell? ⟨b, off + i, none⟩ = some (.int .u8 (([4, 99, 0, 8, 0, 0, 0, 5] : List Int).getD i 0))) (hbl : b < w.heap.size) (hb : Below w.heap.size w w4) :
    ∀ j v, (([4, 99, 0, 8, 0, 0, 0, 5] : List Int).map (Value.int .u8))[j]? = some v → w4.cell? ((⟨b, off, none⟩ : Addr).add j) = some v := fun j v hv => by
  have hj := (List.getElem?_eq_some_iff.1 hv).1
  rw [List.length_map] at hj
  rw [add_at, (hb.cell (p := ⟨b, off + j, none⟩) hbl).trans (hc j hj)]
  obtain ⟨z, hz, rfl⟩ : ∃ z, ([4, 99, 0, 8, 0, 0, 0, 5] : List Int)[j]? = some z ∧ Value.int .u8 z = v := by rw [List.getElem?_map] at hv; simpa using hv
  rw [List.getD_eq_getElem?_getD, hz]
  rfl
theorem made8 {w : World} {B g : Nat} (h : w.ownsRow B 5 1 (.slice (some ⟨g, 0, none⟩) 8 8) 8 (List.replicate 8 (.int .u8 0))) : ∃ cur : Array Value, w.heap[g]? = some (.cells cur 5 (0, 0)) ∧ cur.size = 8 := by
  obtain ⟨hl, ⟨h, h0⟩ | ⟨gx, capx, cur, hv, h1, h2, h3, h4, h5, h6⟩⟩ := h
  · cases h0
  · injection hv with e1 e2 e3
    injection e1 with e1
    injection e1 with e1 _ _
    subst e1
    subst e3
    exact ⟨cur, h2, by omega⟩

theorem for_a (va : Value) (w : World) (h : Ints .u8 w va [4, 99, 0, 8, 0, 0, 0, 5]) : Calls Try.prog 25 #[va, .int .i64 258] w fun e w' => ∃ vn vd, e = .returned (.tuple #[.agg (msgX 1 5 vn vd), .bool true]) ∧ Ints .u64 w' vn [1, 1] ∧ Ints .u8 w' vd [4, 99, 0, 8, 0, 0, 0, 5] ∧ Below w.heap.size w w' := by
  have HBx : Hid (Below w.heap.size w (w.alloc (.cells (msgX 0 0 nilV nilV) 35))) := below_alloc2 _
  have HX := Lib.hid (h.below HBx.out)
  have HG : Hid (Calls Try.prog 66 #[va] (w.alloc (.cells (msgX 0 0 nilV nilV) 35)) fun e w' => e = .returned (.tuple #[.agg #[.int .i64 4, .int .i64 99, .int .i64 8, .int .u32 5], .int .i64 0]) ∧ Below (w.alloc (.cells (msgX 0 0 nilV nilV) 35)).heap.size (w.alloc (.cells (msgX 0 0 nilV nilV) 35)) w') := by
    have := head_get HX.out (by decide)
    rw [show hdOf [4, 99, 0, 8, 0, 0, 0, 5] = (⟨4, 99, 8, 5⟩, 0) by rfl] at this
    exact this
  obtain ⟨a, cap, b, off, rfl, -, -, -, ha, hc⟩ := h.open
  obtain rfl := ha (by decide)
  have hbl : b < w.heap.size := World.block_lt_of_cell? _ _ (hc 0 (by decide))
  have d1 : (w.alloc (.cells (msgX 0 0 nilV nilV) 35)).cell? ⟨b, off + 1, none⟩ = some (.int .u8 99) := (HBx.out.cell (p := ⟨b, off + 1, none⟩) hbl).trans (hc 1 (by decide))
  have HC := Lib.hid hc
  have HG : Hid (Calls Try.prog 66 #[.slice (some ⟨b, off, none⟩) 8 cap] (w.alloc (.cells (msgX 0 0 nilV nilV) 35)) fun e w' => e = .returned (.tuple #[.agg #[.int .i64 4, .int .i64 99, .int .i64 8, .int .u32 5], .int .i64 0]) ∧ Below (w.alloc (.cells (msgX 0 0 nilV nilV) 35)).heap.size (w.alloc (.cells (msgX 0 0 nilV nilV) 35)) w') := HG.out
  show Calls Try.prog 25 #[.slice (some ⟨b, off, none⟩) 8 cap, .int .i64 258] w _
  clear h ha hc
  go_enter Try.func25, Try.ntmps25
  go_wp2_with (first
    | (go_at_call 65; (with_reducible refine (pair258 _).mono ?_); rintro e w1 ⟨rfl, rfl⟩)
    | (go_at_call 66; (with_reducible refine HG.out.mono ?_); rintro e w2 ⟨rfl, hb⟩; have HB2 := Lib.hid hb; clear hb)
    | (refine wpList_store_rowTo rfl 105 _ _ rfl rfl w2.heap.size #[.int .i64 4, .int .i64 99, .int .i64 8, .int .u32 5] rfl rfl _ _ (heap_alloc_new _ _) (by kernel_rfl) (by kernel_rfl) (by kernel_rfl) ?_; rw [alloc_setRow]; have HB3 := Lib.hid (HB2.out.alloc HB2.out.size (.cells #[.int .i64 4, .int .i64 99, .int .i64 8, .int .u32 5] 105)); have HHh := Lib.hid (heap_alloc_new w2 (.cells #[.int .i64 4, .int .i64 99, .int .i64 8, .int .u32 5] 105)); have hs23 : Hid (w2.heap.size < (w2.alloc (.cells #[.int .i64 4, .int .i64 99, .int .i64 8, .int .u32 5] 105)).heap.size) := (by show _ < _; simp); generalize w2.alloc (.cells #[.int .i64 4, .int .i64 99, .int .i64 8, .int .u32 5] 105) = w3 at HB3 HHh hs23 ⊢)
    | (at_make; refine wpList_makeN rfl _ _ _ rfl w3.heap.size 5 (.int .u8 0) 1 Try.underlying24 info_u8 rfl .i64 .i64 _ _ 8 rfl rfl rfl rfl (by omega) (by unfold maxLen; omega) (Nat.le_refl _) ?_; intro w4 hown hb4; obtain ⟨cur, hcur, hsz⟩ := made8 hown; have HB4 := Lib.hid (HB3.out.trans (hb4.mono HB3.out.size)); have HHh4 := Lib.hid ((hb4.block w2.heap.size hs23.out).trans HHh.out); have HCur := Lib.hid hcur; clear hown hb4 hcur)
    | (refine wpList_copy_own rfl (.tmp 41) (.tmp 42) 24 24 rfl 5 Try.underlying24 (by kernel_rfl) w3.heap.size 0 8 8 ⟨b, off, none⟩ 8 cap rfl rfl cur 5 HCur.out (([4, 99, 0, 8, 0, 0, 0, 5] : List Int).map (Value.int .u8)) rfl (src8 HC.out hbl (below1 HB4.out)) (by simp; omega) (ints_one _ _) ?_; rw [show cur.toList.take 0 ++ (([4, 99, 0, 8, 0, 0, 0, 5] : List Int).map (Value.int .u8) ++ cur.toList.drop (0 + (([4, 99, 0, 8, 0, 0, 0, 5] : List Int).map (Value.int .u8)).length)) = ([4, 99, 0, 8, 0, 0, 0, 5] : List Int).map (Value.int .u8) by rw [List.drop_of_length_le (by simp; omega)]; simp]; have HHg5 := Lib.hid (setRow_heap w4 w3.heap.size cur (([4, 99, 0, 8, 0, 0, 0, 5] : List Int).map (Value.int .u8)).toArray _ _ HCur.out); have hx5 := cell_heap ((setRow_other w4 w3.heap.size w2.heap.size (([4, 99, 0, 8, 0, 0, 0, 5] : List Int).map (Value.int .u8)).toArray (by have := hs23.out; omega)).trans HHh4.out) 3; have HB5 := Lib.hid (below_setRow HB4.out (by have := HB3.out.size; exact this) (([4, 99, 0, 8, 0, 0, 0, 5] : List Int).map (Value.int .u8)).toArray); generalize w4.setRow w3.heap.size (([4, 99, 0, 8, 0, 0, 0, 5] : List Int).map (Value.int .u8)).toArray = w5 at HHg5 hx5 HB5 ⊢; have HB6 := Lib.hid (HB5.out.alloc HB5.out.size (.cells #[.int .u64 1, .int .u64 1] 76)); have HH6 := Lib.hid ((HB6.out.block w.heap.size (by simp)).trans (heap_alloc_new _ _)))
    | (refine wpList_store_rowTo rfl 35 _ _ rfl rfl w.heap.size (msgX 1 5 (.slice (some ⟨w5.heap.size, 0, none⟩) 2 2) (.slice (some ⟨w3.heap.size, 0, none⟩) 8 8)) rfl rfl _ _ HH6.out (by kernel_rfl) (by kernel_rfl) (by kernel_rfl) ?_; have hheap := setRow_heap _ w.heap.size _ (msgX 1 5 (.slice (some ⟨w5.heap.size, 0, none⟩) 2 2) (.slice (some ⟨w3.heap.size, 0, none⟩) 8 8)) _ _ HH6.out; have HB9 := Lib.hid (below_setRow (below1 HB6.out) (Nat.le_refl _) (msgX 1 5 (.slice (some ⟨w5.heap.size, 0, none⟩) 2 2) (.slice (some ⟨w3.heap.size, 0, none⟩) 8 8)))))
  refine bodyPost_ret (results_row_tmp rfl _ _ w.heap.size _ _ _ _ rfl hheap Try.underlying35 rfl (by kernel_rfl)) rfl ?_
  have hs3 : w.heap.size < w3.heap.size := by have := HB3.out.size; simp at this; omega
  have hs5 : w.heap.size < w5.heap.size := by have := HB5.out.size; simp at this; omega
  have hrow : w5.ownsRow 0 5 1 (.slice (some ⟨w3.heap.size, 0, none⟩) 8 8) 8 (([4, 99, 0, 8, 0, 0, 0, 5] : List Int).map (Value.int .u8)) := ⟨rfl, .inr ⟨_, _, _, rfl, Nat.zero_le _, HHg5.out, Nat.le_refl _, by unfold maxLen; omega, rfl, rfl⟩⟩
  refine ⟨_, _, rfl, ints_setRow (Ints.lit .u64 w5 76 [1, 1] _ rfl (by decide) (by decide)) (fun k e => ?_) _, ints_setRow ((Ints.of_own hrow (by decide)).alloc _) (fun k e => ?_) _, HB9.out⟩
  · have e' : w5.heap.size = k := by injection e
    omega
  · have e' : w3.heap.size = k := by injection e
    omega

theorem why_fixed (vn vd : Value) (w : World) (h : Ints .u64 w vn [1, 1]) (hd : ∃ a n c, vd = .slice a n c) : Calls Try.prog 27 #[.agg (msgX 1 5 vn vd)] w fun e w' => e = .returned (.tuple #[.int .i64 258, .bool true]) ∧ Below w.heap.size w w' := by
  obtain ⟨ad, nd, cd, rfl⟩ := hd
  have HBx : Hid (Below w.heap.size w (w.alloc (.cells (msgX 1 5 vn (.slice ad nd cd)) 35))) := below_alloc2 _
  obtain ⟨a, cap, b, off, rfl, -, -, -, ha, hc⟩ := h.open
  obtain rfl := ha (by decide)
  have hbl : b < w.heap.size := World.block_lt_of_cell? _ _ (hc 0 (by decide))
  have d0 : (w.alloc (.cells (msgX 1 5 (.slice (some ⟨b, off, none⟩) 2 cap) (.slice ad nd cd)) 35)).cell? ⟨b, off, none⟩ = some (.int .u64 1) := (HBx.out.cell (p := ⟨b, off, none⟩) hbl).trans (hc 0 (by decide))
  have d1 : (w.alloc (.cells (msgX 1 5 (.slice (some ⟨b, off, none⟩) 2 cap) (.slice ad nd cd)) 35)).cell? ⟨b, off + 1, none⟩ = some (.int .u64 1) := (HBx.out.cell (p := ⟨b, off + 1, none⟩) hbl).trans (hc 1 (by decide))
  have HBx : Hid (Below w.heap.size w (w.alloc (.cells (msgX 1 5 (.slice (some ⟨b, off, none⟩) 2 cap) (.slice ad nd cd)) 35))) := HBx.out
  have HHm := heap_alloc_new w (.cells (msgX 1 5 (.slice (some ⟨b, off, none⟩) 2 cap) (.slice ad nd cd)) 35)
  have c0 := cell_heap HHm 0
  have c2 := cell_heap HHm 2
  show Calls Try.prog 27 #[.agg (msgX 1 5 (.slice (some ⟨b, off, none⟩) 2 cap) (.slice ad nd cd))] w _
  clear h ha hc HHm
  go_enter Try.func27, Try.ntmps27
  go_wp2_with go_quiet (fail)
  rename Nat => nq
  have k2 : ((w.alloc (.cells (msgX 1 5 (.slice (some ⟨b, off, none⟩) 2 cap) (.slice ad nd cd)) 35)).drewN nq).cell? ⟨w.heap.size, 2, none⟩ = some (.slice (some ⟨b, off, none⟩) 2 cap) := c2
  have k0 : ((w.alloc (.cells (msgX 1 5 (.slice (some ⟨b, off, none⟩) 2 cap) (.slice ad nd cd)) 35)).drewN nq).cell? ⟨b, off, none⟩ = some (.int .u64 1) := d0
  have k1 : ((w.alloc (.cells (msgX 1 5 (.slice (some ⟨b, off, none⟩) 2 cap) (.slice ad nd cd)) 35)).drewN nq).cell? ⟨b, off + 1, none⟩ = some (.int .u64 1) := d1
  have HB9 : Hid (Below w.heap.size w ((w.alloc (.cells (msgX 1 5 (.slice (some ⟨b, off, none⟩) 2 cap) (.slice ad nd cd)) 35)).drewN nq)) := below_drewN HBx.out nq
  clear c0 c2 d0 d1
  generalize (w.alloc (.cells (msgX 1 5 (.slice (some ⟨b, off, none⟩) 2 cap) (.slice ad nd cd)) 35)).drewN nq = w9 at k2 k0 k1 HB9 ⊢
  go_wp2_with go_quiet ((go_at_call 69; exact quiet_eq (make11 _)))
  go_ret2
  exact ⟨rfl, below_drewN HB9.out _⟩
end Go.Proofs.Ytfaklenclhljhaa
