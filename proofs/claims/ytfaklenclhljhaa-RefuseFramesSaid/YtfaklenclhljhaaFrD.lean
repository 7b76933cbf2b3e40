/- The walk of refuse.For, of any frame and any error. Conditions: the frame is not too long. -/
import Derived.Test.YtfaklenclhljhaaFrC
namespace Go.Proofs.Ytfaklenclhljhaa
open Go.RowKit
set_option maxRecDepth 100000
set_option maxHeartbeats 4000000

/-- Whether a frame is refused by a message. -/
def forB (bs : List Int) (e : Int) : Bool := (pairS e).2 && !(decide (1 < bs.length) && (bs.getD 1 0 == 1))

theorem madeN {w : World} {B g m : Nat} (h : w.ownsRow B 5 1 (.slice (some ⟨g, 0, none⟩) m m) m (List.replicate m (.int .u8 0))) : ∃ cur : List Value, w.heap[g]? = some (.cells cur.toArray 5 (0, 0)) ∧ cur.length = m := by
  obtain ⟨hl, ⟨h, h0⟩ | ⟨gx, capx, cur, hv, h1, h2, h3, h4, h5, h6⟩⟩ := h
  · cases h
  · injection hv with e1 e2 e3
    injection e1 with e1
    injection e1 with e1 _ _
    subst e1
    subst e3
    exact ⟨cur.toList, h2, by simpa using (by omega : cur.size = m)⟩

theorem src_at {w w4 : World} {b off m : Nat} {bs : List Int} (hc : ∀ i, i < bs.length → w.cell? ⟨b, off + i, none⟩ = some (.int .u8 (bs.getD i 0))) (hb : Below w.heap.size w w4) :
    ∀ j v, ((bs.take m).map (Value.int .u8))[j]? = some v → w4.cell? ((⟨b, off, none⟩ : Addr).add j) = some v := fun j v hv => by
  have hj := (List.getElem?_eq_some_iff.1 hv).1
  rw [List.length_map, List.length_take] at hj
  have hj2 : j < bs.length := by omega
  have hjm : j < m := by omega
  have hbl : b < w.heap.size := World.block_lt_of_cell? _ _ (hc j hj2)
  rw [add_at, (hb.cell (p := ⟨b, off + j, none⟩) hbl).trans (hc j hj2)]
  rw [List.getElem?_map, List.getElem?_take, if_pos hjm, List.getElem?_eq_getElem hj2] at hv
  rw [List.getD_eq_getElem?_getD, List.getElem?_eq_getElem hj2]
  simpa using hv

theorem splice_all {xs ys : List Value} (h : xs.length = ys.length) : splice xs 0 ys = ys := by
  simp [splice, h]

theorem for_go_n1 (va : Value) (bs : List Int) (e : Int) (w : World) (h : Ints .u8 w va bs) (hl : bs.length ≤ 3000) (he : (Lit.int .i64 e).wf = true) (h0 : (pairS e).2 = false) :
    Calls Try.prog 25 #[va, .int .i64 e] w fun r w' => r = .returned (.tuple #[.agg (msgX 0 0 nilV nilV), .bool false]) ∧ Below w.heap.size w w' := by
  have _ := hl
  have HP := fun w => Lib.hid (go_pair e w he)
  rw [h0] at HP
  have HBx : Hid (Below w.heap.size w (w.alloc (.cells (msgX 0 0 nilV nilV) 35))) := below_alloc2 _
  have HH : Hid ((w.alloc (.cells (msgX 0 0 nilV nilV) 35)).heap[w.heap.size]? = some (.cells (msgX 0 0 nilV nilV) 35 (0, 0))) := heap_alloc_new _ _
  obtain ⟨a, cap, b, off, rfl, -, -, -, -, -⟩ := h.open
  clear h h0
  go_enter Try.func25, Try.ntmps25
  go_wp2_with (first
    | (go_at_call 65; (with_reducible refine (HP _).out.mono ?_); rintro e1 w1 ⟨rfl, rfl⟩)
    | (refine wpList_store_rowTo rfl 35 _ _ rfl rfl w.heap.size (msgX 0 0 nilV nilV) rfl rfl _ _ HH.out (by kernel_rfl) (by kernel_rfl) (by kernel_rfl) ?_; have hheap := setRow_heap _ w.heap.size _ (msgX 0 0 nilV nilV) _ _ HH.out; have HB9 := Lib.hid (below_setRow HBx.out (Nat.le_refl _) (msgX 0 0 nilV nilV))))
  refine bodyPost_ret (results_row_tmp rfl _ _ w.heap.size _ _ _ _ rfl hheap Try.underlying35 rfl (by kernel_rfl)) rfl ?_
  exact ⟨rfl, HB9.out⟩

theorem for_go_n2 (va : Value) (bs : List Int) (e : Int) (w : World) (h : Ints .u8 w va bs) (hl : bs.length ≤ 3000) (he : (Lit.int .i64 e).wf = true) (h0 : (pairS e).2 = true) (h1 : 1 < bs.length) (h2 : bs.getD 1 0 = 1) :
    Calls Try.prog 25 #[va, .int .i64 e] w fun r w' => r = .returned (.tuple #[.agg (msgX 0 0 nilV nilV), .bool false]) ∧ Below w.heap.size w w' := by
  have _ := hl
  have HP := fun w => Lib.hid (go_pair e w he)
  rw [h0] at HP
  have HBx : Hid (Below w.heap.size w (w.alloc (.cells (msgX 0 0 nilV nilV) 35))) := below_alloc2 _
  have HH : Hid ((w.alloc (.cells (msgX 0 0 nilV nilV) 35)).heap[w.heap.size]? = some (.cells (msgX 0 0 nilV nilV) 35 (0, 0))) := heap_alloc_new _ _
  obtain ⟨a, cap, b, off, rfl, -, -, -, ha, hc⟩ := h.open
  obtain rfl := ha (by omega)
  have hbl : b < w.heap.size := World.block_lt_of_cell? _ _ (hc 1 h1)
  have d1 : (w.alloc (.cells (msgX 0 0 nilV nilV) 35)).cell? ⟨b, off + 1, none⟩ = some (.int .u8 1) := h2 ▸ (HBx.out.cell (p := ⟨b, off + 1, none⟩) hbl).trans (hc 1 h1)
  have hlt' : (1 : Int) < bs.length := by omega
  clear h h0 ha hc h2
  go_enter Try.func25, Try.ntmps25
  go_wp2_with (first
    | (go_at_call 65; (with_reducible refine (HP _).out.mono ?_); rintro e1 w1 ⟨rfl, rfl⟩)
    | (refine wpList_store_rowTo rfl 35 _ _ rfl rfl w.heap.size (msgX 0 0 nilV nilV) rfl rfl _ _ HH.out (by kernel_rfl) (by kernel_rfl) (by kernel_rfl) ?_; have hheap := setRow_heap _ w.heap.size _ (msgX 0 0 nilV nilV) _ _ HH.out; have HB9 := Lib.hid (below_setRow HBx.out (Nat.le_refl _) (msgX 0 0 nilV nilV))))
  refine bodyPost_ret (results_row_tmp rfl _ _ w.heap.size _ _ _ _ rfl hheap Try.underlying35 rfl (by kernel_rfl)) rfl ?_
  exact ⟨rfl, HB9.out⟩

theorem for_go_no (va : Value) (bs : List Int) (e : Int) (w : World) (h : Ints .u8 w va bs) (hl : bs.length ≤ 3000) (he : (Lit.int .i64 e).wf = true) (hno : forB bs e = false) :
    Calls Try.prog 25 #[va, .int .i64 e] w fun r w' => r = .returned (.tuple #[.agg (msgX 0 0 nilV nilV), .bool false]) ∧ Below w.heap.size w w' := by
  cases h0 : (pairS e).2
  · exact for_go_n1 va bs e w h hl he h0
  · rw [forB, h0] at hno
    simp at hno
    exact for_go_n2 va bs e w h hl he h0 hno.1 (by simpa using hno.2)

theorem wrap_u64 {n : Int} (h1 : 0 ≤ n) (h2 : n < 18446744073709551616) : IntKind.wrap .u64 n = n := by
  simp [IntKind.wrap, IntKind.signed, IntKind.bits]; omega

theorem for_go_y1s (va : Value) (bs : List Int) (e : Int) (w : World) (h : Ints .u8 w va bs) (hl : bs.length ≤ 3000) (he : (Lit.int .i64 e).wf = true) (h0 : (pairS e).2 = true) (h1 : ¬ 1 < bs.length) (hs : ¬ 64 < bs.length) :
    Calls Try.prog 25 #[va, .int .i64 e] w fun r w' => ∃ vn vd, r = .returned (.tuple #[.agg (msgX 1 (hdOf bs).1.x vn vd), .bool true]) ∧ Ints .u64 w' vn [(pairS e).1.1, (pairS e).1.2] ∧ Ints .u8 w' vd (bs.take 64) ∧ Below w.heap.size w w' := by
  have HP := fun w => Lib.hid (go_pair e w he)
  have hbd := pairS_bd h0
  rw [h0] at HP
  generalize (pairS e).1.1 = t at HP hbd ⊢
  generalize (pairS e).1.2 = c at HP hbd ⊢
  obtain ⟨t1, t2, c1, c2⟩ := hbd
  have x1 : IntKind.wrap .u64 t = t := wrap_u64 (by omega) (by omega)
  have x2 : IntKind.wrap .u64 c = c := wrap_u64 (by omega) (by omega)
  have HBx : Hid (Below w.heap.size w (w.alloc (.cells (msgX 0 0 nilV nilV) 35))) := below_alloc2 _
  have HX := Lib.hid (h.below HBx.out)
  have HG : Hid (Calls Try.prog 66 #[va] (w.alloc (.cells (msgX 0 0 nilV nilV) 35)) fun e w' => e = .returned (.tuple #[(hdOf bs).1.val, .int .i64 (hdOf bs).2]) ∧ Below (w.alloc (.cells (msgX 0 0 nilV nilV) 35)).heap.size (w.alloc (.cells (msgX 0 0 nilV nilV) 35)) w') := head_get HX.out (by omega)
  generalize (hdOf bs).2 = er at HG
  generalize (hdOf bs).1 = H at HG ⊢
  obtain ⟨y1, y2, y3, x⟩ := H
  have hm2 : bs.length = min bs.length 64 := by omega
  have hm3 : bs.take 64 = bs.take (bs.length) := by rw [List.take_of_length_le (show bs.length ≤ 64 by omega), List.take_of_length_le (Nat.le_refl _)]
  have hml : (bs.take (bs.length)).length = bs.length := by rw [List.length_take]; omega
  rw [hm3]
  have hu := h.u8
  have huT : U8 (bs.take (bs.length)) := fun z hz => hu z (List.mem_of_mem_take hz)
  obtain ⟨a, cap, b, off, rfl, -, -, -, ha, hc⟩ := h.open
  have hlt' : ¬ (1 : Int) < bs.length := by omega
  have _ := hs
  have hs64 : ¬ (64 : Int) < bs.length := by omega
  have HC := Lib.hid hc
  have HA := Lib.hid ha
  have HG : Hid (Calls Try.prog 66 #[.slice a bs.length cap] (w.alloc (.cells (msgX 0 0 nilV nilV) 35)) fun e w' => e = .returned (.tuple #[.agg #[.int .i64 y1, .int .i64 y2, .int .i64 y3, .int .u32 x], .int .i64 er]) ∧ Below (w.alloc (.cells (msgX 0 0 nilV nilV) 35)).heap.size (w.alloc (.cells (msgX 0 0 nilV nilV) 35)) w') := HG.out
  replace hm2 := Lib.hid hm2
  replace hm3 := Lib.hid hm3
  replace hml := Lib.hid hml
  replace huT := Lib.hid huT
  clear h ha hc h0 hu
  go_enter Try.func25, Try.ntmps25
  go_wp2_with (first
    | (go_at_call 65; (with_reducible refine (HP _).out.mono ?_); rintro e1 w1 ⟨rfl, rfl⟩)
    | (go_at_call 66; (with_reducible refine HG.out.mono ?_); rintro e1 w2 ⟨rfl, hb⟩; have HB2 := Lib.hid hb; clear hb)
    | (refine wpList_store_rowTo rfl 105 _ _ rfl rfl w2.heap.size #[.int .i64 y1, .int .i64 y2, .int .i64 y3, .int .u32 x] rfl rfl _ _ (heap_alloc_new _ _) (by kernel_rfl) (by kernel_rfl) (by kernel_rfl) ?_; rw [alloc_setRow]; have HB3 := Lib.hid (HB2.out.alloc HB2.out.size (.cells #[.int .i64 y1, .int .i64 y2, .int .i64 y3, .int .u32 x] 105)); have HHh := Lib.hid (heap_alloc_new w2 (.cells #[.int .i64 y1, .int .i64 y2, .int .i64 y3, .int .u32 x] 105)); have hs23 : Hid (w2.heap.size < (w2.alloc (.cells #[.int .i64 y1, .int .i64 y2, .int .i64 y3, .int .u32 x] 105)).heap.size) := (by show _ < _; simp); generalize w2.alloc (.cells #[.int .i64 y1, .int .i64 y2, .int .i64 y3, .int .u32 x] 105) = w3 at HB3 HHh hs23 ⊢)
    | (at_make; refine wpList_makeN rfl _ _ _ rfl w3.heap.size 5 (.int .u8 0) 1 Try.underlying24 info_u8 rfl .i64 .i64 _ _ (bs.length) rfl rfl rfl rfl (by omega) (by unfold maxLen; have := hm2.out; omega) (Nat.le_refl _) ?_; intro w4 hown hb4; obtain ⟨cur, hcur, hsz⟩ := madeN hown; have HB4 := Lib.hid (HB3.out.trans (hb4.mono HB3.out.size)); have HHh4 := Lib.hid ((hb4.block w2.heap.size hs23.out).trans HHh.out); have HCur := Lib.hid hcur; have HSz := Lib.hid hsz; clear hown hb4 hcur hsz)
    | (refine wpList_copy_splice rfl (.tmp 41) (.tmp 42) 24 24 rfl 5 Try.underlying24 (by kernel_rfl) (some ⟨w3.heap.size, 0, none⟩) a (bs.length) (bs.length) bs.length cap rfl rfl w3.heap.size 0 cur 5 HCur.out ((bs.take (bs.length)).map (Value.int .u8)) (by rw [List.length_map, hml.out]; show bs.length = min _ _; have := hm2.out; omega) (fun hp => ⟨rfl, _, HA.out (by rw [List.length_map, List.length_take] at hp; omega), src_at HC.out (below1 HB4.out)⟩) (by rw [List.length_map, hml.out, HSz.out]; omega) (ints_one _ _) w3.heap.size w4 (Below.refl _ _) (Nat.le_refl _) ?_; intro w5 HHg5 hb5; rw [splice_all (by rw [List.length_map, hml.out, HSz.out])] at HHg5; have hx5 := cell_heap ((hb5.block w2.heap.size hs23.out).trans HHh4.out) 3; have HB5 := Lib.hid (HB4.out.trans (hb5.mono HB3.out.size)); clear hb5; have HB6 := Lib.hid (HB5.out.alloc HB5.out.size (.cells #[.int .u64 t, .int .u64 c] 76)); have HH6 := Lib.hid ((HB6.out.block w.heap.size (by simp)).trans (heap_alloc_new _ _)))
    | (refine wpList_store_rowTo rfl 35 _ _ rfl rfl w.heap.size (msgX 1 x (.slice (some ⟨w5.heap.size, 0, none⟩) 2 2) (.slice (some ⟨w3.heap.size, 0, none⟩) (bs.length) (bs.length))) rfl rfl _ _ HH6.out (by kernel_rfl) (by kernel_rfl) (by kernel_rfl) ?_; have hheap := setRow_heap _ w.heap.size _ (msgX 1 x (.slice (some ⟨w5.heap.size, 0, none⟩) 2 2) (.slice (some ⟨w3.heap.size, 0, none⟩) (bs.length) (bs.length))) _ _ HH6.out; have HB9 := Lib.hid (below_setRow (below1 HB6.out) (Nat.le_refl _) (msgX 1 x (.slice (some ⟨w5.heap.size, 0, none⟩) 2 2) (.slice (some ⟨w3.heap.size, 0, none⟩) (bs.length) (bs.length))))))
  refine bodyPost_ret (results_row_tmp rfl _ _ w.heap.size _ _ _ _ rfl hheap Try.underlying35 rfl (by kernel_rfl)) rfl ?_
  have hs3 : w.heap.size < w3.heap.size := by have := HB3.out.size; simp at this; omega
  have hs5 : w.heap.size < w5.heap.size := by have := HB5.out.size; simp at this; omega
  have hrow : w5.ownsRow 0 5 1 (.slice (some ⟨w3.heap.size, 0, none⟩) (bs.length) (bs.length)) (bs.length) ((bs.take (bs.length)).map (Value.int .u8)) := ⟨by rw [List.length_map, hml.out]; try omega, .inr ⟨_, _, _, rfl, Nat.zero_le _, HHg5.out, Nat.le_refl _, by unfold maxLen; have := hm2.out; omega, by rw [List.size_toArray, List.length_map, hml.out]; try omega, by rw [List.take_of_length_le (by rw [List.length_map, hml.out]; try omega)]⟩⟩
  have huv : U64 [t, c] := fun z hz => by simp at hz; omega
  refine ⟨_, _, rfl, ints_setRow (Ints.lit .u64 w5 76 [t, c] _ rfl (by simp) huv.wf) (fun k e => ?_) _, ints_setRow ((Ints.of_own hrow huT.out.wf).alloc _) (fun k e => ?_) _, HB9.out⟩
  · have e' : w5.heap.size = k := by injection e
    omega
  · have e' : w3.heap.size = k := by injection e
    omega

theorem for_go_y2s (va : Value) (bs : List Int) (e : Int) (w : World) (h : Ints .u8 w va bs) (hl : bs.length ≤ 3000) (he : (Lit.int .i64 e).wf = true) (h0 : (pairS e).2 = true) (h1 : 1 < bs.length) (h2 : bs.getD 1 0 ≠ 1) (hs : ¬ 64 < bs.length) :
    Calls Try.prog 25 #[va, .int .i64 e] w fun r w' => ∃ vn vd, r = .returned (.tuple #[.agg (msgX 1 (hdOf bs).1.x vn vd), .bool true]) ∧ Ints .u64 w' vn [(pairS e).1.1, (pairS e).1.2] ∧ Ints .u8 w' vd (bs.take 64) ∧ Below w.heap.size w w' := by
  have HP := fun w => Lib.hid (go_pair e w he)
  have hbd := pairS_bd h0
  rw [h0] at HP
  generalize (pairS e).1.1 = t at HP hbd ⊢
  generalize (pairS e).1.2 = c at HP hbd ⊢
  obtain ⟨t1, t2, c1, c2⟩ := hbd
  have x1 : IntKind.wrap .u64 t = t := wrap_u64 (by omega) (by omega)
  have x2 : IntKind.wrap .u64 c = c := wrap_u64 (by omega) (by omega)
  have HBx : Hid (Below w.heap.size w (w.alloc (.cells (msgX 0 0 nilV nilV) 35))) := below_alloc2 _
  have HX := Lib.hid (h.below HBx.out)
  have HG : Hid (Calls Try.prog 66 #[va] (w.alloc (.cells (msgX 0 0 nilV nilV) 35)) fun e w' => e = .returned (.tuple #[(hdOf bs).1.val, .int .i64 (hdOf bs).2]) ∧ Below (w.alloc (.cells (msgX 0 0 nilV nilV) 35)).heap.size (w.alloc (.cells (msgX 0 0 nilV nilV) 35)) w') := head_get HX.out (by omega)
  generalize (hdOf bs).2 = er at HG
  generalize (hdOf bs).1 = H at HG ⊢
  obtain ⟨y1, y2, y3, x⟩ := H
  have hm2 : bs.length = min bs.length 64 := by omega
  have hm3 : bs.take 64 = bs.take (bs.length) := by rw [List.take_of_length_le (show bs.length ≤ 64 by omega), List.take_of_length_le (Nat.le_refl _)]
  have hml : (bs.take (bs.length)).length = bs.length := by rw [List.length_take]; omega
  rw [hm3]
  have hu := h.u8
  have huT : U8 (bs.take (bs.length)) := fun z hz => hu z (List.mem_of_mem_take hz)
  obtain ⟨a, cap, b, off, rfl, -, -, -, ha, hc⟩ := h.open
  obtain rfl := ha (by omega)
  have hbl : b < w.heap.size := World.block_lt_of_cell? _ _ (hc 1 h1)
  have d1 : (w.alloc (.cells (msgX 0 0 nilV nilV) 35)).cell? ⟨b, off + 1, none⟩ = some (.int .u8 (bs.getD 1 0)) := (HBx.out.cell (p := ⟨b, off + 1, none⟩) hbl).trans (hc 1 h1)
  have hlt' : (1 : Int) < bs.length := by omega
  have hne : (bs.getD 1 0 == 1) = false := by simpa using h2
  clear h2
  obtain ⟨z, hz⟩ : ∃ z, bs.getD 1 0 = z := ⟨_, rfl⟩
  rw [hz] at d1 hne
  clear hz
  have _ := hs
  have hs64 : ¬ (64 : Int) < bs.length := by omega
  have HC := Lib.hid hc
  have HA := Lib.hid ha
  have HG : Hid (Calls Try.prog 66 #[.slice (some ⟨b, off, none⟩) bs.length cap] (w.alloc (.cells (msgX 0 0 nilV nilV) 35)) fun e w' => e = .returned (.tuple #[.agg #[.int .i64 y1, .int .i64 y2, .int .i64 y3, .int .u32 x], .int .i64 er]) ∧ Below (w.alloc (.cells (msgX 0 0 nilV nilV) 35)).heap.size (w.alloc (.cells (msgX 0 0 nilV nilV) 35)) w') := HG.out
  replace hm2 := Lib.hid hm2
  replace hm3 := Lib.hid hm3
  replace hml := Lib.hid hml
  replace huT := Lib.hid huT
  clear h ha hc h0 hu
  go_enter Try.func25, Try.ntmps25
  go_wp2_with (first
    | (go_at_call 65; (with_reducible refine (HP _).out.mono ?_); rintro e1 w1 ⟨rfl, rfl⟩)
    | (go_at_call 66; (with_reducible refine HG.out.mono ?_); rintro e1 w2 ⟨rfl, hb⟩; have HB2 := Lib.hid hb; clear hb)
    | (refine wpList_store_rowTo rfl 105 _ _ rfl rfl w2.heap.size #[.int .i64 y1, .int .i64 y2, .int .i64 y3, .int .u32 x] rfl rfl _ _ (heap_alloc_new _ _) (by kernel_rfl) (by kernel_rfl) (by kernel_rfl) ?_; rw [alloc_setRow]; have HB3 := Lib.hid (HB2.out.alloc HB2.out.size (.cells #[.int .i64 y1, .int .i64 y2, .int .i64 y3, .int .u32 x] 105)); have HHh := Lib.hid (heap_alloc_new w2 (.cells #[.int .i64 y1, .int .i64 y2, .int .i64 y3, .int .u32 x] 105)); have hs23 : Hid (w2.heap.size < (w2.alloc (.cells #[.int .i64 y1, .int .i64 y2, .int .i64 y3, .int .u32 x] 105)).heap.size) := (by show _ < _; simp); generalize w2.alloc (.cells #[.int .i64 y1, .int .i64 y2, .int .i64 y3, .int .u32 x] 105) = w3 at HB3 HHh hs23 ⊢)
    | (at_make; refine wpList_makeN rfl _ _ _ rfl w3.heap.size 5 (.int .u8 0) 1 Try.underlying24 info_u8 rfl .i64 .i64 _ _ (bs.length) rfl rfl rfl rfl (by omega) (by unfold maxLen; have := hm2.out; omega) (Nat.le_refl _) ?_; intro w4 hown hb4; obtain ⟨cur, hcur, hsz⟩ := madeN hown; have HB4 := Lib.hid (HB3.out.trans (hb4.mono HB3.out.size)); have HHh4 := Lib.hid ((hb4.block w2.heap.size hs23.out).trans HHh.out); have HCur := Lib.hid hcur; have HSz := Lib.hid hsz; clear hown hb4 hcur hsz)
    | (refine wpList_copy_splice rfl (.tmp 41) (.tmp 42) 24 24 rfl 5 Try.underlying24 (by kernel_rfl) (some ⟨w3.heap.size, 0, none⟩) (some ⟨b, off, none⟩) (bs.length) (bs.length) bs.length cap rfl rfl w3.heap.size 0 cur 5 HCur.out ((bs.take (bs.length)).map (Value.int .u8)) (by rw [List.length_map, hml.out]; show bs.length = min _ _; have := hm2.out; omega) (fun hp => ⟨rfl, _, rfl, src_at HC.out (below1 HB4.out)⟩) (by rw [List.length_map, hml.out, HSz.out]; omega) (ints_one _ _) w3.heap.size w4 (Below.refl _ _) (Nat.le_refl _) ?_; intro w5 HHg5 hb5; rw [splice_all (by rw [List.length_map, hml.out, HSz.out])] at HHg5; have hx5 := cell_heap ((hb5.block w2.heap.size hs23.out).trans HHh4.out) 3; have HB5 := Lib.hid (HB4.out.trans (hb5.mono HB3.out.size)); clear hb5; have HB6 := Lib.hid (HB5.out.alloc HB5.out.size (.cells #[.int .u64 t, .int .u64 c] 76)); have HH6 := Lib.hid ((HB6.out.block w.heap.size (by simp)).trans (heap_alloc_new _ _)))
    | (refine wpList_store_rowTo rfl 35 _ _ rfl rfl w.heap.size (msgX 1 x (.slice (some ⟨w5.heap.size, 0, none⟩) 2 2) (.slice (some ⟨w3.heap.size, 0, none⟩) (bs.length) (bs.length))) rfl rfl _ _ HH6.out (by kernel_rfl) (by kernel_rfl) (by kernel_rfl) ?_; have hheap := setRow_heap _ w.heap.size _ (msgX 1 x (.slice (some ⟨w5.heap.size, 0, none⟩) 2 2) (.slice (some ⟨w3.heap.size, 0, none⟩) (bs.length) (bs.length))) _ _ HH6.out; have HB9 := Lib.hid (below_setRow (below1 HB6.out) (Nat.le_refl _) (msgX 1 x (.slice (some ⟨w5.heap.size, 0, none⟩) 2 2) (.slice (some ⟨w3.heap.size, 0, none⟩) (bs.length) (bs.length))))))
  refine bodyPost_ret (results_row_tmp rfl _ _ w.heap.size _ _ _ _ rfl hheap Try.underlying35 rfl (by kernel_rfl)) rfl ?_
  have hs3 : w.heap.size < w3.heap.size := by have := HB3.out.size; simp at this; omega
  have hs5 : w.heap.size < w5.heap.size := by have := HB5.out.size; simp at this; omega
  have hrow : w5.ownsRow 0 5 1 (.slice (some ⟨w3.heap.size, 0, none⟩) (bs.length) (bs.length)) (bs.length) ((bs.take (bs.length)).map (Value.int .u8)) := ⟨by rw [List.length_map, hml.out]; try omega, .inr ⟨_, _, _, rfl, Nat.zero_le _, HHg5.out, Nat.le_refl _, by unfold maxLen; have := hm2.out; omega, by rw [List.size_toArray, List.length_map, hml.out]; try omega, by rw [List.take_of_length_le (by rw [List.length_map, hml.out]; try omega)]⟩⟩
  have huv : U64 [t, c] := fun z hz => by simp at hz; omega
  refine ⟨_, _, rfl, ints_setRow (Ints.lit .u64 w5 76 [t, c] _ rfl (by simp) huv.wf) (fun k e => ?_) _, ints_setRow ((Ints.of_own hrow huT.out.wf).alloc _) (fun k e => ?_) _, HB9.out⟩
  · have e' : w5.heap.size = k := by injection e
    omega
  · have e' : w3.heap.size = k := by injection e
    omega

theorem for_go_y2b (va : Value) (bs : List Int) (e : Int) (w : World) (h : Ints .u8 w va bs) (hl : bs.length ≤ 3000) (he : (Lit.int .i64 e).wf = true) (h0 : (pairS e).2 = true) (h1 : 1 < bs.length) (h2 : bs.getD 1 0 ≠ 1) (hs : 64 < bs.length) :
    Calls Try.prog 25 #[va, .int .i64 e] w fun r w' => ∃ vn vd, r = .returned (.tuple #[.agg (msgX 1 (hdOf bs).1.x vn vd), .bool true]) ∧ Ints .u64 w' vn [(pairS e).1.1, (pairS e).1.2] ∧ Ints .u8 w' vd (bs.take 64) ∧ Below w.heap.size w w' := by
  have HP := fun w => Lib.hid (go_pair e w he)
  have hbd := pairS_bd h0
  rw [h0] at HP
  generalize (pairS e).1.1 = t at HP hbd ⊢
  generalize (pairS e).1.2 = c at HP hbd ⊢
  obtain ⟨t1, t2, c1, c2⟩ := hbd
  have x1 : IntKind.wrap .u64 t = t := wrap_u64 (by omega) (by omega)
  have x2 : IntKind.wrap .u64 c = c := wrap_u64 (by omega) (by omega)
  have HBx : Hid (Below w.heap.size w (w.alloc (.cells (msgX 0 0 nilV nilV) 35))) := below_alloc2 _
  have HX := Lib.hid (h.below HBx.out)
  have HG : Hid (Calls Try.prog 66 #[va] (w.alloc (.cells (msgX 0 0 nilV nilV) 35)) fun e w' => e = .returned (.tuple #[(hdOf bs).1.val, .int .i64 (hdOf bs).2]) ∧ Below (w.alloc (.cells (msgX 0 0 nilV nilV) 35)).heap.size (w.alloc (.cells (msgX 0 0 nilV nilV) 35)) w') := head_get HX.out (by omega)
  generalize (hdOf bs).2 = er at HG
  generalize (hdOf bs).1 = H at HG ⊢
  obtain ⟨y1, y2, y3, x⟩ := H
  have hm2 : 64 = min bs.length 64 := by omega
  have hm3 : bs.take 64 = bs.take (64) := rfl
  have hml : (bs.take (64)).length = 64 := by rw [List.length_take]; omega
  rw [hm3]
  have hu := h.u8
  have huT : U8 (bs.take (64)) := fun z hz => hu z (List.mem_of_mem_take hz)
  obtain ⟨a, cap, b, off, rfl, -, -, -, ha, hc⟩ := h.open
  obtain rfl := ha (by omega)
  have hbl : b < w.heap.size := World.block_lt_of_cell? _ _ (hc 1 h1)
  have d1 : (w.alloc (.cells (msgX 0 0 nilV nilV) 35)).cell? ⟨b, off + 1, none⟩ = some (.int .u8 (bs.getD 1 0)) := (HBx.out.cell (p := ⟨b, off + 1, none⟩) hbl).trans (hc 1 h1)
  have hlt' : (1 : Int) < bs.length := by omega
  have hne : (bs.getD 1 0 == 1) = false := by simpa using h2
  clear h2
  obtain ⟨z, hz⟩ : ∃ z, bs.getD 1 0 = z := ⟨_, rfl⟩
  rw [hz] at d1 hne
  clear hz
  have _ := hs
  have hs64 : (64 : Int) < bs.length := by omega
  have HC := Lib.hid hc
  have HA := Lib.hid ha
  have HG : Hid (Calls Try.prog 66 #[.slice (some ⟨b, off, none⟩) bs.length cap] (w.alloc (.cells (msgX 0 0 nilV nilV) 35)) fun e w' => e = .returned (.tuple #[.agg #[.int .i64 y1, .int .i64 y2, .int .i64 y3, .int .u32 x], .int .i64 er]) ∧ Below (w.alloc (.cells (msgX 0 0 nilV nilV) 35)).heap.size (w.alloc (.cells (msgX 0 0 nilV nilV) 35)) w') := HG.out
  replace hm2 := Lib.hid hm2
  replace hm3 := Lib.hid hm3
  replace hml := Lib.hid hml
  replace huT := Lib.hid huT
  clear h ha hc h0 hu
  go_enter Try.func25, Try.ntmps25
  go_wp2_with (first
    | (go_at_call 65; (with_reducible refine (HP _).out.mono ?_); rintro e1 w1 ⟨rfl, rfl⟩)
    | (go_at_call 66; (with_reducible refine HG.out.mono ?_); rintro e1 w2 ⟨rfl, hb⟩; have HB2 := Lib.hid hb; clear hb)
    | (refine wpList_store_rowTo rfl 105 _ _ rfl rfl w2.heap.size #[.int .i64 y1, .int .i64 y2, .int .i64 y3, .int .u32 x] rfl rfl _ _ (heap_alloc_new _ _) (by kernel_rfl) (by kernel_rfl) (by kernel_rfl) ?_; rw [alloc_setRow]; have HB3 := Lib.hid (HB2.out.alloc HB2.out.size (.cells #[.int .i64 y1, .int .i64 y2, .int .i64 y3, .int .u32 x] 105)); have HHh := Lib.hid (heap_alloc_new w2 (.cells #[.int .i64 y1, .int .i64 y2, .int .i64 y3, .int .u32 x] 105)); have hs23 : Hid (w2.heap.size < (w2.alloc (.cells #[.int .i64 y1, .int .i64 y2, .int .i64 y3, .int .u32 x] 105)).heap.size) := (by show _ < _; simp); generalize w2.alloc (.cells #[.int .i64 y1, .int .i64 y2, .int .i64 y3, .int .u32 x] 105) = w3 at HB3 HHh hs23 ⊢)
    | (at_make; refine wpList_makeN rfl _ _ _ rfl w3.heap.size 5 (.int .u8 0) 1 Try.underlying24 info_u8 rfl .i64 .i64 _ _ (64) rfl rfl rfl rfl (by omega) (by unfold maxLen; have := hm2.out; omega) (Nat.le_refl _) ?_; intro w4 hown hb4; obtain ⟨cur, hcur, hsz⟩ := madeN hown; have HB4 := Lib.hid (HB3.out.trans (hb4.mono HB3.out.size)); have HHh4 := Lib.hid ((hb4.block w2.heap.size hs23.out).trans HHh.out); have HCur := Lib.hid hcur; have HSz := Lib.hid hsz; clear hown hb4 hcur hsz)
    | (refine wpList_copy_splice rfl (.tmp 41) (.tmp 42) 24 24 rfl 5 Try.underlying24 (by kernel_rfl) (some ⟨w3.heap.size, 0, none⟩) (some ⟨b, off, none⟩) (64) (64) bs.length cap rfl rfl w3.heap.size 0 cur 5 HCur.out ((bs.take (64)).map (Value.int .u8)) (by rw [List.length_map, hml.out]; show 64 = min _ _; have := hm2.out; omega) (fun hp => ⟨rfl, _, rfl, src_at HC.out (below1 HB4.out)⟩) (by rw [List.length_map, hml.out, HSz.out]; omega) (ints_one _ _) w3.heap.size w4 (Below.refl _ _) (Nat.le_refl _) ?_; intro w5 HHg5 hb5; rw [splice_all (by rw [List.length_map, hml.out, HSz.out])] at HHg5; have hx5 := cell_heap ((hb5.block w2.heap.size hs23.out).trans HHh4.out) 3; have HB5 := Lib.hid (HB4.out.trans (hb5.mono HB3.out.size)); clear hb5; have HB6 := Lib.hid (HB5.out.alloc HB5.out.size (.cells #[.int .u64 t, .int .u64 c] 76)); have HH6 := Lib.hid ((HB6.out.block w.heap.size (by simp)).trans (heap_alloc_new _ _)))
    | (refine wpList_store_rowTo rfl 35 _ _ rfl rfl w.heap.size (msgX 1 x (.slice (some ⟨w5.heap.size, 0, none⟩) 2 2) (.slice (some ⟨w3.heap.size, 0, none⟩) (64) (64))) rfl rfl _ _ HH6.out (by kernel_rfl) (by kernel_rfl) (by kernel_rfl) ?_; have hheap := setRow_heap _ w.heap.size _ (msgX 1 x (.slice (some ⟨w5.heap.size, 0, none⟩) 2 2) (.slice (some ⟨w3.heap.size, 0, none⟩) (64) (64))) _ _ HH6.out; have HB9 := Lib.hid (below_setRow (below1 HB6.out) (Nat.le_refl _) (msgX 1 x (.slice (some ⟨w5.heap.size, 0, none⟩) 2 2) (.slice (some ⟨w3.heap.size, 0, none⟩) (64) (64))))))
  refine bodyPost_ret (results_row_tmp rfl _ _ w.heap.size _ _ _ _ rfl hheap Try.underlying35 rfl (by kernel_rfl)) rfl ?_
  have hs3 : w.heap.size < w3.heap.size := by have := HB3.out.size; simp at this; omega
  have hs5 : w.heap.size < w5.heap.size := by have := HB5.out.size; simp at this; omega
  have hrow : w5.ownsRow 0 5 1 (.slice (some ⟨w3.heap.size, 0, none⟩) (64) (64)) (64) ((bs.take (64)).map (Value.int .u8)) := ⟨by rw [List.length_map, hml.out]; try omega, .inr ⟨_, _, _, rfl, Nat.zero_le _, HHg5.out, Nat.le_refl _, by unfold maxLen; have := hm2.out; omega, by rw [List.size_toArray, List.length_map, hml.out]; try omega, by rw [List.take_of_length_le (by rw [List.length_map, hml.out]; try omega)]⟩⟩
  have huv : U64 [t, c] := fun z hz => by simp at hz; omega
  refine ⟨_, _, rfl, ints_setRow (Ints.lit .u64 w5 76 [t, c] _ rfl (by simp) huv.wf) (fun k e => ?_) _, ints_setRow ((Ints.of_own hrow huT.out.wf).alloc _) (fun k e => ?_) _, HB9.out⟩
  · have e' : w5.heap.size = k := by injection e
    omega
  · have e' : w3.heap.size = k := by injection e
    omega

theorem for_go_yes (va : Value) (bs : List Int) (e : Int) (w : World) (h : Ints .u8 w va bs) (hl : bs.length ≤ 3000) (he : (Lit.int .i64 e).wf = true) (hyes : forB bs e = true) :
    Calls Try.prog 25 #[va, .int .i64 e] w fun r w' => ∃ vn vd, r = .returned (.tuple #[.agg (msgX 1 (hdOf bs).1.x vn vd), .bool true]) ∧ Ints .u64 w' vn [(pairS e).1.1, (pairS e).1.2] ∧ Ints .u8 w' vd (bs.take 64) ∧ Below w.heap.size w w' := by
  rw [forB, Bool.and_eq_true] at hyes
  by_cases h1 : 1 < bs.length
  · by_cases hs : 64 < bs.length
    · exact for_go_y2b va bs e w h hl he hyes.1 h1 (by simpa [h1] using hyes.2) hs
    · exact for_go_y2s va bs e w h hl he hyes.1 h1 (by simpa [h1] using hyes.2) hs
  · exact for_go_y1s va bs e w h hl he hyes.1 h1 (by omega)
end Go.Proofs.Ytfaklenclhljhaa
