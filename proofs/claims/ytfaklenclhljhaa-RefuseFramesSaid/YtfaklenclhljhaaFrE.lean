/- The walk of the document's For of chapter 26, of any frame and any error. Conditions: the frame is not too long. -/
import Derived.Test.YtfaklenclhljhaaFrD
namespace Go.Proofs.Ytfaklenclhljhaa
open Go.RowKit
set_option maxRecDepth 100000
set_option maxHeartbeats 4000000

theorem sl_take {w : World} {a : Option Addr} {cap n : Nat} {bs : List Int} (h : Ints .u8 w (.slice a bs.length cap) bs) (hn : n ≤ bs.length) : Sl w (.slice a n cap) n ((bs.take n).map (Value.int .u8)) := by
  obtain ⟨⟨a1, cap1, b, off, h1, h2, h3, h4, h5, h6⟩, -⟩ := h
  injection h1 with e1 e2 e3
  subst e1 e3
  refine ⟨a, cap, b, off, rfl, by omega, h3, h4, fun hp => h5 (by omega), fun i hi => ?_⟩
  rw [List.length_map, List.length_take] at hi
  rw [h6 i (by rw [List.length_map]; omega)]
  have hi2 : i < bs.length := by omega
  have hin : i < n := by omega
  rw [List.getD_eq_getElem?_getD, List.getD_eq_getElem?_getD, List.getElem?_map, List.getElem?_map, List.getElem?_take, if_pos hin]

theorem xid_of {bs : List Int} : (bs.length < 8 → (hdOf bs).1.x = 0) ∧ (8 ≤ bs.length → (hdOf bs).1.x = valL ((bs.drop 4).take 4)) := by
  refine ⟨fun h => by rw [hdOf, if_pos h], fun h => by rw [hdOf, if_neg (by omega)]⟩

theorem for_ref_n1 (va : Value) (bs : List Int) (e : Int) (w : World) (h : Ints .u8 w va bs) (hl : bs.length ≤ 3000) (h0 : (pairS e).2 = false) :
    Calls Try.prog 26 #[va, .int .i64 e] w fun r w' => r = .returned (.tuple #[.agg (msgX 0 0 nilV nilV), .bool false]) ∧ Below w.heap.size w w' := by
  have _ := hl
  have HP := fun w => Lib.hid (ref_pair e w)
  rw [h0] at HP
  obtain ⟨a, cap, b, off, rfl, -, -, -, -, -⟩ := h.open
  clear h h0
  go_enter Try.func26, Try.ntmps26
  go_wp2_with fail
  (with_reducible refine (HP _).out.mono ?_)
  rintro e1 w1 ⟨rfl, hb⟩
  have HB1 := Lib.hid (below1 hb)
  have HH1 := Lib.hid ((hb.block w.heap.size (by simp)).trans (heap_alloc_new _ _))
  clear hb
  go_wp2_with (refine wpList_store_rowTo rfl 35 _ _ rfl rfl w.heap.size (msgX 0 0 nilV nilV) rfl rfl _ _ HH1.out (by kernel_rfl) (by kernel_rfl) (by kernel_rfl) ?_; have hheap := setRow_heap _ w.heap.size _ (msgX 0 0 nilV nilV) _ _ HH1.out; have HB9 := Lib.hid (below_setRow HB1.out (Nat.le_refl _) (msgX 0 0 nilV nilV)))
  refine bodyPost_ret (results_row_tmp rfl _ _ w.heap.size _ _ _ _ rfl hheap Try.underlying35 rfl (by kernel_rfl)) rfl ?_
  exact ⟨rfl, HB9.out⟩

theorem for_ref_n2 (va : Value) (bs : List Int) (e : Int) (w : World) (h : Ints .u8 w va bs) (hl : bs.length ≤ 3000) (h0 : (pairS e).2 = true) (h1 : 1 < bs.length) (h2 : bs.getD 1 0 = 1) :
    Calls Try.prog 26 #[va, .int .i64 e] w fun r w' => r = .returned (.tuple #[.agg (msgX 0 0 nilV nilV), .bool false]) ∧ Below w.heap.size w w' := by
  have _ := hl
  have HP := fun w => Lib.hid (ref_pair e w)
  rw [h0] at HP
  obtain ⟨a, cap, b, off, rfl, -, -, -, ha, hc⟩ := h.open
  obtain rfl := ha (by omega)
  have hbl : b < w.heap.size := World.block_lt_of_cell? _ _ (hc 1 h1)
  have hlt' : (1 : Int) < bs.length := by omega
  have hc1 := hc 1 h1
  rw [h2] at hc1
  have hc1 := Lib.hid hc1
  clear h h0 ha hc h2
  go_enter Try.func26, Try.ntmps26
  go_wp2_with fail
  (with_reducible refine (HP _).out.mono ?_)
  rintro e1 w1 ⟨rfl, hb⟩
  have HB1 := Lib.hid (below1 hb)
  have HH1 := Lib.hid ((hb.block w.heap.size (by simp)).trans (heap_alloc_new _ _))
  have d1 : w1.cell? ⟨b, off + 1, none⟩ = some (.int .u8 1) := (HB1.out.cell (p := ⟨b, off + 1, none⟩) hbl).trans hc1.out
  clear hb
  go_wp2_with (refine wpList_store_rowTo rfl 35 _ _ rfl rfl w.heap.size (msgX 0 0 nilV nilV) rfl rfl _ _ HH1.out (by kernel_rfl) (by kernel_rfl) (by kernel_rfl) ?_; have hheap := setRow_heap _ w.heap.size _ (msgX 0 0 nilV nilV) _ _ HH1.out; have HB9 := Lib.hid (below_setRow HB1.out (Nat.le_refl _) (msgX 0 0 nilV nilV)))
  refine bodyPost_ret (results_row_tmp rfl _ _ w.heap.size _ _ _ _ rfl hheap Try.underlying35 rfl (by kernel_rfl)) rfl ?_
  exact ⟨rfl, HB9.out⟩

theorem for_ref_no (va : Value) (bs : List Int) (e : Int) (w : World) (h : Ints .u8 w va bs) (hl : bs.length ≤ 3000) (hno : forB bs e = false) :
    Calls Try.prog 26 #[va, .int .i64 e] w fun r w' => r = .returned (.tuple #[.agg (msgX 0 0 nilV nilV), .bool false]) ∧ Below w.heap.size w w' := by
  cases h0 : (pairS e).2
  · exact for_ref_n1 va bs e w h hl h0
  · rw [forB, h0] at hno
    simp at hno
    exact for_ref_n2 va bs e w h hl h0 hno.1 (by simpa using hno.2)

theorem cut48 {w : World} {b off cap : Nat} {bs : List Int} (h : Ints .u8 w (.slice (some ⟨b, off, none⟩) bs.length cap) bs) (h8 : 8 ≤ bs.length) : Ints .u8 w (.slice (some ⟨b, off + 4, none⟩) 4 (cap - 4)) ((bs.drop 4).take 4) := by
  obtain ⟨a1, cap1, b1, off1, h1, h2, h3, h4, h5, h6⟩ := h.open
  injection h1 with e1 e2 e3
  have e1 := (h5 (by omega)).symm.trans e1.symm
  injection e1 with e1
  injection e1 with e1 e4 e5
  subst e1 e3 e4
  refine Ints.mk (b := b1) (off := off1 + 4) (by rw [List.length_take, List.length_drop]; omega) (by omega) (by omega) (fun h => by cases h) (fun _ => rfl) (fun i hi => ?_) (fun z hz => h.2 z (List.mem_of_mem_drop (List.mem_of_mem_take hz)))
  have := h6 (4 + i) (by omega)
  rw [show off1 + (4 + i) = off1 + 4 + i by omega] at this
  rw [this, List.getD_eq_getElem?_getD, List.getD_eq_getElem?_getD, List.getElem?_take, if_pos hi, List.getElem?_drop]

/-- A slice with no array; with one. -/
def HNo (v : Value) : Prop := ∀ a n c, v = .slice a n c → a = none
def HSo (v : Value) : Prop := ∀ a n c, v = .slice a n c → ∃ x, a = some x

theorem for_ref_y2e (va : Value) (bs : List Int) (e : Int) (w : World) (h : Ints .u8 w va bs) (hl : bs.length ≤ 3000) (h0 : (pairS e).2 = true) (h1 : 1 < bs.length) (h2 : bs.getD 1 0 ≠ 1) (h8 : 8 ≤ bs.length) (hs : ¬ 64 < bs.length) :
    Calls Try.prog 26 #[va, .int .i64 e] w fun r w' => ∃ vn vd, r = .returned (.tuple #[.agg (msgX 1 (hdOf bs).1.x vn vd), .bool true]) ∧ Ints .u64 w' vn [(pairS e).1.1, (pairS e).1.2] ∧ Ints .u8 w' vd (bs.take 64) ∧ Below w.heap.size w w' := by
  have _ := hs
  have HP := fun w => Lib.hid (ref_pair e w)
  have hbd := pairS_bd h0
  rw [h0] at HP
  generalize (pairS e).1.1 = t at HP hbd ⊢
  generalize (pairS e).1.2 = c at HP hbd ⊢
  obtain ⟨t1, t2, c1, c2⟩ := hbd
  have x1 : IntKind.wrap .u64 t = t := wrap_u64 (by omega) (by omega)
  have x2 : IntKind.wrap .u64 c = c := wrap_u64 (by omega) (by omega)
  have huv : Hid (U64 [t, c]) := fun z hz => by simp at hz; omega
  have hm3 : bs.take 64 = bs.take (bs.length) := by rw [List.take_of_length_le (show bs.length ≤ 64 by omega), List.take_of_length_le (Nat.le_refl _)]
  rw [hm3]
  clear hm3
  have hml : Hid ((bs.take (bs.length)).length = bs.length) := by show _ = _; rw [List.length_take]; omega
  have hu := h.u8
  have huT : Hid (U8 (bs.take (bs.length))) := fun z hz => hu z (List.mem_of_mem_take hz)
  rw [xid_of.2 h8]
  have hv := val_bd hu 4 4 (by omega)
  have hval : Hid (valL ((bs.drop 4).take 4) = valL ((bs.drop 4).take 4)) := rfl
  have x3 : IntKind.wrap .u32 (valL ((bs.drop 4).take 4)) = valL ((bs.drop 4).take 4) := wrap_u32 hv.1 (by have := hv.2; omega)
  have HX := Lib.hid h
  obtain ⟨a, cap, b, off, rfl, hlc, hcm, hnone, ha, hc⟩ := h.open
  have hlc' : (bs.length : Int) ≤ cap := by omega
  have hs64 : ¬ (64 : Int) < bs.length := by omega
  have h8' : (8 : Int) ≤ bs.length := by omega
  have hc8 : (8 : Int) ≤ cap := by omega
  obtain rfl := ha (by omega)
  have hbl : b < w.heap.size := World.block_lt_of_cell? _ _ (hc 1 h1)
  have hlt' : (1 : Int) < bs.length := by omega
  have hne : (bs.getD 1 0 == 1) = false := by simpa using h2
  have hc1 := hc 1 h1
  clear h2
  obtain ⟨z, hz⟩ : ∃ z, bs.getD 1 0 = z := ⟨_, rfl⟩
  rw [hz] at hc1 hne
  have hc1 := Lib.hid hc1
  clear hz
  clear h hu ha hc h0 hnone
  go_enter Try.func26, Try.ntmps26
  go_wp2_with fail
  (with_reducible refine (HP _).out.mono ?_)
  rintro e1 w1 ⟨rfl, hb⟩
  have HB1 := Lib.hid (below1 hb)
  have HH1 := Lib.hid ((hb.block w.heap.size (by simp)).trans (heap_alloc_new _ _))
  have d1 : w1.cell? ⟨b, off + 1, none⟩ = some (.int .u8 z) := (HB1.out.cell (p := ⟨b, off + 1, none⟩) hbl).trans hc1.out
  clear hb
  have HV : Hid (Calls Try.prog 68 #[.slice (some ⟨b, off + 4, none⟩) 4 (cap - 4)] ((w1.alloc (.cells #[.int .u64 t, .int .u64 c] 76)).alloc (.cells (msgX 1 0 (.slice (some ⟨w1.heap.size, 0, none⟩) 2 2) nilV) 35)) fun e w' => e = .returned (.int .u64 (valL ((bs.drop 4).take 4))) ∧ ((w1.alloc (.cells #[.int .u64 t, .int .u64 c] 76)).alloc (.cells (msgX 1 0 (.slice (some ⟨w1.heap.size, 0, none⟩) 2 2) nilV) 35)) = w') :=
    ref_value _ _ _ (cut48 (((HX.out.below HB1.out).alloc _).alloc _) h8) (by rw [List.length_take]; omega)
  go_wp2_with fail
  (with_reducible refine HV.out.mono ?_)
  rintro e2 w2 ⟨rfl, rfl⟩
  have HB3 : Hid (Below w.heap.size w ((w1.alloc (.cells #[.int .u64 t, .int .u64 c] 76)).alloc (.cells (msgX 1 (valL ((bs.drop 4).take 4)) (.slice (some ⟨w1.heap.size, 0, none⟩) 2 2) nilV) 35))) := (HB1.out.alloc HB1.out.size _).alloc (by have := HB1.out.size; simp; omega) _
  have HHp : Hid (((w1.alloc (.cells #[.int .u64 t, .int .u64 c] 76)).alloc (.cells (msgX 1 (valL ((bs.drop 4).take 4)) (.slice (some ⟨w1.heap.size, 0, none⟩) 2 2) nilV) 35)).heap[w1.heap.size + 1]? = some (.cells (msgX 1 (valL ((bs.drop 4).take 4)) (.slice (some ⟨w1.heap.size, 0, none⟩) 2 2) nilV) 35 (0, 0))) := by
    have := heap_alloc_new (w1.alloc (.cells #[.int .u64 t, .int .u64 c] 76)) (.cells (msgX 1 (valL ((bs.drop 4).take 4)) (.slice (some ⟨w1.heap.size, 0, none⟩) 2 2) nilV) 35)
    rw [World.size_alloc] at this
    exact this
  have hs1 : Hid (w.heap.size < w1.heap.size) := (Array.getElem?_eq_some_iff.1 HH1.out).1
  have HHr : Hid (((w1.alloc (.cells #[.int .u64 t, .int .u64 c] 76)).alloc (.cells (msgX 1 (valL ((bs.drop 4).take 4)) (.slice (some ⟨w1.heap.size, 0, none⟩) 2 2) nilV) 35)).heap[w.heap.size]? = some (.cells (msgX 0 0 nilV nilV) 35 (0, 0))) := ((below_alloc2 _).block _ (by have := hs1.out; simp; omega)).trans (((below_alloc2 _).block _ hs1.out).trans HH1.out)
  have HN3 : Hid (Ints .u64 ((w1.alloc (.cells #[.int .u64 t, .int .u64 c] 76)).alloc (.cells (msgX 1 (valL ((bs.drop 4).take 4)) (.slice (some ⟨w1.heap.size, 0, none⟩) 2 2) nilV) 35)) (.slice (some ⟨w1.heap.size, 0, none⟩) 2 2) [t, c]) := (Ints.lit .u64 w1 76 [t, c] _ rfl (by simp) huv.out.wf).alloc _
  have hs3 : Hid (w1.heap.size + 1 < ((w1.alloc (.cells #[.int .u64 t, .int .u64 c] 76)).alloc (.cells (msgX 1 (valL ((bs.drop 4).take 4)) (.slice (some ⟨w1.heap.size, 0, none⟩) 2 2) nilV) 35)).heap.size) := by show _ < _; simp
  go_wp2_with fail
  generalize ((w1.alloc (.cells #[.int .u64 t, .int .u64 c] 76)).alloc (.cells (msgX 1 (valL ((bs.drop 4).take 4)) (.slice (some ⟨w1.heap.size, 0, none⟩) 2 2) nilV) 35)) = w3 at HB3 HHp HHr HN3 hs3 ⊢
  have HX3 := Lib.hid (HX.out.below HB3.out)
  have n3 : w3.cell? ⟨w1.heap.size + 1, 3, none⟩ = some nilV := cell_heap HHp.out 3
  go_region_law (refine step_append_sl (by rfl) _ _ _ (by rfl) w3.heap.size 5 (.int .u8 0) 1 1 Try.underlying24 info_u8 rfl (by omega) nilV 0 [] (by rfl) ⟨rfl, .inl ⟨rfl, rfl⟩⟩ (.slice (some ⟨b, off, none⟩) (bs.length) cap) (bs.length) ((bs.take (bs.length)).map (Value.int .u8)) (by rfl) (by rw [List.length_map, hml.out]; try omega) (sl_take (HX3.out.below (below_drewN (Below.refl _ _) 1)) (by omega)) (ints_one _ _) (by unfold maxLen; omega) (by omega) (Nat.le_refl _) ?_
                 intro v' w4 hown1 hgrow1
                 rw [Nat.zero_add, List.nil_append] at hown1
                 have HO4 := Lib.hid hown1
                 have HB4 : Hid (Below w3.heap.size w3 w4) := (below_drewN (Below.refl _ _) 1).trans (below_of_grown hgrow1)
                 clear hown1 hgrow1
                 obtain ⟨a4, c4, rfl⟩ := own_slice HO4.out
                 have HP4 := Lib.hid ((HB4.out.block (w1.heap.size + 1) hs3.out).trans HHp.out)
                 have fz3 : w4.frozen? ⟨w1.heap.size + 1, 3, none⟩ = false := (by simp [World.frozen?, HP4.out])
                 have cc3 : w4.cell? ⟨w1.heap.size + 1, 3, none⟩ = some nilV := cell_heap HP4.out 3)
  have HP5 := Lib.hid ((heap_put HP4.out 3 (.slice a4 (bs.length) c4)).trans (show _ = some (.cells (msgX 1 (valL ((bs.drop 4).take 4)) (.slice (some ⟨w1.heap.size, 0, none⟩) 2 2) (.slice a4 (bs.length) c4)) 35 (0, 0)) from rfl))
  have HG5 : Hid (w4.grownBy (w4.setCell ⟨w1.heap.size + 1, 3, none⟩ (.slice a4 (bs.length) c4)) (some (w1.heap.size + 1))) := grown_put _ _ _ _
  have h31 : w.heap.size < w3.heap.size := by have := hs1.out; have := hs3.out; omega
  have HR5 := Lib.hid ((HG5.out.block w.heap.size (by have := HB4.out.size; omega) (by have := hs1.out; intro e; injection e; omega)).trans ((HB4.out.block w.heap.size h31).trans HHr.out))
  have HB5 : Hid (Below w.heap.size w (w4.setCell ⟨w1.heap.size + 1, 3, none⟩ (.slice a4 (bs.length) c4))) := below_row (HB3.out.trans (HB4.out.mono HB3.out.size)) (by have := HB4.out.size; omega) HG5.out (by have := hs1.out; omega)
  have HN5 : Hid (Ints .u64 (w4.setCell ⟨w1.heap.size + 1, 3, none⟩ (.slice a4 (bs.length) c4)) (.slice (some ⟨w1.heap.size, 0, none⟩) 2 2) [t, c]) := (HN3.out.below HB4.out).grown HG5.out (fun k e e' => by have e : w1.heap.size = k := (by injection e); injection e' with e'; omega)
  have HD5 : Hid (Ints .u8 (w4.setCell ⟨w1.heap.size + 1, 3, none⟩ (.slice a4 (bs.length) c4)) (.slice a4 (bs.length) c4) (bs.take (bs.length))) := (Ints.of_own HO4.out huT.out.wf).grown HG5.out (fun k e e' => by have := (HO4.out.lt k e).1; have := hs3.out; injection e' with e'; omega)
  have hw1 : Hid (w.heap.size < w1.heap.size) := hs1
  have hw4 : Hid (∀ k, (Value.slice a4 (bs.length) c4).ownBlock = some k → w.heap.size = k → False) := fun k e e' => by have := (HO4.out.lt k e).1; omega
  clear h31
  have k0 := cell_heap HP5.out 0
  have k1 := cell_heap HP5.out 1
  have k2 := cell_heap HP5.out 2
  have k3 := cell_heap HP5.out 3
  have k4 := cell_heap HP5.out 4
  have k5 := cell_heap HP5.out 5
  have k6 := cell_heap HP5.out 6
  have k7 := cell_heap HP5.out 7
  have k8 := cell_heap HP5.out 8
  have k9 := cell_heap HP5.out 9
  have k10 := cell_heap HP5.out 10
  have k11 := cell_heap HP5.out 11
  have k12 := cell_heap HP5.out 12
  have k13 := cell_heap HP5.out 13
  have k14 := cell_heap HP5.out 14
  clear n3 cc3 fz3
  generalize w4.setCell ⟨w1.heap.size + 1, 3, none⟩ (.slice a4 (bs.length) c4) = w5 at *
  go_wp2_with (refine wpList_store_rowTo rfl 35 _ _ rfl rfl w.heap.size (msgX 1 (valL ((bs.drop 4).take 4)) (.slice (some ⟨w1.heap.size, 0, none⟩) 2 2) (.slice a4 (bs.length) c4)) rfl rfl _ _ HR5.out (by kernel_rfl) (by kernel_rfl) (by kernel_rfl) ?_; have hheap := setRow_heap _ w.heap.size _ (msgX 1 (valL ((bs.drop 4).take 4)) (.slice (some ⟨w1.heap.size, 0, none⟩) 2 2) (.slice a4 (bs.length) c4)) _ _ HR5.out; have HB9 := Lib.hid (below_setRow HB5.out (Nat.le_refl _) (msgX 1 (valL ((bs.drop 4).take 4)) (.slice (some ⟨w1.heap.size, 0, none⟩) 2 2) (.slice a4 (bs.length) c4))))
  refine bodyPost_ret (results_row_tmp rfl _ _ w.heap.size _ _ _ _ rfl hheap Try.underlying35 rfl (by kernel_rfl)) rfl ?_
  refine ⟨_, _, rfl, ints_setRow HN5.out (fun k e => ?_) _, ints_setRow HD5.out (fun k e => ?_) _, HB9.out⟩
  · have e' : w1.heap.size = k := by injection e
    have := hw1.out
    omega
  · exact fun e' => hw4.out k e e'.symm

theorem for_ref_y2b (va : Value) (bs : List Int) (e : Int) (w : World) (h : Ints .u8 w va bs) (hl : bs.length ≤ 3000) (h0 : (pairS e).2 = true) (h1 : 1 < bs.length) (h2 : bs.getD 1 0 ≠ 1) (h8 : 8 ≤ bs.length) (hs : 64 < bs.length) :
    Calls Try.prog 26 #[va, .int .i64 e] w fun r w' => ∃ vn vd, r = .returned (.tuple #[.agg (msgX 1 (hdOf bs).1.x vn vd), .bool true]) ∧ Ints .u64 w' vn [(pairS e).1.1, (pairS e).1.2] ∧ Ints .u8 w' vd (bs.take 64) ∧ Below w.heap.size w w' := by
  have _ := hs
  have HP := fun w => Lib.hid (ref_pair e w)
  have hbd := pairS_bd h0
  rw [h0] at HP
  generalize (pairS e).1.1 = t at HP hbd ⊢
  generalize (pairS e).1.2 = c at HP hbd ⊢
  obtain ⟨t1, t2, c1, c2⟩ := hbd
  have x1 : IntKind.wrap .u64 t = t := wrap_u64 (by omega) (by omega)
  have x2 : IntKind.wrap .u64 c = c := wrap_u64 (by omega) (by omega)
  have huv : Hid (U64 [t, c]) := fun z hz => by simp at hz; omega
  have hm3 : bs.take 64 = bs.take (64) := rfl
  rw [hm3]
  clear hm3
  have hml : Hid ((bs.take (64)).length = 64) := by show _ = _; rw [List.length_take]; omega
  have hu := h.u8
  have huT : Hid (U8 (bs.take (64))) := fun z hz => hu z (List.mem_of_mem_take hz)
  rw [xid_of.2 h8]
  have hv := val_bd hu 4 4 (by omega)
  have hval : Hid (valL ((bs.drop 4).take 4) = valL ((bs.drop 4).take 4)) := rfl
  have x3 : IntKind.wrap .u32 (valL ((bs.drop 4).take 4)) = valL ((bs.drop 4).take 4) := wrap_u32 hv.1 (by have := hv.2; omega)
  have HX := Lib.hid h
  obtain ⟨a, cap, b, off, rfl, hlc, hcm, hnone, ha, hc⟩ := h.open
  have hlc' : (bs.length : Int) ≤ cap := by omega
  have hs64 : (64 : Int) < bs.length := by omega
  have hc64 : (64 : Int) ≤ cap := by omega
  have h8' : (8 : Int) ≤ bs.length := by omega
  have hc8 : (8 : Int) ≤ cap := by omega
  obtain rfl := ha (by omega)
  have hbl : b < w.heap.size := World.block_lt_of_cell? _ _ (hc 1 h1)
  have hlt' : (1 : Int) < bs.length := by omega
  have hne : (bs.getD 1 0 == 1) = false := by simpa using h2
  have hc1 := hc 1 h1
  clear h2
  obtain ⟨z, hz⟩ : ∃ z, bs.getD 1 0 = z := ⟨_, rfl⟩
  rw [hz] at hc1 hne
  have hc1 := Lib.hid hc1
  clear hz
  clear h hu ha hc h0 hnone
  go_enter Try.func26, Try.ntmps26
  go_wp2_with fail
  (with_reducible refine (HP _).out.mono ?_)
  rintro e1 w1 ⟨rfl, hb⟩
  have HB1 := Lib.hid (below1 hb)
  have HH1 := Lib.hid ((hb.block w.heap.size (by simp)).trans (heap_alloc_new _ _))
  have d1 : w1.cell? ⟨b, off + 1, none⟩ = some (.int .u8 z) := (HB1.out.cell (p := ⟨b, off + 1, none⟩) hbl).trans hc1.out
  clear hb
  have HV : Hid (Calls Try.prog 68 #[.slice (some ⟨b, off + 4, none⟩) 4 (cap - 4)] ((w1.alloc (.cells #[.int .u64 t, .int .u64 c] 76)).alloc (.cells (msgX 1 0 (.slice (some ⟨w1.heap.size, 0, none⟩) 2 2) nilV) 35)) fun e w' => e = .returned (.int .u64 (valL ((bs.drop 4).take 4))) ∧ ((w1.alloc (.cells #[.int .u64 t, .int .u64 c] 76)).alloc (.cells (msgX 1 0 (.slice (some ⟨w1.heap.size, 0, none⟩) 2 2) nilV) 35)) = w') :=
    ref_value _ _ _ (cut48 (((HX.out.below HB1.out).alloc _).alloc _) h8) (by rw [List.length_take]; omega)
  go_wp2_with fail
  (with_reducible refine HV.out.mono ?_)
  rintro e2 w2 ⟨rfl, rfl⟩
  have HB3 : Hid (Below w.heap.size w ((w1.alloc (.cells #[.int .u64 t, .int .u64 c] 76)).alloc (.cells (msgX 1 (valL ((bs.drop 4).take 4)) (.slice (some ⟨w1.heap.size, 0, none⟩) 2 2) nilV) 35))) := (HB1.out.alloc HB1.out.size _).alloc (by have := HB1.out.size; simp; omega) _
  have HHp : Hid (((w1.alloc (.cells #[.int .u64 t, .int .u64 c] 76)).alloc (.cells (msgX 1 (valL ((bs.drop 4).take 4)) (.slice (some ⟨w1.heap.size, 0, none⟩) 2 2) nilV) 35)).heap[w1.heap.size + 1]? = some (.cells (msgX 1 (valL ((bs.drop 4).take 4)) (.slice (some ⟨w1.heap.size, 0, none⟩) 2 2) nilV) 35 (0, 0))) := by
    have := heap_alloc_new (w1.alloc (.cells #[.int .u64 t, .int .u64 c] 76)) (.cells (msgX 1 (valL ((bs.drop 4).take 4)) (.slice (some ⟨w1.heap.size, 0, none⟩) 2 2) nilV) 35)
    rw [World.size_alloc] at this
    exact this
  have hs1 : Hid (w.heap.size < w1.heap.size) := (Array.getElem?_eq_some_iff.1 HH1.out).1
  have HHr : Hid (((w1.alloc (.cells #[.int .u64 t, .int .u64 c] 76)).alloc (.cells (msgX 1 (valL ((bs.drop 4).take 4)) (.slice (some ⟨w1.heap.size, 0, none⟩) 2 2) nilV) 35)).heap[w.heap.size]? = some (.cells (msgX 0 0 nilV nilV) 35 (0, 0))) := ((below_alloc2 _).block _ (by have := hs1.out; simp; omega)).trans (((below_alloc2 _).block _ hs1.out).trans HH1.out)
  have HN3 : Hid (Ints .u64 ((w1.alloc (.cells #[.int .u64 t, .int .u64 c] 76)).alloc (.cells (msgX 1 (valL ((bs.drop 4).take 4)) (.slice (some ⟨w1.heap.size, 0, none⟩) 2 2) nilV) 35)) (.slice (some ⟨w1.heap.size, 0, none⟩) 2 2) [t, c]) := (Ints.lit .u64 w1 76 [t, c] _ rfl (by simp) huv.out.wf).alloc _
  have hs3 : Hid (w1.heap.size + 1 < ((w1.alloc (.cells #[.int .u64 t, .int .u64 c] 76)).alloc (.cells (msgX 1 (valL ((bs.drop 4).take 4)) (.slice (some ⟨w1.heap.size, 0, none⟩) 2 2) nilV) 35)).heap.size) := by show _ < _; simp
  go_wp2_with fail
  generalize ((w1.alloc (.cells #[.int .u64 t, .int .u64 c] 76)).alloc (.cells (msgX 1 (valL ((bs.drop 4).take 4)) (.slice (some ⟨w1.heap.size, 0, none⟩) 2 2) nilV) 35)) = w3 at HB3 HHp HHr HN3 hs3 ⊢
  have HX3 := Lib.hid (HX.out.below HB3.out)
  have n3 : w3.cell? ⟨w1.heap.size + 1, 3, none⟩ = some nilV := cell_heap HHp.out 3
  go_region_law (refine step_append_sl (by rfl) _ _ _ (by rfl) w3.heap.size 5 (.int .u8 0) 1 1 Try.underlying24 info_u8 rfl (by omega) nilV 0 [] (by rfl) ⟨rfl, .inl ⟨rfl, rfl⟩⟩ (.slice (some ⟨b, off, none⟩) (64) cap) (64) ((bs.take (64)).map (Value.int .u8)) (by rfl) (by rw [List.length_map, hml.out]; try omega) (sl_take (HX3.out.below (below_drewN (Below.refl _ _) 1)) (by omega)) (ints_one _ _) (by unfold maxLen; omega) (by omega) (Nat.le_refl _) ?_
                 intro v' w4 hown1 hgrow1
                 rw [Nat.zero_add, List.nil_append] at hown1
                 have HO4 := Lib.hid hown1
                 have HB4 : Hid (Below w3.heap.size w3 w4) := (below_drewN (Below.refl _ _) 1).trans (below_of_grown hgrow1)
                 clear hown1 hgrow1
                 obtain ⟨a4, c4, rfl⟩ := own_slice HO4.out
                 have HP4 := Lib.hid ((HB4.out.block (w1.heap.size + 1) hs3.out).trans HHp.out)
                 have fz3 : w4.frozen? ⟨w1.heap.size + 1, 3, none⟩ = false := (by simp [World.frozen?, HP4.out])
                 have cc3 : w4.cell? ⟨w1.heap.size + 1, 3, none⟩ = some nilV := cell_heap HP4.out 3)
  have HP5 := Lib.hid ((heap_put HP4.out 3 (.slice a4 (64) c4)).trans (show _ = some (.cells (msgX 1 (valL ((bs.drop 4).take 4)) (.slice (some ⟨w1.heap.size, 0, none⟩) 2 2) (.slice a4 (64) c4)) 35 (0, 0)) from rfl))
  have HG5 : Hid (w4.grownBy (w4.setCell ⟨w1.heap.size + 1, 3, none⟩ (.slice a4 (64) c4)) (some (w1.heap.size + 1))) := grown_put _ _ _ _
  have h31 : w.heap.size < w3.heap.size := by have := hs1.out; have := hs3.out; omega
  have HR5 := Lib.hid ((HG5.out.block w.heap.size (by have := HB4.out.size; omega) (by have := hs1.out; intro e; injection e; omega)).trans ((HB4.out.block w.heap.size h31).trans HHr.out))
  have HB5 : Hid (Below w.heap.size w (w4.setCell ⟨w1.heap.size + 1, 3, none⟩ (.slice a4 (64) c4))) := below_row (HB3.out.trans (HB4.out.mono HB3.out.size)) (by have := HB4.out.size; omega) HG5.out (by have := hs1.out; omega)
  have HN5 : Hid (Ints .u64 (w4.setCell ⟨w1.heap.size + 1, 3, none⟩ (.slice a4 (64) c4)) (.slice (some ⟨w1.heap.size, 0, none⟩) 2 2) [t, c]) := (HN3.out.below HB4.out).grown HG5.out (fun k e e' => by have e : w1.heap.size = k := (by injection e); injection e' with e'; omega)
  have HD5 : Hid (Ints .u8 (w4.setCell ⟨w1.heap.size + 1, 3, none⟩ (.slice a4 (64) c4)) (.slice a4 (64) c4) (bs.take (64))) := (Ints.of_own HO4.out huT.out.wf).grown HG5.out (fun k e e' => by have := (HO4.out.lt k e).1; have := hs3.out; injection e' with e'; omega)
  have hw1 : Hid (w.heap.size < w1.heap.size) := hs1
  have hw4 : Hid (∀ k, (Value.slice a4 (64) c4).ownBlock = some k → w.heap.size = k → False) := fun k e e' => by have := (HO4.out.lt k e).1; omega
  clear h31
  have k0 := cell_heap HP5.out 0
  have k1 := cell_heap HP5.out 1
  have k2 := cell_heap HP5.out 2
  have k3 := cell_heap HP5.out 3
  have k4 := cell_heap HP5.out 4
  have k5 := cell_heap HP5.out 5
  have k6 := cell_heap HP5.out 6
  have k7 := cell_heap HP5.out 7
  have k8 := cell_heap HP5.out 8
  have k9 := cell_heap HP5.out 9
  have k10 := cell_heap HP5.out 10
  have k11 := cell_heap HP5.out 11
  have k12 := cell_heap HP5.out 12
  have k13 := cell_heap HP5.out 13
  have k14 := cell_heap HP5.out 14
  clear n3 cc3 fz3
  generalize w4.setCell ⟨w1.heap.size + 1, 3, none⟩ (.slice a4 (64) c4) = w5 at *
  go_wp2_with (refine wpList_store_rowTo rfl 35 _ _ rfl rfl w.heap.size (msgX 1 (valL ((bs.drop 4).take 4)) (.slice (some ⟨w1.heap.size, 0, none⟩) 2 2) (.slice a4 (64) c4)) rfl rfl _ _ HR5.out (by kernel_rfl) (by kernel_rfl) (by kernel_rfl) ?_; have hheap := setRow_heap _ w.heap.size _ (msgX 1 (valL ((bs.drop 4).take 4)) (.slice (some ⟨w1.heap.size, 0, none⟩) 2 2) (.slice a4 (64) c4)) _ _ HR5.out; have HB9 := Lib.hid (below_setRow HB5.out (Nat.le_refl _) (msgX 1 (valL ((bs.drop 4).take 4)) (.slice (some ⟨w1.heap.size, 0, none⟩) 2 2) (.slice a4 (64) c4))))
  refine bodyPost_ret (results_row_tmp rfl _ _ w.heap.size _ _ _ _ rfl hheap Try.underlying35 rfl (by kernel_rfl)) rfl ?_
  refine ⟨_, _, rfl, ints_setRow HN5.out (fun k e => ?_) _, ints_setRow HD5.out (fun k e => ?_) _, HB9.out⟩
  · have e' : w1.heap.size = k := by injection e
    have := hw1.out
    omega
  · exact fun e' => hw4.out k e e'.symm

theorem for_ref_y2s (va : Value) (bs : List Int) (e : Int) (w : World) (h : Ints .u8 w va bs) (hl : bs.length ≤ 3000) (h0 : (pairS e).2 = true) (h1 : 1 < bs.length) (h2 : bs.getD 1 0 ≠ 1) (h8 : bs.length < 8) (hs : ¬ 64 < bs.length) :
    Calls Try.prog 26 #[va, .int .i64 e] w fun r w' => ∃ vn vd, r = .returned (.tuple #[.agg (msgX 1 (hdOf bs).1.x vn vd), .bool true]) ∧ Ints .u64 w' vn [(pairS e).1.1, (pairS e).1.2] ∧ Ints .u8 w' vd (bs.take 64) ∧ Below w.heap.size w w' := by
  have _ := hs
  have HP := fun w => Lib.hid (ref_pair e w)
  have hbd := pairS_bd h0
  rw [h0] at HP
  generalize (pairS e).1.1 = t at HP hbd ⊢
  generalize (pairS e).1.2 = c at HP hbd ⊢
  obtain ⟨t1, t2, c1, c2⟩ := hbd
  have x1 : IntKind.wrap .u64 t = t := wrap_u64 (by omega) (by omega)
  have x2 : IntKind.wrap .u64 c = c := wrap_u64 (by omega) (by omega)
  have huv : Hid (U64 [t, c]) := fun z hz => by simp at hz; omega
  have hm3 : bs.take 64 = bs.take (bs.length) := by rw [List.take_of_length_le (show bs.length ≤ 64 by omega), List.take_of_length_le (Nat.le_refl _)]
  rw [hm3]
  clear hm3
  have hml : Hid ((bs.take (bs.length)).length = bs.length) := by show _ = _; rw [List.length_take]; omega
  have hu := h.u8
  have huT : Hid (U8 (bs.take (bs.length))) := fun z hz => hu z (List.mem_of_mem_take hz)
  rw [xid_of.1 h8]
  have HX := Lib.hid h
  obtain ⟨a, cap, b, off, rfl, hlc, hcm, hnone, ha, hc⟩ := h.open
  have hlc' : (bs.length : Int) ≤ cap := by omega
  have hs64 : ¬ (64 : Int) < bs.length := by omega
  have h8' : ¬ (8 : Int) ≤ bs.length := by omega
  obtain rfl := ha (by omega)
  have hbl : b < w.heap.size := World.block_lt_of_cell? _ _ (hc 1 h1)
  have hlt' : (1 : Int) < bs.length := by omega
  have hne : (bs.getD 1 0 == 1) = false := by simpa using h2
  have hc1 := hc 1 h1
  clear h2
  obtain ⟨z, hz⟩ : ∃ z, bs.getD 1 0 = z := ⟨_, rfl⟩
  rw [hz] at hc1 hne
  have hc1 := Lib.hid hc1
  clear hz
  clear h hu ha hc h0 hnone
  go_enter Try.func26, Try.ntmps26
  go_wp2_with fail
  (with_reducible refine (HP _).out.mono ?_)
  rintro e1 w1 ⟨rfl, hb⟩
  have HB1 := Lib.hid (below1 hb)
  have HH1 := Lib.hid ((hb.block w.heap.size (by simp)).trans (heap_alloc_new _ _))
  have d1 : w1.cell? ⟨b, off + 1, none⟩ = some (.int .u8 z) := (HB1.out.cell (p := ⟨b, off + 1, none⟩) hbl).trans hc1.out
  clear hb
  have HB3 : Hid (Below w.heap.size w ((w1.alloc (.cells #[.int .u64 t, .int .u64 c] 76)).alloc (.cells (msgX 1 0 (.slice (some ⟨w1.heap.size, 0, none⟩) 2 2) nilV) 35))) := (HB1.out.alloc HB1.out.size _).alloc (by have := HB1.out.size; simp; omega) _
  have HHp : Hid (((w1.alloc (.cells #[.int .u64 t, .int .u64 c] 76)).alloc (.cells (msgX 1 0 (.slice (some ⟨w1.heap.size, 0, none⟩) 2 2) nilV) 35)).heap[w1.heap.size + 1]? = some (.cells (msgX 1 0 (.slice (some ⟨w1.heap.size, 0, none⟩) 2 2) nilV) 35 (0, 0))) := by
    have := heap_alloc_new (w1.alloc (.cells #[.int .u64 t, .int .u64 c] 76)) (.cells (msgX 1 0 (.slice (some ⟨w1.heap.size, 0, none⟩) 2 2) nilV) 35)
    rw [World.size_alloc] at this
    exact this
  have hs1 : Hid (w.heap.size < w1.heap.size) := (Array.getElem?_eq_some_iff.1 HH1.out).1
  have HHr : Hid (((w1.alloc (.cells #[.int .u64 t, .int .u64 c] 76)).alloc (.cells (msgX 1 0 (.slice (some ⟨w1.heap.size, 0, none⟩) 2 2) nilV) 35)).heap[w.heap.size]? = some (.cells (msgX 0 0 nilV nilV) 35 (0, 0))) := ((below_alloc2 _).block _ (by have := hs1.out; simp; omega)).trans (((below_alloc2 _).block _ hs1.out).trans HH1.out)
  have HN3 : Hid (Ints .u64 ((w1.alloc (.cells #[.int .u64 t, .int .u64 c] 76)).alloc (.cells (msgX 1 0 (.slice (some ⟨w1.heap.size, 0, none⟩) 2 2) nilV) 35)) (.slice (some ⟨w1.heap.size, 0, none⟩) 2 2) [t, c]) := (Ints.lit .u64 w1 76 [t, c] _ rfl (by simp) huv.out.wf).alloc _
  have hs3 : Hid (w1.heap.size + 1 < ((w1.alloc (.cells #[.int .u64 t, .int .u64 c] 76)).alloc (.cells (msgX 1 0 (.slice (some ⟨w1.heap.size, 0, none⟩) 2 2) nilV) 35)).heap.size) := by show _ < _; simp
  go_wp2_with fail
  generalize ((w1.alloc (.cells #[.int .u64 t, .int .u64 c] 76)).alloc (.cells (msgX 1 0 (.slice (some ⟨w1.heap.size, 0, none⟩) 2 2) nilV) 35)) = w3 at HB3 HHp HHr HN3 hs3 ⊢
  have HX3 := Lib.hid (HX.out.below HB3.out)
  have n3 : w3.cell? ⟨w1.heap.size + 1, 3, none⟩ = some nilV := cell_heap HHp.out 3
  go_region_law (refine step_append_sl (by rfl) _ _ _ (by rfl) w3.heap.size 5 (.int .u8 0) 1 1 Try.underlying24 info_u8 rfl (by omega) nilV 0 [] (by rfl) ⟨rfl, .inl ⟨rfl, rfl⟩⟩ (.slice (some ⟨b, off, none⟩) (bs.length) cap) (bs.length) ((bs.take (bs.length)).map (Value.int .u8)) (by rfl) (by rw [List.length_map, hml.out]; try omega) (sl_take (HX3.out.below (below_drewN (Below.refl _ _) 1)) (by omega)) (ints_one _ _) (by unfold maxLen; omega) (by omega) (Nat.le_refl _) ?_
                 intro v' w4 hown1 hgrow1
                 rw [Nat.zero_add, List.nil_append] at hown1
                 have HO4 := Lib.hid hown1
                 have HB4 : Hid (Below w3.heap.size w3 w4) := (below_drewN (Below.refl _ _) 1).trans (below_of_grown hgrow1)
                 clear hown1 hgrow1
                 obtain ⟨a4, c4, rfl⟩ := own_slice HO4.out
                 have HP4 := Lib.hid ((HB4.out.block (w1.heap.size + 1) hs3.out).trans HHp.out)
                 have fz3 : w4.frozen? ⟨w1.heap.size + 1, 3, none⟩ = false := (by simp [World.frozen?, HP4.out])
                 have cc3 : w4.cell? ⟨w1.heap.size + 1, 3, none⟩ = some nilV := cell_heap HP4.out 3)
  have HP5 := Lib.hid ((heap_put HP4.out 3 (.slice a4 (bs.length) c4)).trans (show _ = some (.cells (msgX 1 0 (.slice (some ⟨w1.heap.size, 0, none⟩) 2 2) (.slice a4 (bs.length) c4)) 35 (0, 0)) from rfl))
  have HG5 : Hid (w4.grownBy (w4.setCell ⟨w1.heap.size + 1, 3, none⟩ (.slice a4 (bs.length) c4)) (some (w1.heap.size + 1))) := grown_put _ _ _ _
  have h31 : w.heap.size < w3.heap.size := by have := hs1.out; have := hs3.out; omega
  have HR5 := Lib.hid ((HG5.out.block w.heap.size (by have := HB4.out.size; omega) (by have := hs1.out; intro e; injection e; omega)).trans ((HB4.out.block w.heap.size h31).trans HHr.out))
  have HB5 : Hid (Below w.heap.size w (w4.setCell ⟨w1.heap.size + 1, 3, none⟩ (.slice a4 (bs.length) c4))) := below_row (HB3.out.trans (HB4.out.mono HB3.out.size)) (by have := HB4.out.size; omega) HG5.out (by have := hs1.out; omega)
  have HN5 : Hid (Ints .u64 (w4.setCell ⟨w1.heap.size + 1, 3, none⟩ (.slice a4 (bs.length) c4)) (.slice (some ⟨w1.heap.size, 0, none⟩) 2 2) [t, c]) := (HN3.out.below HB4.out).grown HG5.out (fun k e e' => by have e : w1.heap.size = k := (by injection e); injection e' with e'; omega)
  have HD5 : Hid (Ints .u8 (w4.setCell ⟨w1.heap.size + 1, 3, none⟩ (.slice a4 (bs.length) c4)) (.slice a4 (bs.length) c4) (bs.take (bs.length))) := (Ints.of_own HO4.out huT.out.wf).grown HG5.out (fun k e e' => by have := (HO4.out.lt k e).1; have := hs3.out; injection e' with e'; omega)
  have hw1 : Hid (w.heap.size < w1.heap.size) := hs1
  have hw4 : Hid (∀ k, (Value.slice a4 (bs.length) c4).ownBlock = some k → w.heap.size = k → False) := fun k e e' => by have := (HO4.out.lt k e).1; omega
  clear h31
  have k0 := cell_heap HP5.out 0
  have k1 := cell_heap HP5.out 1
  have k2 := cell_heap HP5.out 2
  have k3 := cell_heap HP5.out 3
  have k4 := cell_heap HP5.out 4
  have k5 := cell_heap HP5.out 5
  have k6 := cell_heap HP5.out 6
  have k7 := cell_heap HP5.out 7
  have k8 := cell_heap HP5.out 8
  have k9 := cell_heap HP5.out 9
  have k10 := cell_heap HP5.out 10
  have k11 := cell_heap HP5.out 11
  have k12 := cell_heap HP5.out 12
  have k13 := cell_heap HP5.out 13
  have k14 := cell_heap HP5.out 14
  clear n3 cc3 fz3
  generalize w4.setCell ⟨w1.heap.size + 1, 3, none⟩ (.slice a4 (bs.length) c4) = w5 at *
  go_wp2_with (refine wpList_store_rowTo rfl 35 _ _ rfl rfl w.heap.size (msgX 1 0 (.slice (some ⟨w1.heap.size, 0, none⟩) 2 2) (.slice a4 (bs.length) c4)) rfl rfl _ _ HR5.out (by kernel_rfl) (by kernel_rfl) (by kernel_rfl) ?_; have hheap := setRow_heap _ w.heap.size _ (msgX 1 0 (.slice (some ⟨w1.heap.size, 0, none⟩) 2 2) (.slice a4 (bs.length) c4)) _ _ HR5.out; have HB9 := Lib.hid (below_setRow HB5.out (Nat.le_refl _) (msgX 1 0 (.slice (some ⟨w1.heap.size, 0, none⟩) 2 2) (.slice a4 (bs.length) c4))))
  refine bodyPost_ret (results_row_tmp rfl _ _ w.heap.size _ _ _ _ rfl hheap Try.underlying35 rfl (by kernel_rfl)) rfl ?_
  refine ⟨_, _, rfl, ints_setRow HN5.out (fun k e => ?_) _, ints_setRow HD5.out (fun k e => ?_) _, HB9.out⟩
  · have e' : w1.heap.size = k := by injection e
    have := hw1.out
    omega
  · exact fun e' => hw4.out k e e'.symm

theorem for_ref_y1 (va : Value) (bs : List Int) (e : Int) (w : World) (h : Ints .u8 w va bs) (hl : bs.length ≤ 3000) (h0 : (pairS e).2 = true) (h1 : bs.length = 1) (h8 : bs.length < 8) (hs : ¬ 64 < bs.length) :
    Calls Try.prog 26 #[va, .int .i64 e] w fun r w' => ∃ vn vd, r = .returned (.tuple #[.agg (msgX 1 (hdOf bs).1.x vn vd), .bool true]) ∧ Ints .u64 w' vn [(pairS e).1.1, (pairS e).1.2] ∧ Ints .u8 w' vd (bs.take 64) ∧ Below w.heap.size w w' := by
  have _ := hs
  have HP := fun w => Lib.hid (ref_pair e w)
  have hbd := pairS_bd h0
  rw [h0] at HP
  generalize (pairS e).1.1 = t at HP hbd ⊢
  generalize (pairS e).1.2 = c at HP hbd ⊢
  obtain ⟨t1, t2, c1, c2⟩ := hbd
  have x1 : IntKind.wrap .u64 t = t := wrap_u64 (by omega) (by omega)
  have x2 : IntKind.wrap .u64 c = c := wrap_u64 (by omega) (by omega)
  have huv : Hid (U64 [t, c]) := fun z hz => by simp at hz; omega
  have hm3 : bs.take 64 = bs.take (bs.length) := by rw [List.take_of_length_le (show bs.length ≤ 64 by omega), List.take_of_length_le (Nat.le_refl _)]
  rw [hm3]
  clear hm3
  have hml : Hid ((bs.take (bs.length)).length = bs.length) := by show _ = _; rw [List.length_take]; omega
  have hu := h.u8
  have huT : Hid (U8 (bs.take (bs.length))) := fun z hz => hu z (List.mem_of_mem_take hz)
  rw [xid_of.1 h8]
  have HX := Lib.hid h
  obtain ⟨a, cap, b, off, rfl, hlc, hcm, hnone, ha, hc⟩ := h.open
  have hlc' : (bs.length : Int) ≤ cap := by omega
  have hs64 : ¬ (64 : Int) < bs.length := by omega
  have h8' : ¬ (8 : Int) ≤ bs.length := by omega
  have hlt' : ¬ (1 : Int) < bs.length := by omega
  obtain rfl := ha (by omega)
  replace h1 := Lib.hid h1
  clear h hu ha hc h0 hnone
  go_enter Try.func26, Try.ntmps26
  go_wp2_with fail
  (with_reducible refine (HP _).out.mono ?_)
  rintro e1 w1 ⟨rfl, hb⟩
  have HB1 := Lib.hid (below1 hb)
  have HH1 := Lib.hid ((hb.block w.heap.size (by simp)).trans (heap_alloc_new _ _))
  clear hb
  have HB3 : Hid (Below w.heap.size w ((w1.alloc (.cells #[.int .u64 t, .int .u64 c] 76)).alloc (.cells (msgX 1 0 (.slice (some ⟨w1.heap.size, 0, none⟩) 2 2) nilV) 35))) := (HB1.out.alloc HB1.out.size _).alloc (by have := HB1.out.size; simp; omega) _
  have HHp : Hid (((w1.alloc (.cells #[.int .u64 t, .int .u64 c] 76)).alloc (.cells (msgX 1 0 (.slice (some ⟨w1.heap.size, 0, none⟩) 2 2) nilV) 35)).heap[w1.heap.size + 1]? = some (.cells (msgX 1 0 (.slice (some ⟨w1.heap.size, 0, none⟩) 2 2) nilV) 35 (0, 0))) := by
    have := heap_alloc_new (w1.alloc (.cells #[.int .u64 t, .int .u64 c] 76)) (.cells (msgX 1 0 (.slice (some ⟨w1.heap.size, 0, none⟩) 2 2) nilV) 35)
    rw [World.size_alloc] at this
    exact this
  have hs1 : Hid (w.heap.size < w1.heap.size) := (Array.getElem?_eq_some_iff.1 HH1.out).1
  have HHr : Hid (((w1.alloc (.cells #[.int .u64 t, .int .u64 c] 76)).alloc (.cells (msgX 1 0 (.slice (some ⟨w1.heap.size, 0, none⟩) 2 2) nilV) 35)).heap[w.heap.size]? = some (.cells (msgX 0 0 nilV nilV) 35 (0, 0))) := ((below_alloc2 _).block _ (by have := hs1.out; simp; omega)).trans (((below_alloc2 _).block _ hs1.out).trans HH1.out)
  have HN3 : Hid (Ints .u64 ((w1.alloc (.cells #[.int .u64 t, .int .u64 c] 76)).alloc (.cells (msgX 1 0 (.slice (some ⟨w1.heap.size, 0, none⟩) 2 2) nilV) 35)) (.slice (some ⟨w1.heap.size, 0, none⟩) 2 2) [t, c]) := (Ints.lit .u64 w1 76 [t, c] _ rfl (by simp) huv.out.wf).alloc _
  have hs3 : Hid (w1.heap.size + 1 < ((w1.alloc (.cells #[.int .u64 t, .int .u64 c] 76)).alloc (.cells (msgX 1 0 (.slice (some ⟨w1.heap.size, 0, none⟩) 2 2) nilV) 35)).heap.size) := by show _ < _; simp
  go_wp2_with fail
  generalize ((w1.alloc (.cells #[.int .u64 t, .int .u64 c] 76)).alloc (.cells (msgX 1 0 (.slice (some ⟨w1.heap.size, 0, none⟩) 2 2) nilV) 35)) = w3 at HB3 HHp HHr HN3 hs3 ⊢
  have HX3 := Lib.hid (HX.out.below HB3.out)
  have n3 : w3.cell? ⟨w1.heap.size + 1, 3, none⟩ = some nilV := cell_heap HHp.out 3
  go_region_law (refine step_append_sl (by rfl) _ _ _ (by rfl) w3.heap.size 5 (.int .u8 0) 1 1 Try.underlying24 info_u8 rfl (by omega) nilV 0 [] (by rfl) ⟨rfl, .inl ⟨rfl, rfl⟩⟩ (.slice (some ⟨b, off, none⟩) (bs.length) cap) (bs.length) ((bs.take (bs.length)).map (Value.int .u8)) (by rfl) (by rw [List.length_map, hml.out]; try omega) (sl_take (HX3.out.below (below_drewN (Below.refl _ _) 1)) (by omega)) (ints_one _ _) (by unfold maxLen; omega) (by omega) (Nat.le_refl _) ?_
                 intro v' w4 hown1 hgrow1
                 rw [Nat.zero_add, List.nil_append] at hown1
                 have HO4 := Lib.hid hown1
                 have HB4 : Hid (Below w3.heap.size w3 w4) := (below_drewN (Below.refl _ _) 1).trans (below_of_grown hgrow1)
                 clear hown1 hgrow1
                 obtain ⟨a4, c4, rfl⟩ := own_slice HO4.out
                 have HP4 := Lib.hid ((HB4.out.block (w1.heap.size + 1) hs3.out).trans HHp.out)
                 have fz3 : w4.frozen? ⟨w1.heap.size + 1, 3, none⟩ = false := (by simp [World.frozen?, HP4.out])
                 have cc3 : w4.cell? ⟨w1.heap.size + 1, 3, none⟩ = some nilV := cell_heap HP4.out 3)
  have HP5 := Lib.hid ((heap_put HP4.out 3 (.slice a4 (bs.length) c4)).trans (show _ = some (.cells (msgX 1 0 (.slice (some ⟨w1.heap.size, 0, none⟩) 2 2) (.slice a4 (bs.length) c4)) 35 (0, 0)) from rfl))
  have HG5 : Hid (w4.grownBy (w4.setCell ⟨w1.heap.size + 1, 3, none⟩ (.slice a4 (bs.length) c4)) (some (w1.heap.size + 1))) := grown_put _ _ _ _
  have h31 : w.heap.size < w3.heap.size := by have := hs1.out; have := hs3.out; omega
  have HR5 := Lib.hid ((HG5.out.block w.heap.size (by have := HB4.out.size; omega) (by have := hs1.out; intro e; injection e; omega)).trans ((HB4.out.block w.heap.size h31).trans HHr.out))
  have HB5 : Hid (Below w.heap.size w (w4.setCell ⟨w1.heap.size + 1, 3, none⟩ (.slice a4 (bs.length) c4))) := below_row (HB3.out.trans (HB4.out.mono HB3.out.size)) (by have := HB4.out.size; omega) HG5.out (by have := hs1.out; omega)
  have HN5 : Hid (Ints .u64 (w4.setCell ⟨w1.heap.size + 1, 3, none⟩ (.slice a4 (bs.length) c4)) (.slice (some ⟨w1.heap.size, 0, none⟩) 2 2) [t, c]) := (HN3.out.below HB4.out).grown HG5.out (fun k e e' => by have e : w1.heap.size = k := (by injection e); injection e' with e'; omega)
  have HD5 : Hid (Ints .u8 (w4.setCell ⟨w1.heap.size + 1, 3, none⟩ (.slice a4 (bs.length) c4)) (.slice a4 (bs.length) c4) (bs.take (bs.length))) := (Ints.of_own HO4.out huT.out.wf).grown HG5.out (fun k e e' => by have := (HO4.out.lt k e).1; have := hs3.out; injection e' with e'; omega)
  have hw1 : Hid (w.heap.size < w1.heap.size) := hs1
  have hw4 : Hid (∀ k, (Value.slice a4 (bs.length) c4).ownBlock = some k → w.heap.size = k → False) := fun k e e' => by have := (HO4.out.lt k e).1; omega
  clear h31
  have k0 := cell_heap HP5.out 0
  have k1 := cell_heap HP5.out 1
  have k2 := cell_heap HP5.out 2
  have k3 := cell_heap HP5.out 3
  have k4 := cell_heap HP5.out 4
  have k5 := cell_heap HP5.out 5
  have k6 := cell_heap HP5.out 6
  have k7 := cell_heap HP5.out 7
  have k8 := cell_heap HP5.out 8
  have k9 := cell_heap HP5.out 9
  have k10 := cell_heap HP5.out 10
  have k11 := cell_heap HP5.out 11
  have k12 := cell_heap HP5.out 12
  have k13 := cell_heap HP5.out 13
  have k14 := cell_heap HP5.out 14
  clear n3 cc3 fz3
  generalize w4.setCell ⟨w1.heap.size + 1, 3, none⟩ (.slice a4 (bs.length) c4) = w5 at *
  go_wp2_with (refine wpList_store_rowTo rfl 35 _ _ rfl rfl w.heap.size (msgX 1 0 (.slice (some ⟨w1.heap.size, 0, none⟩) 2 2) (.slice a4 (bs.length) c4)) rfl rfl _ _ HR5.out (by kernel_rfl) (by kernel_rfl) (by kernel_rfl) ?_; have hheap := setRow_heap _ w.heap.size _ (msgX 1 0 (.slice (some ⟨w1.heap.size, 0, none⟩) 2 2) (.slice a4 (bs.length) c4)) _ _ HR5.out; have HB9 := Lib.hid (below_setRow HB5.out (Nat.le_refl _) (msgX 1 0 (.slice (some ⟨w1.heap.size, 0, none⟩) 2 2) (.slice a4 (bs.length) c4))))
  refine bodyPost_ret (results_row_tmp rfl _ _ w.heap.size _ _ _ _ rfl hheap Try.underlying35 rfl (by kernel_rfl)) rfl ?_
  refine ⟨_, _, rfl, ints_setRow HN5.out (fun k e => ?_) _, ints_setRow HD5.out (fun k e => ?_) _, HB9.out⟩
  · have e' : w1.heap.size = k := by injection e
    have := hw1.out
    omega
  · exact fun e' => hw4.out k e e'.symm

theorem for_ref_y0n (va : Value) (bs : List Int) (e : Int) (w : World) (h : Ints .u8 w va bs) (hl : bs.length ≤ 3000) (h0 : (pairS e).2 = true) (h1 : bs.length = 0) (hno : HNo va) (h8 : bs.length < 8) (hs : ¬ 64 < bs.length) :
    Calls Try.prog 26 #[va, .int .i64 e] w fun r w' => ∃ vn vd, r = .returned (.tuple #[.agg (msgX 1 (hdOf bs).1.x vn vd), .bool true]) ∧ Ints .u64 w' vn [(pairS e).1.1, (pairS e).1.2] ∧ Ints .u8 w' vd (bs.take 64) ∧ Below w.heap.size w w' := by
  obtain rfl : bs = [] := List.eq_nil_of_length_eq_zero h1
  have _ := hs
  have HP := fun w => Lib.hid (ref_pair e w)
  have hbd := pairS_bd h0
  rw [h0] at HP
  generalize (pairS e).1.1 = t at HP hbd ⊢
  generalize (pairS e).1.2 = c at HP hbd ⊢
  obtain ⟨t1, t2, c1, c2⟩ := hbd
  have x1 : IntKind.wrap .u64 t = t := wrap_u64 (by omega) (by omega)
  have x2 : IntKind.wrap .u64 c = c := wrap_u64 (by omega) (by omega)
  have huv : Hid (U64 [t, c]) := fun z hz => by simp at hz; omega
  have hm3 : ([] : List Int).take 64 = ([] : List Int).take (0) := rfl
  rw [hm3]
  clear hm3
  have hml : Hid ((([] : List Int).take (0)).length = 0) := by show _ = _; rw [List.length_take]; omega
  have hu := h.u8
  have huT : Hid (U8 (([] : List Int).take (0))) := fun z hz => hu z (List.mem_of_mem_take hz)
  rw [xid_of.1 h8]
  have HX := Lib.hid h
  obtain ⟨a, cap, b, off, rfl, hlc, hcm, hnone, ha, hc⟩ := h.open
  have hlc' : (0 : Int) ≤ cap := by omega
  have hs64 : ¬ (64 : Int) < 0 := by omega
  have h8' : ¬ (8 : Int) ≤ 0 := by omega
  have hlt' : ¬ (1 : Int) < 0 := by omega
  have hno : a = none := hno _ _ _ rfl
  subst hno
  obtain rfl : cap = 0 := hnone rfl
  have hlc' : (0 : Int) ≤ 0 := by omega
  replace h1 := Lib.hid h1
  clear h hu ha hc h0 hnone
  go_enter Try.func26, Try.ntmps26
  go_wp2_with fail
  (with_reducible refine (HP _).out.mono ?_)
  rintro e1 w1 ⟨rfl, hb⟩
  have HB1 := Lib.hid (below1 hb)
  have HH1 := Lib.hid ((hb.block w.heap.size (by simp)).trans (heap_alloc_new _ _))
  clear hb
  have HB3 : Hid (Below w.heap.size w ((w1.alloc (.cells #[.int .u64 t, .int .u64 c] 76)).alloc (.cells (msgX 1 0 (.slice (some ⟨w1.heap.size, 0, none⟩) 2 2) nilV) 35))) := (HB1.out.alloc HB1.out.size _).alloc (by have := HB1.out.size; simp; omega) _
  have HHp : Hid (((w1.alloc (.cells #[.int .u64 t, .int .u64 c] 76)).alloc (.cells (msgX 1 0 (.slice (some ⟨w1.heap.size, 0, none⟩) 2 2) nilV) 35)).heap[w1.heap.size + 1]? = some (.cells (msgX 1 0 (.slice (some ⟨w1.heap.size, 0, none⟩) 2 2) nilV) 35 (0, 0))) := by
    have := heap_alloc_new (w1.alloc (.cells #[.int .u64 t, .int .u64 c] 76)) (.cells (msgX 1 0 (.slice (some ⟨w1.heap.size, 0, none⟩) 2 2) nilV) 35)
    rw [World.size_alloc] at this
    exact this
  have hs1 : Hid (w.heap.size < w1.heap.size) := (Array.getElem?_eq_some_iff.1 HH1.out).1
  have HHr : Hid (((w1.alloc (.cells #[.int .u64 t, .int .u64 c] 76)).alloc (.cells (msgX 1 0 (.slice (some ⟨w1.heap.size, 0, none⟩) 2 2) nilV) 35)).heap[w.heap.size]? = some (.cells (msgX 0 0 nilV nilV) 35 (0, 0))) := ((below_alloc2 _).block _ (by have := hs1.out; simp; omega)).trans (((below_alloc2 _).block _ hs1.out).trans HH1.out)
  have HN3 : Hid (Ints .u64 ((w1.alloc (.cells #[.int .u64 t, .int .u64 c] 76)).alloc (.cells (msgX 1 0 (.slice (some ⟨w1.heap.size, 0, none⟩) 2 2) nilV) 35)) (.slice (some ⟨w1.heap.size, 0, none⟩) 2 2) [t, c]) := (Ints.lit .u64 w1 76 [t, c] _ rfl (by simp) huv.out.wf).alloc _
  have hs3 : Hid (w1.heap.size + 1 < ((w1.alloc (.cells #[.int .u64 t, .int .u64 c] 76)).alloc (.cells (msgX 1 0 (.slice (some ⟨w1.heap.size, 0, none⟩) 2 2) nilV) 35)).heap.size) := by show _ < _; simp
  go_wp2_with fail
  generalize ((w1.alloc (.cells #[.int .u64 t, .int .u64 c] 76)).alloc (.cells (msgX 1 0 (.slice (some ⟨w1.heap.size, 0, none⟩) 2 2) nilV) 35)) = w3 at HB3 HHp HHr HN3 hs3 ⊢
  have HX3 := Lib.hid (HX.out.below HB3.out)
  have n3 : w3.cell? ⟨w1.heap.size + 1, 3, none⟩ = some nilV := cell_heap HHp.out 3
  go_region_law (refine step_append_sl (by rfl) _ _ _ (by rfl) w3.heap.size 5 (.int .u8 0) 1 1 Try.underlying24 info_u8 rfl (by omega) nilV 0 [] (by rfl) ⟨rfl, .inl ⟨rfl, rfl⟩⟩ (.slice none (0) 0) (0) ((([] : List Int).take (0)).map (Value.int .u8)) (by rfl) (by rw [List.length_map, hml.out]; try omega) (sl_take (HX3.out.below (below_drewN (Below.refl _ _) 1)) (by omega)) (ints_one _ _) (by unfold maxLen; omega) (by omega) (Nat.le_refl _) ?_
                 intro v' w4 hown1 hgrow1
                 rw [Nat.zero_add, List.nil_append] at hown1
                 have HO4 := Lib.hid hown1
                 have HB4 : Hid (Below w3.heap.size w3 w4) := (below_drewN (Below.refl _ _) 1).trans (below_of_grown hgrow1)
                 clear hown1 hgrow1
                 obtain ⟨a4, c4, rfl⟩ := own_slice HO4.out
                 have HP4 := Lib.hid ((HB4.out.block (w1.heap.size + 1) hs3.out).trans HHp.out)
                 have fz3 : w4.frozen? ⟨w1.heap.size + 1, 3, none⟩ = false := (by simp [World.frozen?, HP4.out])
                 have cc3 : w4.cell? ⟨w1.heap.size + 1, 3, none⟩ = some nilV := cell_heap HP4.out 3)
  have HP5 := Lib.hid ((heap_put HP4.out 3 (.slice a4 (0) c4)).trans (show _ = some (.cells (msgX 1 0 (.slice (some ⟨w1.heap.size, 0, none⟩) 2 2) (.slice a4 (0) c4)) 35 (0, 0)) from rfl))
  have HG5 : Hid (w4.grownBy (w4.setCell ⟨w1.heap.size + 1, 3, none⟩ (.slice a4 (0) c4)) (some (w1.heap.size + 1))) := grown_put _ _ _ _
  have h31 : w.heap.size < w3.heap.size := by have := hs1.out; have := hs3.out; omega
  have HR5 := Lib.hid ((HG5.out.block w.heap.size (by have := HB4.out.size; omega) (by have := hs1.out; intro e; injection e; omega)).trans ((HB4.out.block w.heap.size h31).trans HHr.out))
  have HB5 : Hid (Below w.heap.size w (w4.setCell ⟨w1.heap.size + 1, 3, none⟩ (.slice a4 (0) c4))) := below_row (HB3.out.trans (HB4.out.mono HB3.out.size)) (by have := HB4.out.size; omega) HG5.out (by have := hs1.out; omega)
  have HN5 : Hid (Ints .u64 (w4.setCell ⟨w1.heap.size + 1, 3, none⟩ (.slice a4 (0) c4)) (.slice (some ⟨w1.heap.size, 0, none⟩) 2 2) [t, c]) := (HN3.out.below HB4.out).grown HG5.out (fun k e e' => by have e : w1.heap.size = k := (by injection e); injection e' with e'; omega)
  have HD5 : Hid (Ints .u8 (w4.setCell ⟨w1.heap.size + 1, 3, none⟩ (.slice a4 (0) c4)) (.slice a4 (0) c4) (([] : List Int).take (0))) := (Ints.of_own HO4.out huT.out.wf).grown HG5.out (fun k e e' => by have := (HO4.out.lt k e).1; have := hs3.out; injection e' with e'; omega)
  have hw1 : Hid (w.heap.size < w1.heap.size) := hs1
  have hw4 : Hid (∀ k, (Value.slice a4 (0) c4).ownBlock = some k → w.heap.size = k → False) := fun k e e' => by have := (HO4.out.lt k e).1; omega
  clear h31
  have k0 := cell_heap HP5.out 0
  have k1 := cell_heap HP5.out 1
  have k2 := cell_heap HP5.out 2
  have k3 := cell_heap HP5.out 3
  have k4 := cell_heap HP5.out 4
  have k5 := cell_heap HP5.out 5
  have k6 := cell_heap HP5.out 6
  have k7 := cell_heap HP5.out 7
  have k8 := cell_heap HP5.out 8
  have k9 := cell_heap HP5.out 9
  have k10 := cell_heap HP5.out 10
  have k11 := cell_heap HP5.out 11
  have k12 := cell_heap HP5.out 12
  have k13 := cell_heap HP5.out 13
  have k14 := cell_heap HP5.out 14
  clear n3 cc3 fz3
  generalize w4.setCell ⟨w1.heap.size + 1, 3, none⟩ (.slice a4 (0) c4) = w5 at *
  go_wp2_with (refine wpList_store_rowTo rfl 35 _ _ rfl rfl w.heap.size (msgX 1 0 (.slice (some ⟨w1.heap.size, 0, none⟩) 2 2) (.slice a4 (0) c4)) rfl rfl _ _ HR5.out (by kernel_rfl) (by kernel_rfl) (by kernel_rfl) ?_; have hheap := setRow_heap _ w.heap.size _ (msgX 1 0 (.slice (some ⟨w1.heap.size, 0, none⟩) 2 2) (.slice a4 (0) c4)) _ _ HR5.out; have HB9 := Lib.hid (below_setRow HB5.out (Nat.le_refl _) (msgX 1 0 (.slice (some ⟨w1.heap.size, 0, none⟩) 2 2) (.slice a4 (0) c4))))
  refine bodyPost_ret (results_row_tmp rfl _ _ w.heap.size _ _ _ _ rfl hheap Try.underlying35 rfl (by kernel_rfl)) rfl ?_
  refine ⟨_, _, rfl, ints_setRow HN5.out (fun k e => ?_) _, ints_setRow HD5.out (fun k e => ?_) _, HB9.out⟩
  · have e' : w1.heap.size = k := by injection e
    have := hw1.out
    omega
  · exact fun e' => hw4.out k e e'.symm

theorem for_ref_y0s (va : Value) (bs : List Int) (e : Int) (w : World) (h : Ints .u8 w va bs) (hl : bs.length ≤ 3000) (h0 : (pairS e).2 = true) (h1 : bs.length = 0) (hno : HSo va) (h8 : bs.length < 8) (hs : ¬ 64 < bs.length) :
    Calls Try.prog 26 #[va, .int .i64 e] w fun r w' => ∃ vn vd, r = .returned (.tuple #[.agg (msgX 1 (hdOf bs).1.x vn vd), .bool true]) ∧ Ints .u64 w' vn [(pairS e).1.1, (pairS e).1.2] ∧ Ints .u8 w' vd (bs.take 64) ∧ Below w.heap.size w w' := by
  have _ := hs
  have HP := fun w => Lib.hid (ref_pair e w)
  have hbd := pairS_bd h0
  rw [h0] at HP
  generalize (pairS e).1.1 = t at HP hbd ⊢
  generalize (pairS e).1.2 = c at HP hbd ⊢
  obtain ⟨t1, t2, c1, c2⟩ := hbd
  have x1 : IntKind.wrap .u64 t = t := wrap_u64 (by omega) (by omega)
  have x2 : IntKind.wrap .u64 c = c := wrap_u64 (by omega) (by omega)
  have huv : Hid (U64 [t, c]) := fun z hz => by simp at hz; omega
  have hm3 : bs.take 64 = bs.take (bs.length) := by rw [List.take_of_length_le (show bs.length ≤ 64 by omega), List.take_of_length_le (Nat.le_refl _)]
  rw [hm3]
  clear hm3
  have hml : Hid ((bs.take (bs.length)).length = bs.length) := by show _ = _; rw [List.length_take]; omega
  have hu := h.u8
  have huT : Hid (U8 (bs.take (bs.length))) := fun z hz => hu z (List.mem_of_mem_take hz)
  rw [xid_of.1 h8]
  have HX := Lib.hid h
  obtain ⟨a, cap, b, off, rfl, hlc, hcm, hnone, ha, hc⟩ := h.open
  have hlc' : (bs.length : Int) ≤ cap := by omega
  have hs64 : ¬ (64 : Int) < bs.length := by omega
  have h8' : ¬ (8 : Int) ≤ bs.length := by omega
  have hlt' : ¬ (1 : Int) < bs.length := by omega
  obtain ⟨⟨b', off', s'⟩, rfl⟩ := (show ∃ x, a = some x from hno _ _ _ rfl)
  replace h1 := Lib.hid h1
  clear h hu ha hc h0 hnone
  go_enter Try.func26, Try.ntmps26
  go_wp2_with fail
  (with_reducible refine (HP _).out.mono ?_)
  rintro e1 w1 ⟨rfl, hb⟩
  have HB1 := Lib.hid (below1 hb)
  have HH1 := Lib.hid ((hb.block w.heap.size (by simp)).trans (heap_alloc_new _ _))
  clear hb
  have HB3 : Hid (Below w.heap.size w ((w1.alloc (.cells #[.int .u64 t, .int .u64 c] 76)).alloc (.cells (msgX 1 0 (.slice (some ⟨w1.heap.size, 0, none⟩) 2 2) nilV) 35))) := (HB1.out.alloc HB1.out.size _).alloc (by have := HB1.out.size; simp; omega) _
  have HHp : Hid (((w1.alloc (.cells #[.int .u64 t, .int .u64 c] 76)).alloc (.cells (msgX 1 0 (.slice (some ⟨w1.heap.size, 0, none⟩) 2 2) nilV) 35)).heap[w1.heap.size + 1]? = some (.cells (msgX 1 0 (.slice (some ⟨w1.heap.size, 0, none⟩) 2 2) nilV) 35 (0, 0))) := by
    have := heap_alloc_new (w1.alloc (.cells #[.int .u64 t, .int .u64 c] 76)) (.cells (msgX 1 0 (.slice (some ⟨w1.heap.size, 0, none⟩) 2 2) nilV) 35)
    rw [World.size_alloc] at this
    exact this
  have hs1 : Hid (w.heap.size < w1.heap.size) := (Array.getElem?_eq_some_iff.1 HH1.out).1
  have HHr : Hid (((w1.alloc (.cells #[.int .u64 t, .int .u64 c] 76)).alloc (.cells (msgX 1 0 (.slice (some ⟨w1.heap.size, 0, none⟩) 2 2) nilV) 35)).heap[w.heap.size]? = some (.cells (msgX 0 0 nilV nilV) 35 (0, 0))) := ((below_alloc2 _).block _ (by have := hs1.out; simp; omega)).trans (((below_alloc2 _).block _ hs1.out).trans HH1.out)
  have HN3 : Hid (Ints .u64 ((w1.alloc (.cells #[.int .u64 t, .int .u64 c] 76)).alloc (.cells (msgX 1 0 (.slice (some ⟨w1.heap.size, 0, none⟩) 2 2) nilV) 35)) (.slice (some ⟨w1.heap.size, 0, none⟩) 2 2) [t, c]) := (Ints.lit .u64 w1 76 [t, c] _ rfl (by simp) huv.out.wf).alloc _
  have hs3 : Hid (w1.heap.size + 1 < ((w1.alloc (.cells #[.int .u64 t, .int .u64 c] 76)).alloc (.cells (msgX 1 0 (.slice (some ⟨w1.heap.size, 0, none⟩) 2 2) nilV) 35)).heap.size) := by show _ < _; simp
  go_wp2_with fail
  generalize ((w1.alloc (.cells #[.int .u64 t, .int .u64 c] 76)).alloc (.cells (msgX 1 0 (.slice (some ⟨w1.heap.size, 0, none⟩) 2 2) nilV) 35)) = w3 at HB3 HHp HHr HN3 hs3 ⊢
  have HX3 := Lib.hid (HX.out.below HB3.out)
  have n3 : w3.cell? ⟨w1.heap.size + 1, 3, none⟩ = some nilV := cell_heap HHp.out 3
  go_region_law (refine step_append_sl (by rfl) _ _ _ (by rfl) w3.heap.size 5 (.int .u8 0) 1 1 Try.underlying24 info_u8 rfl (by omega) nilV 0 [] (by rfl) ⟨rfl, .inl ⟨rfl, rfl⟩⟩ (.slice (some ⟨b', off', s'⟩) (bs.length) cap) (bs.length) ((bs.take (bs.length)).map (Value.int .u8)) (by rfl) (by rw [List.length_map, hml.out]; try omega) (sl_take (HX3.out.below (below_drewN (Below.refl _ _) 1)) (by omega)) (ints_one _ _) (by unfold maxLen; omega) (by omega) (Nat.le_refl _) ?_
                 intro v' w4 hown1 hgrow1
                 rw [Nat.zero_add, List.nil_append] at hown1
                 have HO4 := Lib.hid hown1
                 have HB4 : Hid (Below w3.heap.size w3 w4) := (below_drewN (Below.refl _ _) 1).trans (below_of_grown hgrow1)
                 clear hown1 hgrow1
                 obtain ⟨a4, c4, rfl⟩ := own_slice HO4.out
                 have HP4 := Lib.hid ((HB4.out.block (w1.heap.size + 1) hs3.out).trans HHp.out)
                 have fz3 : w4.frozen? ⟨w1.heap.size + 1, 3, none⟩ = false := (by simp [World.frozen?, HP4.out])
                 have cc3 : w4.cell? ⟨w1.heap.size + 1, 3, none⟩ = some nilV := cell_heap HP4.out 3)
  have HP5 := Lib.hid ((heap_put HP4.out 3 (.slice a4 (bs.length) c4)).trans (show _ = some (.cells (msgX 1 0 (.slice (some ⟨w1.heap.size, 0, none⟩) 2 2) (.slice a4 (bs.length) c4)) 35 (0, 0)) from rfl))
  have HG5 : Hid (w4.grownBy (w4.setCell ⟨w1.heap.size + 1, 3, none⟩ (.slice a4 (bs.length) c4)) (some (w1.heap.size + 1))) := grown_put _ _ _ _
  have h31 : w.heap.size < w3.heap.size := by have := hs1.out; have := hs3.out; omega
  have HR5 := Lib.hid ((HG5.out.block w.heap.size (by have := HB4.out.size; omega) (by have := hs1.out; intro e; injection e; omega)).trans ((HB4.out.block w.heap.size h31).trans HHr.out))
  have HB5 : Hid (Below w.heap.size w (w4.setCell ⟨w1.heap.size + 1, 3, none⟩ (.slice a4 (bs.length) c4))) := below_row (HB3.out.trans (HB4.out.mono HB3.out.size)) (by have := HB4.out.size; omega) HG5.out (by have := hs1.out; omega)
  have HN5 : Hid (Ints .u64 (w4.setCell ⟨w1.heap.size + 1, 3, none⟩ (.slice a4 (bs.length) c4)) (.slice (some ⟨w1.heap.size, 0, none⟩) 2 2) [t, c]) := (HN3.out.below HB4.out).grown HG5.out (fun k e e' => by have e : w1.heap.size = k := (by injection e); injection e' with e'; omega)
  have HD5 : Hid (Ints .u8 (w4.setCell ⟨w1.heap.size + 1, 3, none⟩ (.slice a4 (bs.length) c4)) (.slice a4 (bs.length) c4) (bs.take (bs.length))) := (Ints.of_own HO4.out huT.out.wf).grown HG5.out (fun k e e' => by have := (HO4.out.lt k e).1; have := hs3.out; injection e' with e'; omega)
  have hw1 : Hid (w.heap.size < w1.heap.size) := hs1
  have hw4 : Hid (∀ k, (Value.slice a4 (bs.length) c4).ownBlock = some k → w.heap.size = k → False) := fun k e e' => by have := (HO4.out.lt k e).1; omega
  clear h31
  have k0 := cell_heap HP5.out 0
  have k1 := cell_heap HP5.out 1
  have k2 := cell_heap HP5.out 2
  have k3 := cell_heap HP5.out 3
  have k4 := cell_heap HP5.out 4
  have k5 := cell_heap HP5.out 5
  have k6 := cell_heap HP5.out 6
  have k7 := cell_heap HP5.out 7
  have k8 := cell_heap HP5.out 8
  have k9 := cell_heap HP5.out 9
  have k10 := cell_heap HP5.out 10
  have k11 := cell_heap HP5.out 11
  have k12 := cell_heap HP5.out 12
  have k13 := cell_heap HP5.out 13
  have k14 := cell_heap HP5.out 14
  clear n3 cc3 fz3
  generalize w4.setCell ⟨w1.heap.size + 1, 3, none⟩ (.slice a4 (bs.length) c4) = w5 at *
  go_wp2_with (refine wpList_store_rowTo rfl 35 _ _ rfl rfl w.heap.size (msgX 1 0 (.slice (some ⟨w1.heap.size, 0, none⟩) 2 2) (.slice a4 (bs.length) c4)) rfl rfl _ _ HR5.out (by kernel_rfl) (by kernel_rfl) (by kernel_rfl) ?_; have hheap := setRow_heap _ w.heap.size _ (msgX 1 0 (.slice (some ⟨w1.heap.size, 0, none⟩) 2 2) (.slice a4 (bs.length) c4)) _ _ HR5.out; have HB9 := Lib.hid (below_setRow HB5.out (Nat.le_refl _) (msgX 1 0 (.slice (some ⟨w1.heap.size, 0, none⟩) 2 2) (.slice a4 (bs.length) c4))))
  refine bodyPost_ret (results_row_tmp rfl _ _ w.heap.size _ _ _ _ rfl hheap Try.underlying35 rfl (by kernel_rfl)) rfl ?_
  refine ⟨_, _, rfl, ints_setRow HN5.out (fun k e => ?_) _, ints_setRow HD5.out (fun k e => ?_) _, HB9.out⟩
  · have e' : w1.heap.size = k := by injection e
    have := hw1.out
    omega
  · exact fun e' => hw4.out k e e'.symm

theorem for_ref_yes (va : Value) (bs : List Int) (e : Int) (w : World) (h : Ints .u8 w va bs) (hl : bs.length ≤ 3000) (hyes : forB bs e = true) :
    Calls Try.prog 26 #[va, .int .i64 e] w fun r w' => ∃ vn vd, r = .returned (.tuple #[.agg (msgX 1 (hdOf bs).1.x vn vd), .bool true]) ∧ Ints .u64 w' vn [(pairS e).1.1, (pairS e).1.2] ∧ Ints .u8 w' vd (bs.take 64) ∧ Below w.heap.size w w' := by
  rw [forB, Bool.and_eq_true] at hyes
  by_cases h1 : 1 < bs.length
  · have h2 : bs.getD 1 0 ≠ 1 := by simpa [h1] using hyes.2
    by_cases h8 : 8 ≤ bs.length
    · by_cases hs : 64 < bs.length
      · exact for_ref_y2b va bs e w h hl hyes.1 h1 h2 h8 hs
      · exact for_ref_y2e va bs e w h hl hyes.1 h1 h2 h8 hs
    · exact for_ref_y2s va bs e w h hl hyes.1 h1 h2 (by omega) (by omega)
  by_cases h10 : bs.length = 1
  · exact for_ref_y1 va bs e w h hl hyes.1 h10 (by omega) (by omega)
  · obtain ⟨a, cap, b, off, rfl, -⟩ := h.open
    cases a with
    | none => exact for_ref_y0n _ bs e w h hl hyes.1 (by omega) (fun a n c e => by injection e with e; exact e.symm) (by omega) (by omega)
    | some x => exact for_ref_y0s _ bs e w h hl hyes.1 (by omega) (fun a n c e => by injection e with e; exact ⟨x, e.symm⟩) (by omega) (by omega)
end Go.Proofs.Ytfaklenclhljhaa
