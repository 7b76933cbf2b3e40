/- The walk of refuse.Body, of any message. Conditions: the data is not too long. -/
import Derived.Test.YtfaklenclhljhaaBodyA
import Derived.Test.YtfaklenclhljhaaRowH
import Derived.Test.YtfaklenclhljhaaRfD
namespace Go.Proofs.Ytfaklenclhljhaa
open Go.RowKit
set_option maxRecDepth 100000
set_option maxHeartbeats 4000000

/-- What is behind a message's head, and the error, of its type, its numbers, its data, and whether it has nothing else. -/
def bodyR (ty : Int) (nums ds : List Int) (bare : Bool) : List Int × Int :=
  if (rowR ty).2 = true ∧ (putS (rowR ty).1 nums).isSome = true ∧ bare = true then ((putS (rowR ty).1 nums).getD [] ++ ds, 0) else ([], 10001)

theorem rowR_put (ty : Int) (nums : List Int) : ((putS (rowR ty).1 nums).getD []).length ≤ 8 := by
  cases h : putS (rowR ty).1 nums with
  | none => simp
  | some bs =>
    rw [Option.getD_some, back_size h]
    rcases rowR_cases ty with h | h | h | h | h <;> (rw [h.2]; decide)

theorem bodyR_u8 (ty : Int) (nums : List Int) {ds : List Int} (h : U8 ds) : U8 (((putS (rowR ty).1 nums).getD []) ++ ds) := fun x hx => by
  rcases List.mem_append.1 hx with hx | hx
  · exact putS_u8 _ _ x hx
  · exact h x hx

theorem refuse_body_a (ty xid : Int) (v vd : Value) (nums ds : List Int) (L : Lens) (w : World) (h : Ints .u64 w v nums) (hd : Ints .u8 w vd ds) (hl : ds.length ≤ 3000) (his : (rowR ty).2 = false) :
    Calls Try.prog 21 #[.agg (msgL ty xid v vd L)] w fun e w' => ∃ vb, e = .returned (.tuple #[vb, .int .i64 (bodyR ty nums ds (bareL L)).2]) ∧ Ints .u8 w' vb (bodyR ty nums ds (bareL L)).1 ∧ Below w.heap.size w w' := by
  have h := Lib.hid h
  have hd := Lib.hid hd
  have hp8 := rowR_put ty nums
  obtain ⟨a, cap, b, off, rfl, -⟩ := h.out.open
  obtain ⟨ad, cd, bd, od, rfl, -⟩ := hd.out.open
  have HBx : Hid (Below w.heap.size w (w.alloc (.cells (msgL ty xid (.slice a nums.length cap) (.slice ad ds.length cd) L) 35))) := below_alloc2 _
  have HX := Lib.hid (h.out.below HBx.out)
  have HPt : ∀ (w : World) (v1 v2 : Value), Ints .i64 w v1 (rowR ty).1 → Ints .u64 w v2 nums → Hid (Calls Try.prog 41 #[v1, v2] w (fun e w' => ∃ v', e = .returned (.tuple #[v', .bool (putS (rowR ty).1 nums).isSome]) ∧ w'.ownsRow w.heap.size 5 1 v' ((putS (rowR ty).1 nums).getD []).length (((putS (rowR ty).1 nums).getD []).map (Value.int .u8)) ∧ Below w.heap.size w w')) := fun w v1 v2 i1 i2 => row_put v1 v2 _ _ w i1 i2
  have HR := fun w => Lib.hid (refuse_rows ty w)
  have hq : bodyR ty nums ds (bareL L) = ([], 10001) := if_neg (by simp [his])
  rw [hq]
  clear hq
  rw [his] at HR
  go_enter Try.func21, Try.ntmps21
  go_wp2_with fail
  (with_reducible refine (HR _).out.mono ?_)
  rintro e w1 ⟨vw, rfl, hw, hb⟩
  have HB1 := Lib.hid hb
  have HH1 := (hb.block w.heap.size (by simp)).trans (heap_alloc_new _ _)
  have c2 := cell_heap HH1 2
  have HP1 := HPt _ _ _ hw (HX.out.below hb)
  clear hb hw HH1
  go_wp2_with fail
  (with_reducible refine HP1.out.mono ?_)
  rintro e w2 ⟨vb, rfl, hvo, hb⟩
  have HS12 : Hid (w1.heap.size ≤ w2.heap.size) := hb.size
  have HB2 := Lib.hid (HB1.out.trans (hb.mono HB1.out.size))
  have HH2 := (HB2.out.block w.heap.size (by simp)).trans (heap_alloc_new _ _)
  have c3 := cell_heap HH2 3
  have HO2 := Lib.hid hvo
  have HD2 := Lib.hid (hd.out.below (below1 HB2.out))
  have HH2 := Lib.hid HH2
  obtain ⟨ab, cb, rfl⟩ := own_slice hvo
  clear hb hvo
  go_wp2_with (at_builtin
               refine wpList_append_sl rfl (.tmp 21) (.tmp 23) _ rfl w1.heap.size 5 (.int .u8 0) 1 1 Try.underlying24 info_u8 rfl (by decide) (.slice ab ((putS (rowR ty).1 nums).getD []).length cb) ((putS (rowR ty).1 nums).getD []).length _ rfl HO2.out (.slice ad ds.length cd) ds.length (ds.map (Value.int .u8)) rfl (by simp) HD2.out.1 (ints_one _ _) (by unfold maxLen; omega) (by omega) HS12.out ?_
               intro v3 w3 hown3 hgrow3 hv3
               have HB3 : Hid (Below (w.alloc (.cells (msgL ty xid (.slice a nums.length cap) (.slice ad ds.length cd) L) 35)).heap.size (w.alloc (.cells (msgL ty xid (.slice a nums.length cap) (.slice ad ds.length cd) L) 35)) w3) := own_grown HB2.out HB2.out.size (own_base HO2.out (by have := HB1.out.size; exact this)) hgrow3 rfl
               rw [← List.map_append] at hown3
               have HV3 := Lib.hid (Ints.of_own hown3 (bodyR_u8 ty nums HD2.out.u8).wf)
               have hv30 : Hid (∀ b', v3.ownBlock = some b' → w.heap.size = b' → False) := fun b' e e' => (by have := (hown3.lt b' e).1; have := HB1.out.size; simp at this; omega)
               obtain ⟨a3, c3', rfl⟩ := own_slice hown3
               clear hown3 hgrow3 hv3
               have HH3 := (HB3.out.block w.heap.size (by simp)).trans (heap_alloc_new _ _)
               have fz2 : w3.frozen? ⟨w.heap.size, 2, none⟩ = false := (by simp [World.frozen?, HH3])
               have cc2 := cell_heap HH3 2
               have HH4 := (heap_put HH3 2 nilV).trans (show _ = some (.cells (msgL ty xid nilV (.slice ad ds.length cd) L) 35 (0, 0)) from rfl)
               have fz3 : (w3.setCell ⟨w.heap.size, 2, none⟩ nilV).frozen? ⟨w.heap.size, 3, none⟩ = false := (by simp only [World.frozen?, HH4]; rfl)
               have cc3 := cell_heap HH4 3
               have HH5 := Lib.hid ((heap_put HH4 3 nilV).trans (show _ = some (.cells (msgL ty xid nilV nilV L) 35 (0, 0)) from rfl))
               have HB5 : Hid (Below w.heap.size w ((w3.setCell ⟨w.heap.size, 2, none⟩ nilV).setCell ⟨w.heap.size, 3, none⟩ nilV)) := below_row (below_row (below1 HB3.out) (below1 HB3.out).size (grown_put _ _ _ _) (Nat.le_refl _)) (by have := (below1 HB3.out).size; have := (grown_put w3 w.heap.size 2 nilV).size; exact Nat.le_trans ‹w.heap.size ≤ w3.heap.size› this) (grown_put _ _ _ _) (Nat.le_refl _)
               have HV5 : Hid (Ints .u8 ((w3.setCell ⟨w.heap.size, 2, none⟩ nilV).setCell ⟨w.heap.size, 3, none⟩ nilV) (.slice a3 (((putS (rowR ty).1 nums).getD []).length + ds.length) c3') (((putS (rowR ty).1 nums).getD []) ++ ds)) := (HV3.out.grown (grown_put _ _ _ _) (fun b' e e' => by injection e' with e'; exact hv30.out b' e e'.symm)).grown (grown_put _ _ _ _) (fun b' e e' => by injection e' with e'; exact hv30.out b' e e'.symm)
               have k0 := cell_heap HH5.out 0
               have k1 := cell_heap HH5.out 1
               have k2 := cell_heap HH5.out 2
               have k3 := cell_heap HH5.out 3
               have k4 := cell_heap HH5.out 4
               have k5 := cell_heap HH5.out 5
               have k6 := cell_heap HH5.out 6
               have k7 := cell_heap HH5.out 7
               have k8 := cell_heap HH5.out 8
               have k9 := cell_heap HH5.out 9
               have k10 := cell_heap HH5.out 10
               have k11 := cell_heap HH5.out 11
               have k12 := cell_heap HH5.out 12
               have k13 := cell_heap HH5.out 13
               have k14 := cell_heap HH5.out 14
               clear HH3 HH4)
  go_ret2
  exact ⟨_, rfl, Ints.nil _ _, HB5.out⟩

theorem refuse_body_b (ty xid : Int) (v vd : Value) (nums ds : List Int) (L : Lens) (w : World) (h : Ints .u64 w v nums) (hd : Ints .u8 w vd ds) (hl : ds.length ≤ 3000) (his : (rowR ty).2 = true) (hok : (putS (rowR ty).1 nums).isSome = false) :
    Calls Try.prog 21 #[.agg (msgL ty xid v vd L)] w fun e w' => ∃ vb, e = .returned (.tuple #[vb, .int .i64 (bodyR ty nums ds (bareL L)).2]) ∧ Ints .u8 w' vb (bodyR ty nums ds (bareL L)).1 ∧ Below w.heap.size w w' := by
  have h := Lib.hid h
  have hd := Lib.hid hd
  have hp8 := rowR_put ty nums
  obtain ⟨a, cap, b, off, rfl, -⟩ := h.out.open
  obtain ⟨ad, cd, bd, od, rfl, -⟩ := hd.out.open
  have HBx : Hid (Below w.heap.size w (w.alloc (.cells (msgL ty xid (.slice a nums.length cap) (.slice ad ds.length cd) L) 35))) := below_alloc2 _
  have HX := Lib.hid (h.out.below HBx.out)
  have HPt : ∀ (w : World) (v1 v2 : Value), Ints .i64 w v1 (rowR ty).1 → Ints .u64 w v2 nums → Hid (Calls Try.prog 41 #[v1, v2] w (fun e w' => ∃ v', e = .returned (.tuple #[v', .bool (putS (rowR ty).1 nums).isSome]) ∧ w'.ownsRow w.heap.size 5 1 v' ((putS (rowR ty).1 nums).getD []).length (((putS (rowR ty).1 nums).getD []).map (Value.int .u8)) ∧ Below w.heap.size w w')) := fun w v1 v2 i1 i2 => row_put v1 v2 _ _ w i1 i2
  have HR := fun w => Lib.hid (refuse_rows ty w)
  rw [his] at HR
  have hq : bodyR ty nums ds (bareL L) = ([], 10001) := if_neg (by simp [hok])
  rw [hq]
  clear hq
  rw [hok] at HPt
  go_enter Try.func21, Try.ntmps21
  go_wp2_with fail
  (with_reducible refine (HR _).out.mono ?_)
  rintro e w1 ⟨vw, rfl, hw, hb⟩
  have HB1 := Lib.hid hb
  have HH1 := (hb.block w.heap.size (by simp)).trans (heap_alloc_new _ _)
  have c2 := cell_heap HH1 2
  have HP1 := HPt _ _ _ hw (HX.out.below hb)
  clear hb hw HH1
  go_wp2_with fail
  (with_reducible refine HP1.out.mono ?_)
  rintro e w2 ⟨vb, rfl, hvo, hb⟩
  have HS12 : Hid (w1.heap.size ≤ w2.heap.size) := hb.size
  have HB2 := Lib.hid (HB1.out.trans (hb.mono HB1.out.size))
  have HH2 := (HB2.out.block w.heap.size (by simp)).trans (heap_alloc_new _ _)
  have c3 := cell_heap HH2 3
  have HO2 := Lib.hid hvo
  have HD2 := Lib.hid (hd.out.below (below1 HB2.out))
  have HH2 := Lib.hid HH2
  obtain ⟨ab, cb, rfl⟩ := own_slice hvo
  clear hb hvo
  go_wp2_with (at_builtin
               refine wpList_append_sl rfl (.tmp 21) (.tmp 23) _ rfl w1.heap.size 5 (.int .u8 0) 1 1 Try.underlying24 info_u8 rfl (by decide) (.slice ab ((putS (rowR ty).1 nums).getD []).length cb) ((putS (rowR ty).1 nums).getD []).length _ rfl HO2.out (.slice ad ds.length cd) ds.length (ds.map (Value.int .u8)) rfl (by simp) HD2.out.1 (ints_one _ _) (by unfold maxLen; omega) (by omega) HS12.out ?_
               intro v3 w3 hown3 hgrow3 hv3
               have HB3 : Hid (Below (w.alloc (.cells (msgL ty xid (.slice a nums.length cap) (.slice ad ds.length cd) L) 35)).heap.size (w.alloc (.cells (msgL ty xid (.slice a nums.length cap) (.slice ad ds.length cd) L) 35)) w3) := own_grown HB2.out HB2.out.size (own_base HO2.out (by have := HB1.out.size; exact this)) hgrow3 rfl
               rw [← List.map_append] at hown3
               have HV3 := Lib.hid (Ints.of_own hown3 (bodyR_u8 ty nums HD2.out.u8).wf)
               have hv30 : Hid (∀ b', v3.ownBlock = some b' → w.heap.size = b' → False) := fun b' e e' => (by have := (hown3.lt b' e).1; have := HB1.out.size; simp at this; omega)
               obtain ⟨a3, c3', rfl⟩ := own_slice hown3
               clear hown3 hgrow3 hv3
               have HH3 := (HB3.out.block w.heap.size (by simp)).trans (heap_alloc_new _ _)
               have fz2 : w3.frozen? ⟨w.heap.size, 2, none⟩ = false := (by simp [World.frozen?, HH3])
               have cc2 := cell_heap HH3 2
               have HH4 := (heap_put HH3 2 nilV).trans (show _ = some (.cells (msgL ty xid nilV (.slice ad ds.length cd) L) 35 (0, 0)) from rfl)
               have fz3 : (w3.setCell ⟨w.heap.size, 2, none⟩ nilV).frozen? ⟨w.heap.size, 3, none⟩ = false := (by simp only [World.frozen?, HH4]; rfl)
               have cc3 := cell_heap HH4 3
               have HH5 := Lib.hid ((heap_put HH4 3 nilV).trans (show _ = some (.cells (msgL ty xid nilV nilV L) 35 (0, 0)) from rfl))
               have HB5 : Hid (Below w.heap.size w ((w3.setCell ⟨w.heap.size, 2, none⟩ nilV).setCell ⟨w.heap.size, 3, none⟩ nilV)) := below_row (below_row (below1 HB3.out) (below1 HB3.out).size (grown_put _ _ _ _) (Nat.le_refl _)) (by have := (below1 HB3.out).size; have := (grown_put w3 w.heap.size 2 nilV).size; exact Nat.le_trans ‹w.heap.size ≤ w3.heap.size› this) (grown_put _ _ _ _) (Nat.le_refl _)
               have HV5 : Hid (Ints .u8 ((w3.setCell ⟨w.heap.size, 2, none⟩ nilV).setCell ⟨w.heap.size, 3, none⟩ nilV) (.slice a3 (((putS (rowR ty).1 nums).getD []).length + ds.length) c3') (((putS (rowR ty).1 nums).getD []) ++ ds)) := (HV3.out.grown (grown_put _ _ _ _) (fun b' e e' => by injection e' with e'; exact hv30.out b' e e'.symm)).grown (grown_put _ _ _ _) (fun b' e e' => by injection e' with e'; exact hv30.out b' e e'.symm)
               have k0 := cell_heap HH5.out 0
               have k1 := cell_heap HH5.out 1
               have k2 := cell_heap HH5.out 2
               have k3 := cell_heap HH5.out 3
               have k4 := cell_heap HH5.out 4
               have k5 := cell_heap HH5.out 5
               have k6 := cell_heap HH5.out 6
               have k7 := cell_heap HH5.out 7
               have k8 := cell_heap HH5.out 8
               have k9 := cell_heap HH5.out 9
               have k10 := cell_heap HH5.out 10
               have k11 := cell_heap HH5.out 11
               have k12 := cell_heap HH5.out 12
               have k13 := cell_heap HH5.out 13
               have k14 := cell_heap HH5.out 14
               clear HH3 HH4)
  go_ret2
  exact ⟨_, rfl, Ints.nil _ _, HB5.out⟩

theorem refuse_body_c (ty xid : Int) (v vd : Value) (nums ds : List Int) (L : Lens) (w : World) (h : Ints .u64 w v nums) (hd : Ints .u8 w vd ds) (hl : ds.length ≤ 3000) (his : (rowR ty).2 = true) (hok : (putS (rowR ty).1 nums).isSome = true) (hbr : bareL L = false) :
    Calls Try.prog 21 #[.agg (msgL ty xid v vd L)] w fun e w' => ∃ vb, e = .returned (.tuple #[vb, .int .i64 (bodyR ty nums ds (bareL L)).2]) ∧ Ints .u8 w' vb (bodyR ty nums ds (bareL L)).1 ∧ Below w.heap.size w w' := by
  have h := Lib.hid h
  have hd := Lib.hid hd
  have hp8 := rowR_put ty nums
  obtain ⟨a, cap, b, off, rfl, -⟩ := h.out.open
  obtain ⟨ad, cd, bd, od, rfl, -⟩ := hd.out.open
  have HBx : Hid (Below w.heap.size w (w.alloc (.cells (msgL ty xid (.slice a nums.length cap) (.slice ad ds.length cd) L) 35))) := below_alloc2 _
  have HX := Lib.hid (h.out.below HBx.out)
  have HPt : ∀ (w : World) (v1 v2 : Value), Ints .i64 w v1 (rowR ty).1 → Ints .u64 w v2 nums → Hid (Calls Try.prog 41 #[v1, v2] w (fun e w' => ∃ v', e = .returned (.tuple #[v', .bool (putS (rowR ty).1 nums).isSome]) ∧ w'.ownsRow w.heap.size 5 1 v' ((putS (rowR ty).1 nums).getD []).length (((putS (rowR ty).1 nums).getD []).map (Value.int .u8)) ∧ Below w.heap.size w w')) := fun w v1 v2 i1 i2 => row_put v1 v2 _ _ w i1 i2
  have HR := fun w => Lib.hid (refuse_rows ty w)
  rw [his] at HR
  rw [hbr]
  have hq : bodyR ty nums ds (false) = ([], 10001) := if_neg (by simp)
  rw [hq]
  clear hq
  rw [hok] at HPt
  go_enter Try.func21, Try.ntmps21
  go_wp2_with fail
  (with_reducible refine (HR _).out.mono ?_)
  rintro e w1 ⟨vw, rfl, hw, hb⟩
  have HB1 := Lib.hid hb
  have HH1 := (hb.block w.heap.size (by simp)).trans (heap_alloc_new _ _)
  have c2 := cell_heap HH1 2
  have HP1 := HPt _ _ _ hw (HX.out.below hb)
  clear hb hw HH1
  go_wp2_with fail
  (with_reducible refine HP1.out.mono ?_)
  rintro e w2 ⟨vb, rfl, hvo, hb⟩
  have HS12 : Hid (w1.heap.size ≤ w2.heap.size) := hb.size
  have HB2 := Lib.hid (HB1.out.trans (hb.mono HB1.out.size))
  have HH2 := (HB2.out.block w.heap.size (by simp)).trans (heap_alloc_new _ _)
  have c3 := cell_heap HH2 3
  have HO2 := Lib.hid hvo
  have HD2 := Lib.hid (hd.out.below (below1 HB2.out))
  have HH2 := Lib.hid HH2
  obtain ⟨ab, cb, rfl⟩ := own_slice hvo
  clear hb hvo
  go_wp2_with (at_builtin
               refine wpList_append_sl rfl (.tmp 21) (.tmp 23) _ rfl w1.heap.size 5 (.int .u8 0) 1 1 Try.underlying24 info_u8 rfl (by decide) (.slice ab ((putS (rowR ty).1 nums).getD []).length cb) ((putS (rowR ty).1 nums).getD []).length _ rfl HO2.out (.slice ad ds.length cd) ds.length (ds.map (Value.int .u8)) rfl (by simp) HD2.out.1 (ints_one _ _) (by unfold maxLen; omega) (by omega) HS12.out ?_
               intro v3 w3 hown3 hgrow3 hv3
               have HB3 : Hid (Below (w.alloc (.cells (msgL ty xid (.slice a nums.length cap) (.slice ad ds.length cd) L) 35)).heap.size (w.alloc (.cells (msgL ty xid (.slice a nums.length cap) (.slice ad ds.length cd) L) 35)) w3) := own_grown HB2.out HB2.out.size (own_base HO2.out (by have := HB1.out.size; exact this)) hgrow3 rfl
               rw [← List.map_append] at hown3
               have HV3 := Lib.hid (Ints.of_own hown3 (bodyR_u8 ty nums HD2.out.u8).wf)
               have hv30 : Hid (∀ b', v3.ownBlock = some b' → w.heap.size = b' → False) := fun b' e e' => (by have := (hown3.lt b' e).1; have := HB1.out.size; simp at this; omega)
               obtain ⟨a3, c3', rfl⟩ := own_slice hown3
               clear hown3 hgrow3 hv3
               have HH3 := (HB3.out.block w.heap.size (by simp)).trans (heap_alloc_new _ _)
               have fz2 : w3.frozen? ⟨w.heap.size, 2, none⟩ = false := (by simp [World.frozen?, HH3])
               have cc2 := cell_heap HH3 2
               have HH4 := (heap_put HH3 2 nilV).trans (show _ = some (.cells (msgL ty xid nilV (.slice ad ds.length cd) L) 35 (0, 0)) from rfl)
               have fz3 : (w3.setCell ⟨w.heap.size, 2, none⟩ nilV).frozen? ⟨w.heap.size, 3, none⟩ = false := (by simp only [World.frozen?, HH4]; rfl)
               have cc3 := cell_heap HH4 3
               have HH5 := Lib.hid ((heap_put HH4 3 nilV).trans (show _ = some (.cells (msgL ty xid nilV nilV L) 35 (0, 0)) from rfl))
               have HB5 : Hid (Below w.heap.size w ((w3.setCell ⟨w.heap.size, 2, none⟩ nilV).setCell ⟨w.heap.size, 3, none⟩ nilV)) := below_row (below_row (below1 HB3.out) (below1 HB3.out).size (grown_put _ _ _ _) (Nat.le_refl _)) (by have := (below1 HB3.out).size; have := (grown_put w3 w.heap.size 2 nilV).size; exact Nat.le_trans ‹w.heap.size ≤ w3.heap.size› this) (grown_put _ _ _ _) (Nat.le_refl _)
               have HV5 : Hid (Ints .u8 ((w3.setCell ⟨w.heap.size, 2, none⟩ nilV).setCell ⟨w.heap.size, 3, none⟩ nilV) (.slice a3 (((putS (rowR ty).1 nums).getD []).length + ds.length) c3') (((putS (rowR ty).1 nums).getD []) ++ ds)) := (HV3.out.grown (grown_put _ _ _ _) (fun b' e e' => by injection e' with e'; exact hv30.out b' e e'.symm)).grown (grown_put _ _ _ _) (fun b' e e' => by injection e' with e'; exact hv30.out b' e e'.symm)
               have k0 := cell_heap HH5.out 0
               have k1 := cell_heap HH5.out 1
               have k2 := cell_heap HH5.out 2
               have k3 := cell_heap HH5.out 3
               have k4 := cell_heap HH5.out 4
               have k5 := cell_heap HH5.out 5
               have k6 := cell_heap HH5.out 6
               have k7 := cell_heap HH5.out 7
               have k8 := cell_heap HH5.out 8
               have k9 := cell_heap HH5.out 9
               have k10 := cell_heap HH5.out 10
               have k11 := cell_heap HH5.out 11
               have k12 := cell_heap HH5.out 12
               have k13 := cell_heap HH5.out 13
               have k14 := cell_heap HH5.out 14
               clear HH3 HH4)
  have HL := Lib.hid (bare_go ty xid none 0 0 L ((w3.setCell ⟨w.heap.size, 2, none⟩ nilV).setCell ⟨w.heap.size, 3, none⟩ nilV))
  rw [hbr] at HL
  (with_reducible refine HL.out.mono ?_)
  rintro e w6 ⟨rfl, hb⟩
  have HB6 := Lib.hid (HB5.out.trans (hb.mono HB5.out.size))
  have HV6 := Lib.hid (HV5.out.below hb)
  clear hb
  go_wp2_with fail
  go_ret2
  exact ⟨_, rfl, Ints.nil _ _, HB6.out⟩

theorem refuse_body_e (ty xid : Int) (v vd : Value) (nums ds : List Int) (L : Lens) (w : World) (h : Ints .u64 w v nums) (hd : Ints .u8 w vd ds) (hl : ds.length ≤ 3000) (his : (rowR ty).2 = true) (hok : (putS (rowR ty).1 nums).isSome = true) (hbr : bareL L = true) :
    Calls Try.prog 21 #[.agg (msgL ty xid v vd L)] w fun e w' => ∃ vb, e = .returned (.tuple #[vb, .int .i64 (bodyR ty nums ds (bareL L)).2]) ∧ Ints .u8 w' vb (bodyR ty nums ds (bareL L)).1 ∧ Below w.heap.size w w' := by
  have h := Lib.hid h
  have hd := Lib.hid hd
  have hp8 := rowR_put ty nums
  obtain ⟨a, cap, b, off, rfl, -⟩ := h.out.open
  obtain ⟨ad, cd, bd, od, rfl, -⟩ := hd.out.open
  have HBx : Hid (Below w.heap.size w (w.alloc (.cells (msgL ty xid (.slice a nums.length cap) (.slice ad ds.length cd) L) 35))) := below_alloc2 _
  have HX := Lib.hid (h.out.below HBx.out)
  have HPt : ∀ (w : World) (v1 v2 : Value), Ints .i64 w v1 (rowR ty).1 → Ints .u64 w v2 nums → Hid (Calls Try.prog 41 #[v1, v2] w (fun e w' => ∃ v', e = .returned (.tuple #[v', .bool (putS (rowR ty).1 nums).isSome]) ∧ w'.ownsRow w.heap.size 5 1 v' ((putS (rowR ty).1 nums).getD []).length (((putS (rowR ty).1 nums).getD []).map (Value.int .u8)) ∧ Below w.heap.size w w')) := fun w v1 v2 i1 i2 => row_put v1 v2 _ _ w i1 i2
  have HR := fun w => Lib.hid (refuse_rows ty w)
  rw [his] at HR
  rw [hbr]
  have hq : bodyR ty nums ds true = (((putS (rowR ty).1 nums).getD []) ++ ds, 0) := if_pos ⟨his, hok, rfl⟩
  rw [hq]
  clear hq
  rw [hok] at HPt
  go_enter Try.func21, Try.ntmps21
  go_wp2_with fail
  (with_reducible refine (HR _).out.mono ?_)
  rintro e w1 ⟨vw, rfl, hw, hb⟩
  have HB1 := Lib.hid hb
  have HH1 := (hb.block w.heap.size (by simp)).trans (heap_alloc_new _ _)
  have c2 := cell_heap HH1 2
  have HP1 := HPt _ _ _ hw (HX.out.below hb)
  clear hb hw HH1
  go_wp2_with fail
  (with_reducible refine HP1.out.mono ?_)
  rintro e w2 ⟨vb, rfl, hvo, hb⟩
  have HS12 : Hid (w1.heap.size ≤ w2.heap.size) := hb.size
  have HB2 := Lib.hid (HB1.out.trans (hb.mono HB1.out.size))
  have HH2 := (HB2.out.block w.heap.size (by simp)).trans (heap_alloc_new _ _)
  have c3 := cell_heap HH2 3
  have HO2 := Lib.hid hvo
  have HD2 := Lib.hid (hd.out.below (below1 HB2.out))
  have HH2 := Lib.hid HH2
  obtain ⟨ab, cb, rfl⟩ := own_slice hvo
  clear hb hvo
  go_wp2_with (at_builtin
               refine wpList_append_sl rfl (.tmp 21) (.tmp 23) _ rfl w1.heap.size 5 (.int .u8 0) 1 1 Try.underlying24 info_u8 rfl (by decide) (.slice ab ((putS (rowR ty).1 nums).getD []).length cb) ((putS (rowR ty).1 nums).getD []).length _ rfl HO2.out (.slice ad ds.length cd) ds.length (ds.map (Value.int .u8)) rfl (by simp) HD2.out.1 (ints_one _ _) (by unfold maxLen; omega) (by omega) HS12.out ?_
               intro v3 w3 hown3 hgrow3 hv3
               have HB3 : Hid (Below (w.alloc (.cells (msgL ty xid (.slice a nums.length cap) (.slice ad ds.length cd) L) 35)).heap.size (w.alloc (.cells (msgL ty xid (.slice a nums.length cap) (.slice ad ds.length cd) L) 35)) w3) := own_grown HB2.out HB2.out.size (own_base HO2.out (by have := HB1.out.size; exact this)) hgrow3 rfl
               rw [← List.map_append] at hown3
               have HV3 := Lib.hid (Ints.of_own hown3 (bodyR_u8 ty nums HD2.out.u8).wf)
               have hv30 : Hid (∀ b', v3.ownBlock = some b' → w.heap.size = b' → False) := fun b' e e' => (by have := (hown3.lt b' e).1; have := HB1.out.size; simp at this; omega)
               obtain ⟨a3, c3', rfl⟩ := own_slice hown3
               clear hown3 hgrow3 hv3
               have HH3 := (HB3.out.block w.heap.size (by simp)).trans (heap_alloc_new _ _)
               have fz2 : w3.frozen? ⟨w.heap.size, 2, none⟩ = false := (by simp [World.frozen?, HH3])
               have cc2 := cell_heap HH3 2
               have HH4 := (heap_put HH3 2 nilV).trans (show _ = some (.cells (msgL ty xid nilV (.slice ad ds.length cd) L) 35 (0, 0)) from rfl)
               have fz3 : (w3.setCell ⟨w.heap.size, 2, none⟩ nilV).frozen? ⟨w.heap.size, 3, none⟩ = false := (by simp only [World.frozen?, HH4]; rfl)
               have cc3 := cell_heap HH4 3
               have HH5 := Lib.hid ((heap_put HH4 3 nilV).trans (show _ = some (.cells (msgL ty xid nilV nilV L) 35 (0, 0)) from rfl))
               have HB5 : Hid (Below w.heap.size w ((w3.setCell ⟨w.heap.size, 2, none⟩ nilV).setCell ⟨w.heap.size, 3, none⟩ nilV)) := below_row (below_row (below1 HB3.out) (below1 HB3.out).size (grown_put _ _ _ _) (Nat.le_refl _)) (by have := (below1 HB3.out).size; have := (grown_put w3 w.heap.size 2 nilV).size; exact Nat.le_trans ‹w.heap.size ≤ w3.heap.size› this) (grown_put _ _ _ _) (Nat.le_refl _)
               have HV5 : Hid (Ints .u8 ((w3.setCell ⟨w.heap.size, 2, none⟩ nilV).setCell ⟨w.heap.size, 3, none⟩ nilV) (.slice a3 (((putS (rowR ty).1 nums).getD []).length + ds.length) c3') (((putS (rowR ty).1 nums).getD []) ++ ds)) := (HV3.out.grown (grown_put _ _ _ _) (fun b' e e' => by injection e' with e'; exact hv30.out b' e e'.symm)).grown (grown_put _ _ _ _) (fun b' e e' => by injection e' with e'; exact hv30.out b' e e'.symm)
               have k0 := cell_heap HH5.out 0
               have k1 := cell_heap HH5.out 1
               have k2 := cell_heap HH5.out 2
               have k3 := cell_heap HH5.out 3
               have k4 := cell_heap HH5.out 4
               have k5 := cell_heap HH5.out 5
               have k6 := cell_heap HH5.out 6
               have k7 := cell_heap HH5.out 7
               have k8 := cell_heap HH5.out 8
               have k9 := cell_heap HH5.out 9
               have k10 := cell_heap HH5.out 10
               have k11 := cell_heap HH5.out 11
               have k12 := cell_heap HH5.out 12
               have k13 := cell_heap HH5.out 13
               have k14 := cell_heap HH5.out 14
               clear HH3 HH4)
  have HL := Lib.hid (bare_go ty xid none 0 0 L ((w3.setCell ⟨w.heap.size, 2, none⟩ nilV).setCell ⟨w.heap.size, 3, none⟩ nilV))
  rw [hbr] at HL
  (with_reducible refine HL.out.mono ?_)
  rintro e w6 ⟨rfl, hb⟩
  have HB6 := Lib.hid (HB5.out.trans (hb.mono HB5.out.size))
  have HV6 := Lib.hid (HV5.out.below hb)
  clear hb
  go_wp2_with fail
  go_ret2
  exact ⟨_, rfl, HV6.out, HB6.out⟩

theorem refuse_body (ty xid : Int) (v vd : Value) (nums ds : List Int) (L : Lens) (w : World) (h : Ints .u64 w v nums) (hd : Ints .u8 w vd ds) (hl : ds.length ≤ 3000) :
    Calls Try.prog 21 #[.agg (msgL ty xid v vd L)] w fun e w' => ∃ vb, e = .returned (.tuple #[vb, .int .i64 (bodyR ty nums ds (bareL L)).2]) ∧ Ints .u8 w' vb (bodyR ty nums ds (bareL L)).1 ∧ Below w.heap.size w w' := by
  cases his : (rowR ty).2
  case false => exact refuse_body_a ty xid v vd nums ds L w h hd hl his
  cases hok : (putS (rowR ty).1 nums).isSome
  case false => exact refuse_body_b ty xid v vd nums ds L w h hd hl his hok
  by_cases hbr : bareL L = false
  · exact refuse_body_c ty xid v vd nums ds L w h hd hl his hok hbr
  · exact refuse_body_e ty xid v vd nums ds L w h hd hl his hok (eq_true_of_ne_false hbr)
end Go.Proofs.Ytfaklenclhljhaa
