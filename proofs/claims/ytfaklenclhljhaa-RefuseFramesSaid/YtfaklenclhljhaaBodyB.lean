/- The walks of plain.Body and of the document's, of any message. Conditions: none beyond each lemma's own. -/
import Derived.Test.YtfaklenclhljhaaBodyA
import Derived.Test.YtfaklenclhljhaaRowH
namespace Go.Proofs.Ytfaklenclhljhaa
open Go.RowKit
set_option maxRecDepth 100000
set_option maxHeartbeats 4000000

/-- What is behind a message's head, and the error, of its type, its numbers, and whether it has nothing else. -/
def bodyS (ty : Int) (nums : List Int) (bare : Bool) : List Int × Int :=
  if (rowS ty).2 = true ∧ (putS (rowS ty).1 nums).isSome = true ∧ bare = true ∧ askedS ty nums = 0 then ((putS (rowS ty).1 nums).getD [], 0) else ([], 10001)

theorem put_asked {ty : Int} {nums : List Int} (h : (putS (rowS ty).1 nums).isSome = true) : askedOk ty nums := by
  obtain ⟨bs, hb⟩ := Option.isSome_iff_exists.1 h
  exact rowS_asked (putS_some hb).2.1.symm

theorem plain_body (ty xid : Int) (v : Value) (nums : List Int) (ad : Option Addr) (nd cd : Nat) (L : Lens) (w : World) (h : Ints .u64 w v nums) :
    Calls Try.prog 12 #[.agg (msgL ty xid v (.slice ad nd cd) L)] w fun e w' => ∃ vb, e = .returned (.tuple #[vb, .int .i64 (bodyS ty nums (bareL L && decide (nd = 0))).2]) ∧ Ints .u8 w' vb (bodyS ty nums (bareL L && decide (nd = 0))).1 ∧ Below w.heap.size w w' := by
  have h := Lib.hid h
  obtain ⟨a, cap, b, off, rfl, -⟩ := h.out.open
  have HBx : Hid (Below w.heap.size w (w.alloc (.cells (msgL ty xid (.slice a nums.length cap) (.slice ad nd cd) L) 35))) := below_alloc2 _
  have HX := Lib.hid (h.out.below HBx.out)
  have HPt : ∀ (w : World) (v1 v2 : Value), Ints .i64 w v1 (rowS ty).1 → Ints .u64 w v2 nums → Hid (Calls Try.prog 41 #[v1, v2] w (fun e w' => ∃ v', e = .returned (.tuple #[v', .bool (putS (rowS ty).1 nums).isSome]) ∧ w'.ownsRow w.heap.size 5 1 v' ((putS (rowS ty).1 nums).getD []).length (((putS (rowS ty).1 nums).getD []).map (Value.int .u8)) ∧ Below w.heap.size w w')) := fun w v1 v2 i1 i2 => row_put v1 v2 _ _ w i1 i2
  have HR := fun w => Lib.hid (plain_rows ty w)
  cases his : (rowS ty).2
  case false =>
    have hq : bodyS ty nums (bareL L && decide (nd = 0)) = ([], 10001) := if_neg (by simp [his])
    rw [hq]
    clear hq
    rw [his] at HR
    go_enter Try.func12, Try.ntmps12
    go_wp2_with fail
    (with_reducible refine (HR _).out.mono ?_)
    rintro e w1 ⟨vw, rfl, hw, hb⟩
    have HB1 := Lib.hid hb
    have HH1 := (hb.block w.heap.size (by simp)).trans (heap_alloc_new _ _)
    have c2 := cell_heap HH1 2
    have HX1 := HX.out.below hb
    have HP1 := HPt _ _ _ hw HX1
    have HX1 := Lib.hid HX1
    have HH1 := Lib.hid HH1
    clear hb hw
    go_wp2_with fail
    (with_reducible refine HP1.out.mono ?_)
    rintro e w2 ⟨vb, rfl, hvo, hb⟩
    have hvb := Ints.of_own hvo (putS_u8 _ _).wf
    have hvb0 : ∀ b', vb.ownBlock = some b' → w.heap.size = b' → False := fun b' e e' => by have := (hvo.lt b' e).1; have := HB1.out.size; simp at this; omega
    clear hvo
    have HB2 := Lib.hid (HB1.out.trans (hb.mono HB1.out.size))
    have HH2 := (HB2.out.block w.heap.size (by simp)).trans (heap_alloc_new _ _)
    have HV2 := Lib.hid hvb
    have fz2 : w2.frozen? ⟨w.heap.size, 2, none⟩ = false := by simp [World.frozen?, HH2]
    have c2 := cell_heap HH2 2
    have HH3 := Lib.hid ((heap_put HH2 2 nilV).trans (show _ = some (.cells (msgL ty xid nilV (.slice ad nd cd) L) 35 (0, 0)) from rfl))
    have HBw : Hid (Below w.heap.size w (w2.setCell ⟨w.heap.size, 2, none⟩ nilV)) := below_row (below1 HB2.out) (below1 HB2.out).size (grown_put _ _ _ _) (Nat.le_refl _)
    have HX3 : Hid (Ints .u64 (w2.setCell ⟨w.heap.size, 2, none⟩ nilV) (.slice a nums.length cap) nums) := h.out.below HBw.out
    have HV3 : Hid (Ints .u8 (w2.setCell ⟨w.heap.size, 2, none⟩ nilV) vb ((putS (rowS ty).1 nums).getD [])) := HV2.out.grown (grown_put _ _ _ _) (fun b' e e' => by injection e' with e'; exact hvb0 b' e e'.symm)
    have hs2 : Hid (w.heap.size < (w2.setCell ⟨w.heap.size, 2, none⟩ nilV).heap.size) := by have := HB2.out.size; show _ < _; simp at this ⊢; omega
    clear hb hvb HH2
    go_wp2_with fail
    go_ret2
    exact ⟨_, rfl, Ints.nil _ _, HBw.out⟩
  rw [his] at HR
  cases hok : (putS (rowS ty).1 nums).isSome
  case false =>
    have hq : bodyS ty nums (bareL L && decide (nd = 0)) = ([], 10001) := if_neg (by simp [hok])
    rw [hq]
    clear hq
    rw [hok] at HPt
    go_enter Try.func12, Try.ntmps12
    go_wp2_with fail
    (with_reducible refine (HR _).out.mono ?_)
    rintro e w1 ⟨vw, rfl, hw, hb⟩
    have HB1 := Lib.hid hb
    have HH1 := (hb.block w.heap.size (by simp)).trans (heap_alloc_new _ _)
    have c2 := cell_heap HH1 2
    have HX1 := HX.out.below hb
    have HP1 := HPt _ _ _ hw HX1
    have HX1 := Lib.hid HX1
    have HH1 := Lib.hid HH1
    clear hb hw
    go_wp2_with fail
    (with_reducible refine HP1.out.mono ?_)
    rintro e w2 ⟨vb, rfl, hvo, hb⟩
    have hvb := Ints.of_own hvo (putS_u8 _ _).wf
    have hvb0 : ∀ b', vb.ownBlock = some b' → w.heap.size = b' → False := fun b' e e' => by have := (hvo.lt b' e).1; have := HB1.out.size; simp at this; omega
    clear hvo
    have HB2 := Lib.hid (HB1.out.trans (hb.mono HB1.out.size))
    have HH2 := (HB2.out.block w.heap.size (by simp)).trans (heap_alloc_new _ _)
    have HV2 := Lib.hid hvb
    have fz2 : w2.frozen? ⟨w.heap.size, 2, none⟩ = false := by simp [World.frozen?, HH2]
    have c2 := cell_heap HH2 2
    have HH3 := Lib.hid ((heap_put HH2 2 nilV).trans (show _ = some (.cells (msgL ty xid nilV (.slice ad nd cd) L) 35 (0, 0)) from rfl))
    have HBw : Hid (Below w.heap.size w (w2.setCell ⟨w.heap.size, 2, none⟩ nilV)) := below_row (below1 HB2.out) (below1 HB2.out).size (grown_put _ _ _ _) (Nat.le_refl _)
    have HX3 : Hid (Ints .u64 (w2.setCell ⟨w.heap.size, 2, none⟩ nilV) (.slice a nums.length cap) nums) := h.out.below HBw.out
    have HV3 : Hid (Ints .u8 (w2.setCell ⟨w.heap.size, 2, none⟩ nilV) vb ((putS (rowS ty).1 nums).getD [])) := HV2.out.grown (grown_put _ _ _ _) (fun b' e e' => by injection e' with e'; exact hvb0 b' e e'.symm)
    have hs2 : Hid (w.heap.size < (w2.setCell ⟨w.heap.size, 2, none⟩ nilV).heap.size) := by have := HB2.out.size; show _ < _; simp at this ⊢; omega
    clear hb hvb HH2
    go_wp2_with fail
    go_ret2
    exact ⟨_, rfl, Ints.nil _ _, HBw.out⟩
  have hask := put_asked hok
  cases hbr : (bareL L && decide (nd = 0))
  case false =>
    have hq : bodyS ty nums (false) = ([], 10001) := if_neg (by simp)
    rw [hq]
    clear hq
    rw [hok] at HPt
    go_enter Try.func12, Try.ntmps12
    go_wp2_with fail
    (with_reducible refine (HR _).out.mono ?_)
    rintro e w1 ⟨vw, rfl, hw, hb⟩
    have HB1 := Lib.hid hb
    have HH1 := (hb.block w.heap.size (by simp)).trans (heap_alloc_new _ _)
    have c2 := cell_heap HH1 2
    have HX1 := HX.out.below hb
    have HP1 := HPt _ _ _ hw HX1
    have HX1 := Lib.hid HX1
    have HH1 := Lib.hid HH1
    clear hb hw
    go_wp2_with fail
    (with_reducible refine HP1.out.mono ?_)
    rintro e w2 ⟨vb, rfl, hvo, hb⟩
    have hvb := Ints.of_own hvo (putS_u8 _ _).wf
    have hvb0 : ∀ b', vb.ownBlock = some b' → w.heap.size = b' → False := fun b' e e' => by have := (hvo.lt b' e).1; have := HB1.out.size; simp at this; omega
    clear hvo
    have HB2 := Lib.hid (HB1.out.trans (hb.mono HB1.out.size))
    have HH2 := (HB2.out.block w.heap.size (by simp)).trans (heap_alloc_new _ _)
    have HV2 := Lib.hid hvb
    have fz2 : w2.frozen? ⟨w.heap.size, 2, none⟩ = false := by simp [World.frozen?, HH2]
    have c2 := cell_heap HH2 2
    have HH3 := Lib.hid ((heap_put HH2 2 nilV).trans (show _ = some (.cells (msgL ty xid nilV (.slice ad nd cd) L) 35 (0, 0)) from rfl))
    have HBw : Hid (Below w.heap.size w (w2.setCell ⟨w.heap.size, 2, none⟩ nilV)) := below_row (below1 HB2.out) (below1 HB2.out).size (grown_put _ _ _ _) (Nat.le_refl _)
    have HX3 : Hid (Ints .u64 (w2.setCell ⟨w.heap.size, 2, none⟩ nilV) (.slice a nums.length cap) nums) := h.out.below HBw.out
    have HV3 : Hid (Ints .u8 (w2.setCell ⟨w.heap.size, 2, none⟩ nilV) vb ((putS (rowS ty).1 nums).getD [])) := HV2.out.grown (grown_put _ _ _ _) (fun b' e e' => by injection e' with e'; exact hvb0 b' e e'.symm)
    have hs2 : Hid (w.heap.size < (w2.setCell ⟨w.heap.size, 2, none⟩ nilV).heap.size) := by have := HB2.out.size; show _ < _; simp at this ⊢; omega
    clear hb hvb HH2
    obtain ⟨ab, cb, bb, ob, rfl, -⟩ := HV2.out.open
    have k0 := cell_heap HH3.out 0
    have k1 := cell_heap HH3.out 1
    have k2 := cell_heap HH3.out 2
    have k3 := cell_heap HH3.out 3
    have k4 := cell_heap HH3.out 4
    have k5 := cell_heap HH3.out 5
    have k6 := cell_heap HH3.out 6
    have k7 := cell_heap HH3.out 7
    have k8 := cell_heap HH3.out 8
    have k9 := cell_heap HH3.out 9
    have k10 := cell_heap HH3.out 10
    have k11 := cell_heap HH3.out 11
    have k12 := cell_heap HH3.out 12
    have k13 := cell_heap HH3.out 13
    have k14 := cell_heap HH3.out 14
    have HL := Lib.hid (bare_go ty xid ad nd cd L (w2.setCell ⟨w.heap.size, 2, none⟩ nilV))
    rw [hbr] at HL
    go_wp2_with fail
    (with_reducible refine HL.out.mono ?_)
    rintro e w4 ⟨rfl, hb⟩
    have HB4 := Lib.hid (HBw.out.trans (hb.mono HBw.out.size))
    clear hb
    go_wp2_with fail
    go_ret2
    exact ⟨_, rfl, Ints.nil _ _, HB4.out⟩
  by_cases h0 : askedS ty nums = 0
  case neg =>
    have hq : bodyS ty nums (true) = ([], 10001) := if_neg (by simp [h0])
    rw [hq]
    clear hq
    rw [hok] at HPt
    have hne : (askedS ty nums != 0) = true := by simp [h0]
    go_enter Try.func12, Try.ntmps12
    go_wp2_with fail
    (with_reducible refine (HR _).out.mono ?_)
    rintro e w1 ⟨vw, rfl, hw, hb⟩
    have HB1 := Lib.hid hb
    have HH1 := (hb.block w.heap.size (by simp)).trans (heap_alloc_new _ _)
    have c2 := cell_heap HH1 2
    have HX1 := HX.out.below hb
    have HP1 := HPt _ _ _ hw HX1
    have HX1 := Lib.hid HX1
    have HH1 := Lib.hid HH1
    clear hb hw
    go_wp2_with fail
    (with_reducible refine HP1.out.mono ?_)
    rintro e w2 ⟨vb, rfl, hvo, hb⟩
    have hvb := Ints.of_own hvo (putS_u8 _ _).wf
    have hvb0 : ∀ b', vb.ownBlock = some b' → w.heap.size = b' → False := fun b' e e' => by have := (hvo.lt b' e).1; have := HB1.out.size; simp at this; omega
    clear hvo
    have HB2 := Lib.hid (HB1.out.trans (hb.mono HB1.out.size))
    have HH2 := (HB2.out.block w.heap.size (by simp)).trans (heap_alloc_new _ _)
    have HV2 := Lib.hid hvb
    have fz2 : w2.frozen? ⟨w.heap.size, 2, none⟩ = false := by simp [World.frozen?, HH2]
    have c2 := cell_heap HH2 2
    have HH3 := Lib.hid ((heap_put HH2 2 nilV).trans (show _ = some (.cells (msgL ty xid nilV (.slice ad nd cd) L) 35 (0, 0)) from rfl))
    have HBw : Hid (Below w.heap.size w (w2.setCell ⟨w.heap.size, 2, none⟩ nilV)) := below_row (below1 HB2.out) (below1 HB2.out).size (grown_put _ _ _ _) (Nat.le_refl _)
    have HX3 : Hid (Ints .u64 (w2.setCell ⟨w.heap.size, 2, none⟩ nilV) (.slice a nums.length cap) nums) := h.out.below HBw.out
    have HV3 : Hid (Ints .u8 (w2.setCell ⟨w.heap.size, 2, none⟩ nilV) vb ((putS (rowS ty).1 nums).getD [])) := HV2.out.grown (grown_put _ _ _ _) (fun b' e e' => by injection e' with e'; exact hvb0 b' e e'.symm)
    have hs2 : Hid (w.heap.size < (w2.setCell ⟨w.heap.size, 2, none⟩ nilV).heap.size) := by have := HB2.out.size; show _ < _; simp at this ⊢; omega
    clear hb hvb HH2
    obtain ⟨ab, cb, bb, ob, rfl, -⟩ := HV2.out.open
    have k0 := cell_heap HH3.out 0
    have k1 := cell_heap HH3.out 1
    have k2 := cell_heap HH3.out 2
    have k3 := cell_heap HH3.out 3
    have k4 := cell_heap HH3.out 4
    have k5 := cell_heap HH3.out 5
    have k6 := cell_heap HH3.out 6
    have k7 := cell_heap HH3.out 7
    have k8 := cell_heap HH3.out 8
    have k9 := cell_heap HH3.out 9
    have k10 := cell_heap HH3.out 10
    have k11 := cell_heap HH3.out 11
    have k12 := cell_heap HH3.out 12
    have k13 := cell_heap HH3.out 13
    have k14 := cell_heap HH3.out 14
    have HL := Lib.hid (bare_go ty xid ad nd cd L (w2.setCell ⟨w.heap.size, 2, none⟩ nilV))
    rw [hbr] at HL
    go_wp2_with fail
    (with_reducible refine HL.out.mono ?_)
    rintro e w4 ⟨rfl, hb⟩
    have HB4 := Lib.hid (HBw.out.trans (hb.mono HBw.out.size))
    have HH4 := (hb.block w.heap.size hs2.out).trans HH3.out
    have c0 := cell_heap HH4 0
    have HA := Lib.hid (plain_asked ty _ nums _ (HX3.out.below hb) hask)
    have HV4 := Lib.hid (HV3.out.below hb)
    clear hb HH4 k0 k1 k2 k3 k4 k5 k6 k7 k8 k9 k10 k11 k12 k13 k14
    go_wp2_with fail
    (with_reducible refine HA.out.mono ?_)
    rintro e w5 ⟨rfl, hb⟩
    have HB5 := Lib.hid (HB4.out.trans (hb.mono HB4.out.size))
    have HV5 := Lib.hid (HV4.out.below hb)
    clear hb
    go_wp2_with fail
    go_ret2
    exact ⟨_, rfl, Ints.nil _ _, HB5.out⟩
  have hq : bodyS ty nums (true) = ((putS (rowS ty).1 nums).getD [], 0) := if_pos ⟨his, hok, rfl, h0⟩
  rw [hq]
  clear hq
  rw [hok] at HPt
  have hne : (askedS ty nums != 0) = false := by simp [h0]
  go_enter Try.func12, Try.ntmps12
  go_wp2_with fail
  (with_reducible refine (HR _).out.mono ?_)
  rintro e w1 ⟨vw, rfl, hw, hb⟩
  have HB1 := Lib.hid hb
  have HH1 := (hb.block w.heap.size (by simp)).trans (heap_alloc_new _ _)
  have c2 := cell_heap HH1 2
  have HX1 := HX.out.below hb
  have HP1 := HPt _ _ _ hw HX1
  have HX1 := Lib.hid HX1
  have HH1 := Lib.hid HH1
  clear hb hw
  go_wp2_with fail
  (with_reducible refine HP1.out.mono ?_)
  rintro e w2 ⟨vb, rfl, hvo, hb⟩
  have hvb := Ints.of_own hvo (putS_u8 _ _).wf
  have hvb0 : ∀ b', vb.ownBlock = some b' → w.heap.size = b' → False := fun b' e e' => by have := (hvo.lt b' e).1; have := HB1.out.size; simp at this; omega
  clear hvo
  have HB2 := Lib.hid (HB1.out.trans (hb.mono HB1.out.size))
  have HH2 := (HB2.out.block w.heap.size (by simp)).trans (heap_alloc_new _ _)
  have HV2 := Lib.hid hvb
  have fz2 : w2.frozen? ⟨w.heap.size, 2, none⟩ = false := by simp [World.frozen?, HH2]
  have c2 := cell_heap HH2 2
  have HH3 := Lib.hid ((heap_put HH2 2 nilV).trans (show _ = some (.cells (msgL ty xid nilV (.slice ad nd cd) L) 35 (0, 0)) from rfl))
  have HBw : Hid (Below w.heap.size w (w2.setCell ⟨w.heap.size, 2, none⟩ nilV)) := below_row (below1 HB2.out) (below1 HB2.out).size (grown_put _ _ _ _) (Nat.le_refl _)
  have HX3 : Hid (Ints .u64 (w2.setCell ⟨w.heap.size, 2, none⟩ nilV) (.slice a nums.length cap) nums) := h.out.below HBw.out
  have HV3 : Hid (Ints .u8 (w2.setCell ⟨w.heap.size, 2, none⟩ nilV) vb ((putS (rowS ty).1 nums).getD [])) := HV2.out.grown (grown_put _ _ _ _) (fun b' e e' => by injection e' with e'; exact hvb0 b' e e'.symm)
  have hs2 : Hid (w.heap.size < (w2.setCell ⟨w.heap.size, 2, none⟩ nilV).heap.size) := by have := HB2.out.size; show _ < _; simp at this ⊢; omega
  clear hb hvb HH2
  obtain ⟨ab, cb, bb, ob, rfl, -⟩ := HV2.out.open
  have k0 := cell_heap HH3.out 0
  have k1 := cell_heap HH3.out 1
  have k2 := cell_heap HH3.out 2
  have k3 := cell_heap HH3.out 3
  have k4 := cell_heap HH3.out 4
  have k5 := cell_heap HH3.out 5
  have k6 := cell_heap HH3.out 6
  have k7 := cell_heap HH3.out 7
  have k8 := cell_heap HH3.out 8
  have k9 := cell_heap HH3.out 9
  have k10 := cell_heap HH3.out 10
  have k11 := cell_heap HH3.out 11
  have k12 := cell_heap HH3.out 12
  have k13 := cell_heap HH3.out 13
  have k14 := cell_heap HH3.out 14
  have HL := Lib.hid (bare_go ty xid ad nd cd L (w2.setCell ⟨w.heap.size, 2, none⟩ nilV))
  rw [hbr] at HL
  go_wp2_with fail
  (with_reducible refine HL.out.mono ?_)
  rintro e w4 ⟨rfl, hb⟩
  have HB4 := Lib.hid (HBw.out.trans (hb.mono HBw.out.size))
  have HH4 := (hb.block w.heap.size hs2.out).trans HH3.out
  have c0 := cell_heap HH4 0
  have HA := Lib.hid (plain_asked ty _ nums _ (HX3.out.below hb) hask)
  have HV4 := Lib.hid (HV3.out.below hb)
  clear hb HH4 k0 k1 k2 k3 k4 k5 k6 k7 k8 k9 k10 k11 k12 k13 k14
  go_wp2_with fail
  (with_reducible refine HA.out.mono ?_)
  rintro e w5 ⟨rfl, hb⟩
  have HB5 := Lib.hid (HB4.out.trans (hb.mono HB4.out.size))
  have HV5 := Lib.hid (HV4.out.below hb)
  clear hb
  go_wp2_with fail
  go_ret2
  exact ⟨_, rfl, HV5.out, HB5.out⟩
end Go.Proofs.Ytfaklenclhljhaa
