/- The walk of the document's Read (gunwaleref26.Read). Conditions: the argument reads as bytes, at most 2500. -/
import Derived.Test.YtfaklenclhljhaaRfA
namespace Go.Proofs.Ytfaklenclhljhaa
open Go.RowKit
set_option maxRecDepth 100000
set_option maxHeartbeats 4000000

theorem ref_read26 (t : Int) (va : Value) (bs : List Int) (w : World) (h : Ints .u8 w va bs) (hl : bs.length ≤ 2500) :
    Calls Try.prog 30 #[.int .i64 t, va] w (GotMsgD w (readR t bs).1.1 (readR t bs).1.2.1 (readR t bs).1.2.2 (readR t bs).2) := by
  have HR := fun w => Lib.hid (ref_row26 t w)
  have HBx : Hid (Below w.heap.size w (w.alloc (.cells (msgA 0 nilV nilV) 35))) := below_alloc2 _
  have HX := Lib.hid (h.below HBx.out)
  have hu := h.u8
  have hle := h.le
  by_cases h1 : (rowR t).2 = false
  · have hq : readR t bs = ((0, [], []), 10001) := by rw [readR, if_pos h1]
    rw [hq]
    rw [h1] at HR
    obtain ⟨av, capv, bv, offv, rfl, -⟩ := h.open
    clear h hq h1 hu
    go_enter Try.func30, Try.ntmps30
    go_wp2_with (first
      | (go_at_call 64; (with_reducible refine (HR _).out.mono ?_); rintro e w1 ⟨vw, rfl, hw, hb⟩; have HB1 := Lib.hid hb; have HH1 := Lib.hid ((hb.block w.heap.size (by simp)).trans (heap_alloc_new _ _)); have HW1 := Lib.hid hw; clear hw hb)
      | (refine wpList_store_rowTo rfl 35 _ _ rfl rfl w.heap.size (msgA 0 nilV nilV) rfl rfl _ _ HH1.out (by kernel_rfl) (by kernel_rfl) (by kernel_rfl) ?_; have hheap := setRow_heap w1 w.heap.size _ (msgA 0 nilV nilV) _ _ HH1.out; have HB9 := Lib.hid (below_setRow (below1 HB1.out) (Nat.le_refl _) (msgA 0 nilV nilV))))
    refine bodyPost_ret (results_row_tmp rfl _ _ w.heap.size _ _ _ _ rfl hheap Try.underlying35 rfl (by kernel_rfl)) rfl ?_
    exact ⟨_, _, rfl, Ints.nil _ _, Ints.nil _ _, HB9.out⟩
  have h1' : (rowR t).2 = true := by simpa using h1
  rw [h1'] at HR
  have HG : ∀ (w : World) (v1 v2 : Value), Ints .i64 w v1 (rowR t).1 → Ints .u8 w v2 bs → Hid (Calls Try.prog 53 #[v1, v2] w (fun e w' => ∃ v, e = .returned (.tuple #[v, .int .i64 (getS (rowR t).1 bs).2]) ∧ w'.ownsRow w.heap.size 76 1 v (getS (rowR t).1 bs).1.length ((getS (rowR t).1 bs).1.map (Value.int .u64)) ∧ Below w.heap.size w w')) := fun w v1 v2 i1 i2 => ref_get v1 v2 (rowR t).1 bs w i1 i2
  have hg := getS_cases (ws := (rowR t).1) hu
  have hl64 : U64 (getS (rowR t).1 bs).1 := getS_u64 hu
  by_cases h2 : (getS (rowR t).1 bs).2 = 0
  case neg =>
    have hq : readR t bs = ((0, [], []), 263) := by rw [readR, if_neg h1, if_pos h2]
    rw [hq]
    have hnil : (getS (rowR t).1 bs).1 = [] := by rcases hg with ⟨a, -⟩ | ⟨-, a⟩ | ⟨-, a⟩; exact absurd a h2; exact a; exact a
    have e2 : ((getS (rowR t).1 bs).2 != 0) = true := by simpa using h2
    rw [hnil] at HG
    generalize (getS (rowR t).1 bs).2 = how at HG e2
    generalize (rowR t).1 = ws at HR HG
    obtain ⟨av, capv, bv, offv, rfl, -⟩ := h.open
    clear h hq h1 h1' h2 hu hg hnil hl64
    go_enter Try.func30, Try.ntmps30
    go_wp2_with (first
      | (go_at_call 64; (with_reducible refine (HR _).out.mono ?_); rintro e w1 ⟨vw, rfl, hw, hb⟩; have HB1 := Lib.hid hb; have HH1 := Lib.hid ((hb.block w.heap.size (by simp)).trans (heap_alloc_new _ _)); have HW1 := Lib.hid hw; clear hw hb)
      | (go_at_call 53; (with_reducible refine (HG _ _ _ HW1.out (HX.out.below HB1.out)).out.mono ?_); rintro e w3 ⟨vl, rfl, ho, hb⟩; have HB3 := Lib.hid (HB1.out.trans (hb.mono HB1.out.size)); have HH3 := Lib.hid ((HB3.out.block w.heap.size (by simp)).trans (heap_alloc_new _ _)); obtain ⟨al, capl, rfl⟩ := own_slice ho; clear ho hb)
      | (refine wpList_store_rowTo rfl 35 _ _ rfl rfl w.heap.size (msgA 0 nilV nilV) rfl rfl _ _ HH3.out (by kernel_rfl) (by kernel_rfl) (by kernel_rfl) ?_; have hheap := setRow_heap w3 w.heap.size _ (msgA 0 nilV nilV) _ _ HH3.out; have HB9 := Lib.hid (below_setRow (below1 HB3.out) (Nat.le_refl _) (msgA 0 nilV nilV))))
    refine bodyPost_ret (results_row_tmp rfl _ _ w.heap.size _ _ _ _ rfl hheap Try.underlying35 rfl (by kernel_rfl)) rfl ?_
    exact ⟨_, _, rfl, Ints.nil _ _, Ints.nil _ _, HB9.out⟩
  case pos =>
    have hq : readR t bs = ((t, (getS (rowR t).1 bs).1, bs.drop (sizeS (rowR t).1)), 0) := by rw [readR, if_neg h1, if_neg (by simpa using h2)]
    rw [hq]
    have hsz : sizeS (rowR t).1 ≤ bs.length := by rcases hg with ⟨-, a⟩ | ⟨a, -⟩ | ⟨a, -⟩; exact a; rw [h2] at a; cases a; rw [h2] at a; cases a
    rw [h2] at HG
    have HS := fun (v : Value) (w : World) (i : Ints .i64 w v (rowR t).1) => Lib.hid (ref_size v (rowR t).1 w i)
    generalize (getS (rowR t).1 bs).1 = l at HG hl64 ⊢
    obtain ⟨av, capv, bv, offv, rfl, -⟩ := h.open
    obtain ⟨A, hsl, hcut⟩ := slice_from Try.underlying24 info_u8 HX.out ((sizeS (rowR t).1 : Nat) : Int) (sizeS (rowR t).1) rfl hsz
    generalize sizeS (rowR t).1 = sz at HS hsl hcut hsz ⊢
    generalize (rowR t).1 = ws at HR HG HS
    have hdl : (bs.drop sz).length = bs.length - sz := by rw [List.length_drop]
    generalize bs.drop sz = ds at hcut hdl ⊢
    have hdu := hcut.u8
    have HDu := Lib.hid hdu
    have HCut := Lib.hid hcut
    have HU := Lib.hid hl64
    have HDl := Lib.hid hdl
    clear h hq h1 h1' h2 hu hg hl64 hcut hdu hdl
    go_enter Try.func30, Try.ntmps30
    go_wp2_with (first
      | (go_at_call 64; (with_reducible refine (HR _).out.mono ?_); rintro e w1 ⟨vw, rfl, hw, hb⟩; have HB1 := Lib.hid hb; have HH1 := Lib.hid ((hb.block w.heap.size (by simp)).trans (heap_alloc_new _ _)); have HW1 := Lib.hid hw; clear hw hb)
      | (go_at_call 53; (with_reducible refine (HG _ _ _ HW1.out (HX.out.below HB1.out)).out.mono ?_); rintro e w3 ⟨vl, rfl, ho, hb⟩; have HB3 := Lib.hid (HB1.out.trans (hb.mono HB1.out.size)); have HO3 := Lib.hid ho; have HS3 := HS _ _ ((HW1.out.below hb).alloc (.cells #[] 5)); obtain ⟨al, capl, rfl⟩ := own_slice ho; clear ho hb)
      | (go_at_call 52; (with_reducible refine HS3.out.mono ?_); rintro e w4 ⟨rfl, rfl⟩)
      | (at_builtin; refine wpList_append_sl rfl (.tmp 34) (.tmp 38) _ rfl w3.heap.size 5 (.int .u8 0) 1 1 Try.underlying24 info_u8 rfl (by decide) _ 0 [] rfl (own_made0 w3 _ _ _ (Nat.le_refl _)) (.slice A (bs.length - sz) (capv - sz)) (bs.length - sz) (ds.map (Value.int .u8)) rfl (by have := HDl.out; simp; omega) (by have := ((HCut.out.below HB3.out).alloc (.cells #[] 5)).1; rw [HDl.out] at this; exact this) (ints_one _ _) (by unfold maxLen; omega) (by omega) (by simp) ?_; intro v5 w5 hown5 hgrow5 _; rw [List.nil_append, Nat.zero_add] at hown5; have hB35 : Below w3.heap.size w3 w5 := own_grown (below_alloc2 _) (by simp) (own_made0 w3 w3.heap.size 5 1 (Nat.le_refl _)) hgrow5 rfl; have HB5 := Lib.hid (HB3.out.trans (hB35.mono HB3.out.size)); have HH5 := Lib.hid ((HB5.out.block w.heap.size (by simp)).trans (heap_alloc_new _ _)); have HD5 := Lib.hid hown5; have HL5 := Lib.hid (own_below HO3.out hB35); obtain ⟨ad, capd, rfl⟩ := own_slice hown5; clear hown5 hgrow5 hB35)
      | (refine wpList_store_rowTo rfl 35 _ _ rfl rfl w.heap.size (msgA t (.slice al l.length capl) (.slice ad (bs.length - sz) capd)) rfl rfl _ _ HH5.out (by kernel_rfl) (by kernel_rfl) (by kernel_rfl) ?_; have hheap := setRow_heap w5 w.heap.size _ (msgA t (.slice al l.length capl) (.slice ad (bs.length - sz) capd)) _ _ HH5.out; have HB9 := Lib.hid (below_setRow (below1 HB5.out) (Nat.le_refl _) (msgA t (.slice al l.length capl) (.slice ad (bs.length - sz) capd)))))
    refine bodyPost_ret (results_row_tmp rfl _ _ w.heap.size _ _ _ _ rfl hheap Try.underlying35 rfl (by kernel_rfl)) rfl ?_
    refine ⟨_, _, rfl, ints_setRow (Ints.of_own HL5.out HU.out.wf) (fun b e => ?_) _, ints_setRow (Ints.of_own HD5.out HDu.out.wf) (fun b e => ?_) _, HB9.out⟩
    · have := (HL5.out.lt b e).1; have := HB1.out.size; simp at this; omega
    · have := (HD5.out.lt b e).1; have := HB3.out.size; simp at this; omega
end Go.Proofs.Ytfaklenclhljhaa
