/- The walk of the law 'HeadBack': it returns true. Conditions: the arguments read as a head and a list of bytes. -/
import Derived.Test.YtdljlcbjpfgmcaaHeadC
import Derived.Test.YtdljlcbjpfgmcaaSure06
namespace Go.Proofs.Ytdljlcbjpfgmcaa
open Go.RowKit

theorem putL_head {v t n x : Int} (hv : 0 ≤ v ∧ v ≤ 255) (ht : 0 ≤ t ∧ t ≤ 255) (hn : 0 ≤ n ∧ n ≤ 65535) (hx : 0 ≤ x ∧ x < 4294967296) : putL [1, 1, 2, 4] [v, t, n, x] = some (be 1 v ++ be 1 t ++ be 2 n ++ be 4 x) := by
  have f1 : fitsW v 1 = true := by simp [fitsW]; omega
  have f2 : fitsW t 1 = true := by simp [fitsW]; omega
  have f3 : fitsW n 2 = true := by simp [fitsW]; omega
  have f4 : fitsW x 4 = true := by simp [fitsW]; omega
  simp [putL, f1, f2, f3, f4]

/-- What Put made, Get reads, whatever is behind. -/
theorem putH_get {h : Hd} {l bs : List Int} (hx : 0 ≤ h.x ∧ h.x < 4294967296) (hp : putH h = (l, 0)) : l.length = 8 ∧ U8 l ∧ hdOf (l ++ bs) = (h, 0) := by
  obtain ⟨v, t, n, x⟩ := h
  unfold putH at hp
  split at hp
  · simp at hp
  · rename_i hc
    simp only at hc hx
    injection hp with h1 _
    have hput := putL_head (v := v) (t := t) (n := n) (x := x) (by omega) (by omega) (by omega) hx
    simp only at h1
    rw [h1] at hput
    have h8 : l.length = 8 := putL_len hput
    have hu : U8 l := putL_byte hput
    refine ⟨h8, hu, ?_⟩
    have e1 := hd_fine (bs := l ++ bs) (by rw [List.length_append]; omega)
    have hg := get_put bs (by decide) (fun z hz => by simp at hz; omega) (by simp [cntL]) hput
    rw [getS_ok (by decide) hg] at e1
    simp only [Prod.mk.injEq, List.cons.injEq] at e1
    obtain ⟨⟨e1, e2, e3, e4, -⟩, -⟩ := e1
    rw [hdOf, if_neg (by rw [List.length_append]; omega), ← e1, ← e2, ← e3, ← e4]

/-- What Get reads, Put makes again. -/
theorem hdOf_put {bs : List Int} (hu : U8 bs) (h8 : 8 ≤ bs.length) : ∃ h : Hd, hdOf bs = (h, 0) ∧ h.ok ∧ putH h = (if 8 ≤ h.n then (bs.take 8, 0) else ([], 10001)) := by
  have h1 := val_bd hu 0 1 (by omega)
  have h2 := val_bd hu 1 1 (by omega)
  have h3 := val_bd hu 2 2 (by omega)
  have h4 := val_bd hu 4 4 (by omega)
  rw [List.drop_zero] at h1
  have hg := hd_fine h8
  rw [show hdOf bs = (⟨valL (bs.take 1), valL ((bs.drop 1).take 1), valL ((bs.drop 2).take 2), valL ((bs.drop 4).take 4)⟩, 0) by rw [hdOf, if_neg (by omega)]]
  generalize valL (bs.take 1) = v at h1 hg ⊢
  generalize valL ((bs.drop 1).take 1) = t at h2 hg ⊢
  generalize valL ((bs.drop 2).take 2) = n at h3 hg ⊢
  generalize valL ((bs.drop 4).take 4) = x at h4 hg ⊢
  simp at h1 h2 h3 h4
  refine ⟨_, rfl, ⟨wf_i64 (by simp only; omega) (by simp only; omega), wf_i64 (by simp only; omega) (by simp only; omega), wf_i64 (by simp only; omega) (by simp only; omega), by simp [Lit.wf, IntKind.min, IntKind.max, IntKind.signed, IntKind.bits]; omega⟩, ?_⟩
  unfold putH
  simp only
  split
  · rw [if_neg (by omega)]
  · rw [if_pos (by omega)]
    have hput := putL_head (v := v) (t := t) (n := n) (x := x) (by omega) (by omega) (by omega) (by omega)
    cases hl : getL [1, 1, 2, 4] bs with
    | error e => rw [getS_err (by decide) hl] at hg; simp at hg
    | ok l =>
      rw [getS_ok (by decide) hl] at hg
      injection hg with hg _
      subst hg
      obtain ⟨-, -, a3, -⟩ := put_get (by decide) hu hl
      rw [hput] at a3
      injection a3 with a3
      rw [a3]; rfl

theorem head_get' {va : Value} {bs : List Int} {w : World} {v t n x er : Int} (e : hdOf bs = (⟨v, t, n, x⟩, er)) (h : Ints .u8 w va bs) (hl : bs.length ≤ 1000000000) :
    Calls Try.prog 57 #[va] w fun e w' => e = .returned (.tuple #[.agg #[.int .i64 v, .int .i64 t, .int .i64 n, .int .u32 x], .int .i64 er]) ∧ Below w.heap.size w w' := by
  have := head_get h hl
  rw [e] at this
  exact this
theorem head_put' {v t n x er : Int} {l : List Int} (w : World) (ho : Hd.ok ⟨v, t, n, x⟩) (e : putH ⟨v, t, n, x⟩ = (l, er)) :
    Calls Try.prog 55 #[.agg #[.int .i64 v, .int .i64 t, .int .i64 n, .int .u32 x]] w (GotDone w l er) := by
  have := head_put _ ho w
  rw [e] at this
  exact this

set_option maxRecDepth 100000 in
set_option maxHeartbeats 4000000 in
theorem walk_HeadBack (v1 : Value) (h : Hd) (v2 : Value) (bs : List Int) (w : World) (h1 : v1 = h.val ∧ h.ok) (h2 : Ints .u8 w v2 bs) :
    Calls Try.prog 15 #[v1, v2] w fun e w' => e = .returned (.bool true) ∧ Below w.heap.size w w' := by
  obtain ⟨rfl, ho⟩ := h1
  have hle := h2.le
  have H2 := Lib.hid h2
  obtain ⟨a2, cap2, b2, off2, rfl, -⟩ := h2.open
  clear h2
  by_cases g1 : 1000 < bs.length
  · go_enter Try.func15, Try.ntmps15
    go_wp2_with (go_at_call 32; (with_reducible refine (sure06 _).mono ?_); rintro e w' ⟨rfl, hb⟩)
    go_ret
    exact ⟨rfl, below1 hb⟩
  obtain ⟨v, t, n, x⟩ := h
  have hx := u32_bd ho.x
  simp only at hx
  have hback : ∀ l, putH ⟨v, t, n, x⟩ = (l, 0) → l.length = 8 ∧ U8 l ∧ hdOf (l ++ bs) = (⟨v, t, n, x⟩, 0) := fun l e => putH_get hx e
  have herr : (putH ⟨v, t, n, x⟩).2 = 0 ∨ ((putH ⟨v, t, n, x⟩).2 ≠ 0 ∧ (putH ⟨v, t, n, x⟩).1 = []) := by unfold putH; split <;> simp
  obtain ⟨l, er, hpr⟩ : ∃ l er, putH ⟨v, t, n, x⟩ = (l, er) := ⟨_, _, rfl⟩
  have HPut := fun w => Lib.hid (head_put' w ho hpr)
  rw [hpr] at hback herr
  clear hpr
  simp only at herr
  show Calls Try.prog 15 #[.agg #[.int .i64 v, .int .i64 t, .int .i64 n, .int .u32 x], _] w _
  clear ho hx
  have HBx : Hid (Below w.heap.size w (w.alloc (.cells #[.int .i64 v, .int .i64 t, .int .i64 n, .int .u32 x] 48))) := below_alloc2 _
  rcases herr with rfl | ⟨her, rfl⟩
  · obtain ⟨l8, lu, lh⟩ := hback l rfl
    clear hback
    have L8 := Lib.hid l8
    have LU := Lib.hid lu
    have LH := Lib.hid lh
    clear l8 lu lh
    go_enter Try.func15, Try.ntmps15
    go_wp2_with fail
    (with_reducible refine (HPut _).out.mono ?_)
    rintro e w2 ⟨va, rfl, ho, hb⟩
    have HX2 := Lib.hid (Ints.of_own ho LU.out.wf)
    obtain ⟨al, capl, rfl⟩ := own_slice ho
    have HB2 := Lib.hid hb
    clear ho hb
    go_wp2_with (first
      | (at_builtin; refine wpList_append_sl rfl (.tmp 25) (.tmp 26) _ rfl w2.heap.size 5 (.int .u8 0) 1 1 Try.underlying28 info_u8 rfl (by decide) _ 0 [] rfl (own_made0 w2 _ _ _ (Nat.le_refl _)) (.slice al l.length capl) l.length (l.map (Value.int .u8)) rfl (by simp) (HX2.out.alloc _).1 (ints_one _ _) (by have := L8.out; unfold maxLen; omega) (by have := L8.out; omega) (by simp) ?_; intro v3 w3 hown3 hgrow3 _; rw [List.nil_append, Nat.zero_add] at hown3; have HO3 := Lib.hid hown3; have HB3 : Hid (Below w2.heap.size w2 w3) := own_grown (below_alloc2 _) (by simp) (own_made0 w2 w2.heap.size 5 1 (Nat.le_refl _)) hgrow3 rfl; obtain ⟨a3, cap3, rfl⟩ := own_slice hown3; clear hown3 hgrow3)
      | (at_builtin; refine wpList_append_sl rfl (.tmp 27) (.tmp 28) _ rfl w2.heap.size 5 (.int .u8 0) 1 1 Try.underlying28 info_u8 rfl (by decide) _ l.length (l.map (Value.int .u8)) rfl HO3.out (.slice a2 bs.length cap2) bs.length (bs.map (Value.int .u8)) rfl (by simp) (((H2.out.below HBx.out).below (HB2.out.trans (HB3.out.mono HB2.out.size))).1) (ints_one _ _) (by have := L8.out; unfold maxLen; omega) (by have := L8.out; omega) HB3.out.size ?_; intro v4 w4 hown4 hgrow4 _; rw [← List.map_append] at hown4; have HB4 : Hid (Below w2.heap.size w2 w4) := own_grown HB3.out HB3.out.size HO3.out hgrow4 rfl; have HG4 := head_get' LH.out (Ints.of_own (zs := l ++ bs) (n := l.length + bs.length) hown4 (U8.append LU.out H2.out.u8).wf) (by have := L8.out; simp; omega); have HG4 := Lib.hid HG4; obtain ⟨a4, cap4, rfl⟩ := own_slice hown4; clear hown4 hgrow4)
      | (go_at_call 57; (with_reducible refine HG4.out.mono ?_); rintro e w5 ⟨rfl, hb⟩; have HB5 := Lib.hid (HB2.out.trans ((HB4.out.trans (hb.mono HB4.out.size)).mono HB2.out.size)); have HH5 := (HB5.out.block w.heap.size (by simp)).trans (heap_alloc_new _ _); have HH5 := Lib.hid HH5; clear hb)
      | (refine wpList_store_rowTo rfl 48 _ _ rfl rfl w5.heap.size #[.int .i64 v, .int .i64 t, .int .i64 n, .int .u32 x] rfl rfl _ _ (heap_alloc_new _ _) (by kernel_rfl) (by kernel_rfl) (by kernel_rfl) ?_; rw [alloc_setRow]; have hb6 := Lib.hid ((below1 HB5.out).alloc (below1 HB5.out).size (.cells #[.int .i64 v, .int .i64 t, .int .i64 n, .int .u32 x] 48)); have HHb := heap_alloc_new w5 (.cells #[.int .i64 v, .int .i64 t, .int .i64 n, .int .u32 x] 48); have HHa := (below_alloc2 (w := w5) (.cells #[.int .i64 v, .int .i64 t, .int .i64 n, .int .u32 x] 48)).block w.heap.size (by have := HB5.out.size; simp at this; omega) |>.trans HH5.out; generalize w5.alloc (.cells #[.int .i64 v, .int .i64 t, .int .i64 n, .int .u32 x] 48) = w6 at hb6 HHa HHb ⊢; have c0 := cell_heap HHa 0; have c1 := cell_heap HHa 1; have c2 := cell_heap HHa 2; have c3 := cell_heap HHa 3; have d0 := cell_heap HHb 0; have d1 := cell_heap HHb 1; have d2 := cell_heap HHb 2; have d3 := cell_heap HHb 3; have l8 : (l.length : Int) = 8 := (by have := L8.out; omega); clear HHa HHb))
    by_cases h8 : bs.length < 8
    · have HG := Lib.hid (head_get' (show hdOf bs = (⟨0, 0, 0, 0⟩, 10002) by rw [hdOf, if_pos h8]) (H2.out.below hb6.out) (by omega))
      go_wp2_with (first
        | (go_at_call 57; (with_reducible refine HG.out.mono ?_); rintro e w8 ⟨rfl, hb⟩; have HB8 := Lib.hid (hb6.out.trans (hb.mono hb6.out.size)); clear hb)
        | (refine wpList_store_rowTo rfl 48 _ _ rfl rfl w8.heap.size #[.int .i64 0, .int .i64 0, .int .i64 0, .int .u32 0] rfl rfl _ _ (heap_alloc_new _ _) (by kernel_rfl) (by kernel_rfl) (by kernel_rfl) ?_; rw [alloc_setRow]; have hb9 := Lib.hid (HB8.out.alloc HB8.out.size (.cells #[.int .i64 0, .int .i64 0, .int .i64 0, .int .u32 0] 48)); have HHb := heap_alloc_new w8 (.cells #[.int .i64 0, .int .i64 0, .int .i64 0, .int .u32 0] 48); generalize w8.alloc (.cells #[.int .i64 0, .int .i64 0, .int .i64 0, .int .u32 0] 48) = w9 at hb9 HHb ⊢; have d0 := cell_heap HHb 0; have d1 := cell_heap HHb 1; have d2 := cell_heap HHb 2; have d3 := cell_heap HHb 3; clear HHb)
        | (go_at_call 32; (with_reducible refine (sure06 _).mono ?_); rintro e w10 ⟨rfl, hb⟩; have HB10 := Lib.hid (hb9.out.trans (hb.mono hb9.out.size)); clear hb))
      go_ret
      exact ⟨rfl, HB10.out⟩
    · obtain ⟨⟨v', t', n', x'⟩, e1, e2, e3⟩ := hdOf_put H2.out.u8 (by omega)
      have HG := Lib.hid (head_get' e1 (H2.out.below hb6.out) (by omega))
      clear e1
      obtain ⟨Ac, hslc, hcut⟩ := slice_upto Try.underlying28 info_u8 H2.out (8 : Int) 8 rfl (by omega)
      have HCut := Lib.hid hcut
      clear hcut
      have HT8 : Hid ((bs.take 8).length = 8) := by show (bs.take 8).length = 8; simp; omega
      by_cases hn8 : 8 ≤ n'
      · rw [if_pos hn8] at e3
        have HP2 := fun w => Lib.hid (head_put' w e2 e3)
        clear e2 e3
        have e8 : decide (8 ≤ n') = true := decide_eq_true hn8
        go_wp2_with (first
          | (go_at_call 57; (with_reducible refine HG.out.mono ?_); rintro e w8 ⟨rfl, hb⟩; have HB8 := Lib.hid (hb6.out.trans (hb.mono hb6.out.size)); clear hb)
          | (refine wpList_store_rowTo rfl 48 _ _ rfl rfl w8.heap.size #[.int .i64 v', .int .i64 t', .int .i64 n', .int .u32 x'] rfl rfl _ _ (heap_alloc_new _ _) (by kernel_rfl) (by kernel_rfl) (by kernel_rfl) ?_; rw [alloc_setRow]; have hb9 := Lib.hid (HB8.out.alloc HB8.out.size (.cells #[.int .i64 v', .int .i64 t', .int .i64 n', .int .u32 x'] 48)); have HHb := heap_alloc_new w8 (.cells #[.int .i64 v', .int .i64 t', .int .i64 n', .int .u32 x'] 48); have hs9 : Hid (w8.heap.size < (w8.alloc (.cells #[.int .i64 v', .int .i64 t', .int .i64 n', .int .u32 x'] 48)).heap.size) := (by show _ < _; simp); generalize w8.alloc (.cells #[.int .i64 v', .int .i64 t', .int .i64 n', .int .u32 x'] 48) = w9 at hb9 HHb hs9 ⊢; have d0 := cell_heap HHb 0; have d1 := cell_heap HHb 1; have d2 := cell_heap HHb 2; have d3 := cell_heap HHb 3; have HHb := Lib.hid HHb)
          | (go_at_call 55; (with_reducible refine (HP2 _).out.mono ?_); rintro e w10 ⟨vp, rfl, hop, hb⟩; have HB10 := Lib.hid (hb9.out.trans (hb.mono hb9.out.size)); have HHc := (hb.block _ hs9.out).trans HHb.out; have d0 := cell_heap HHc 0; have d1 := cell_heap HHc 1; have d2 := cell_heap HHc 2; have d3 := cell_heap HHc 3; rw [HT8.out] at hop; have HX10 := Lib.hid (Ints.of_own hop (fun z hz => HCut.out.2 z hz)); obtain ⟨ap, capp, rfl⟩ := own_slice hop; clear hb hop HHc)
          | (go_at_call 25; (with_reducible refine (ref_bytes _ _ _ _ _ HX10.out (HCut.out.below HB10.out)).mono ?_); rintro e w11 ⟨rfl, hb⟩; rw [show decide (bs.take 8 = bs.take 8) = true from decide_eq_true rfl]; have HB11 := Lib.hid (HB10.out.trans (hb.mono HB10.out.size)); clear hb)
          | (go_at_call 32; (with_reducible refine (sure06 _).mono ?_); rintro e w12 ⟨rfl, hb⟩; have HB12 := Lib.hid (HB11.out.trans (hb.mono HB11.out.size)); clear hb))
        go_ret
        exact ⟨rfl, HB12.out⟩
      · rw [if_neg hn8] at e3
        have HP2 := fun w => Lib.hid (head_put' w e2 e3)
        clear e2 e3
        have e8 : decide (8 ≤ n') = false := decide_eq_false hn8
        go_wp2_with (first
          | (go_at_call 57; (with_reducible refine HG.out.mono ?_); rintro e w8 ⟨rfl, hb⟩; have HB8 := Lib.hid (hb6.out.trans (hb.mono hb6.out.size)); clear hb)
          | (refine wpList_store_rowTo rfl 48 _ _ rfl rfl w8.heap.size #[.int .i64 v', .int .i64 t', .int .i64 n', .int .u32 x'] rfl rfl _ _ (heap_alloc_new _ _) (by kernel_rfl) (by kernel_rfl) (by kernel_rfl) ?_; rw [alloc_setRow]; have hb9 := Lib.hid (HB8.out.alloc HB8.out.size (.cells #[.int .i64 v', .int .i64 t', .int .i64 n', .int .u32 x'] 48)); have HHb := heap_alloc_new w8 (.cells #[.int .i64 v', .int .i64 t', .int .i64 n', .int .u32 x'] 48); have hs9 : Hid (w8.heap.size < (w8.alloc (.cells #[.int .i64 v', .int .i64 t', .int .i64 n', .int .u32 x'] 48)).heap.size) := (by show _ < _; simp); generalize w8.alloc (.cells #[.int .i64 v', .int .i64 t', .int .i64 n', .int .u32 x'] 48) = w9 at hb9 HHb hs9 ⊢; have d0 := cell_heap HHb 0; have d1 := cell_heap HHb 1; have d2 := cell_heap HHb 2; have d3 := cell_heap HHb 3; have HHb := Lib.hid HHb)
          | (go_at_call 55; (with_reducible refine (HP2 _).out.mono ?_); rintro e w10 ⟨vp, rfl, hop, hb⟩; have HB10 := Lib.hid (hb9.out.trans (hb.mono hb9.out.size)); have HHc := (hb.block _ hs9.out).trans HHb.out; have d0 := cell_heap HHc 0; have d1 := cell_heap HHc 1; have d2 := cell_heap HHc 2; have d3 := cell_heap HHc 3; clear hb hop HHc)
          | (go_at_call 32; (with_reducible refine (sure06 _).mono ?_); rintro e w12 ⟨rfl, hb⟩; have HB12 := Lib.hid (HB10.out.trans (hb.mono HB10.out.size)); clear hb))
        go_ret
        exact ⟨rfl, HB12.out⟩
  · have ne : (er == 0) = false := by simpa using her
    clear hback her
    go_enter Try.func15, Try.ntmps15
    go_wp2_with fail
    (with_reducible refine (HPut _).out.mono ?_)
    rintro e w2 ⟨va, rfl, ho, hb⟩
    have HB2 := Lib.hid (below1 hb)
    clear ho hb
    go_wp2_with fail
    by_cases h8 : bs.length < 8
    · have HG := Lib.hid (head_get' (show hdOf bs = (⟨0, 0, 0, 0⟩, 10002) by rw [hdOf, if_pos h8]) (H2.out.below HB2.out) (by omega))
      go_wp2_with (first
        | (go_at_call 57; (with_reducible refine HG.out.mono ?_); rintro e w8 ⟨rfl, hb⟩; have HB8 := Lib.hid (HB2.out.trans (hb.mono HB2.out.size)); clear hb)
        | (refine wpList_store_rowTo rfl 48 _ _ rfl rfl w8.heap.size #[.int .i64 0, .int .i64 0, .int .i64 0, .int .u32 0] rfl rfl _ _ (heap_alloc_new _ _) (by kernel_rfl) (by kernel_rfl) (by kernel_rfl) ?_; rw [alloc_setRow]; have hb9 := Lib.hid (HB8.out.alloc HB8.out.size (.cells #[.int .i64 0, .int .i64 0, .int .i64 0, .int .u32 0] 48)); have HHb := heap_alloc_new w8 (.cells #[.int .i64 0, .int .i64 0, .int .i64 0, .int .u32 0] 48); generalize w8.alloc (.cells #[.int .i64 0, .int .i64 0, .int .i64 0, .int .u32 0] 48) = w9 at hb9 HHb ⊢; have d0 := cell_heap HHb 0; have d1 := cell_heap HHb 1; have d2 := cell_heap HHb 2; have d3 := cell_heap HHb 3; clear HHb)
        | (go_at_call 32; (with_reducible refine (sure06 _).mono ?_); rintro e w10 ⟨rfl, hb⟩; have HB10 := Lib.hid (hb9.out.trans (hb.mono hb9.out.size)); clear hb))
      go_ret
      exact ⟨rfl, HB10.out⟩
    · obtain ⟨⟨v', t', n', x'⟩, e1, e2, e3⟩ := hdOf_put H2.out.u8 (by omega)
      have HG := Lib.hid (head_get' e1 (H2.out.below HB2.out) (by omega))
      clear e1
      obtain ⟨Ac, hslc, hcut⟩ := slice_upto Try.underlying28 info_u8 H2.out (8 : Int) 8 rfl (by omega)
      have HCut := Lib.hid hcut
      clear hcut
      have HT8 : Hid ((bs.take 8).length = 8) := by show (bs.take 8).length = 8; simp; omega
      by_cases hn8 : 8 ≤ n'
      · rw [if_pos hn8] at e3
        have HP2 := fun w => Lib.hid (head_put' w e2 e3)
        clear e2 e3
        have e8 : decide (8 ≤ n') = true := decide_eq_true hn8
        go_wp2_with (first
          | (go_at_call 57; (with_reducible refine HG.out.mono ?_); rintro e w8 ⟨rfl, hb⟩; have HB8 := Lib.hid (HB2.out.trans (hb.mono HB2.out.size)); clear hb)
          | (refine wpList_store_rowTo rfl 48 _ _ rfl rfl w8.heap.size #[.int .i64 v', .int .i64 t', .int .i64 n', .int .u32 x'] rfl rfl _ _ (heap_alloc_new _ _) (by kernel_rfl) (by kernel_rfl) (by kernel_rfl) ?_; rw [alloc_setRow]; have hb9 := Lib.hid (HB8.out.alloc HB8.out.size (.cells #[.int .i64 v', .int .i64 t', .int .i64 n', .int .u32 x'] 48)); have HHb := heap_alloc_new w8 (.cells #[.int .i64 v', .int .i64 t', .int .i64 n', .int .u32 x'] 48); have hs9 : Hid (w8.heap.size < (w8.alloc (.cells #[.int .i64 v', .int .i64 t', .int .i64 n', .int .u32 x'] 48)).heap.size) := (by show _ < _; simp); generalize w8.alloc (.cells #[.int .i64 v', .int .i64 t', .int .i64 n', .int .u32 x'] 48) = w9 at hb9 HHb hs9 ⊢; have d0 := cell_heap HHb 0; have d1 := cell_heap HHb 1; have d2 := cell_heap HHb 2; have d3 := cell_heap HHb 3; have HHb := Lib.hid HHb)
          | (go_at_call 55; (with_reducible refine (HP2 _).out.mono ?_); rintro e w10 ⟨vp, rfl, hop, hb⟩; have HB10 := Lib.hid (hb9.out.trans (hb.mono hb9.out.size)); have HHc := (hb.block _ hs9.out).trans HHb.out; have d0 := cell_heap HHc 0; have d1 := cell_heap HHc 1; have d2 := cell_heap HHc 2; have d3 := cell_heap HHc 3; rw [HT8.out] at hop; have HX10 := Lib.hid (Ints.of_own hop (fun z hz => HCut.out.2 z hz)); obtain ⟨ap, capp, rfl⟩ := own_slice hop; clear hb hop HHc)
          | (go_at_call 25; (with_reducible refine (ref_bytes _ _ _ _ _ HX10.out (HCut.out.below HB10.out)).mono ?_); rintro e w11 ⟨rfl, hb⟩; rw [show decide (bs.take 8 = bs.take 8) = true from decide_eq_true rfl]; have HB11 := Lib.hid (HB10.out.trans (hb.mono HB10.out.size)); clear hb)
          | (go_at_call 32; (with_reducible refine (sure06 _).mono ?_); rintro e w12 ⟨rfl, hb⟩; have HB12 := Lib.hid (HB11.out.trans (hb.mono HB11.out.size)); clear hb))
        go_ret
        exact ⟨rfl, HB12.out⟩
      · rw [if_neg hn8] at e3
        have HP2 := fun w => Lib.hid (head_put' w e2 e3)
        clear e2 e3
        have e8 : decide (8 ≤ n') = false := decide_eq_false hn8
        go_wp2_with (first
          | (go_at_call 57; (with_reducible refine HG.out.mono ?_); rintro e w8 ⟨rfl, hb⟩; have HB8 := Lib.hid (HB2.out.trans (hb.mono HB2.out.size)); clear hb)
          | (refine wpList_store_rowTo rfl 48 _ _ rfl rfl w8.heap.size #[.int .i64 v', .int .i64 t', .int .i64 n', .int .u32 x'] rfl rfl _ _ (heap_alloc_new _ _) (by kernel_rfl) (by kernel_rfl) (by kernel_rfl) ?_; rw [alloc_setRow]; have hb9 := Lib.hid (HB8.out.alloc HB8.out.size (.cells #[.int .i64 v', .int .i64 t', .int .i64 n', .int .u32 x'] 48)); have HHb := heap_alloc_new w8 (.cells #[.int .i64 v', .int .i64 t', .int .i64 n', .int .u32 x'] 48); have hs9 : Hid (w8.heap.size < (w8.alloc (.cells #[.int .i64 v', .int .i64 t', .int .i64 n', .int .u32 x'] 48)).heap.size) := (by show _ < _; simp); generalize w8.alloc (.cells #[.int .i64 v', .int .i64 t', .int .i64 n', .int .u32 x'] 48) = w9 at hb9 HHb hs9 ⊢; have d0 := cell_heap HHb 0; have d1 := cell_heap HHb 1; have d2 := cell_heap HHb 2; have d3 := cell_heap HHb 3; have HHb := Lib.hid HHb)
          | (go_at_call 55; (with_reducible refine (HP2 _).out.mono ?_); rintro e w10 ⟨vp, rfl, hop, hb⟩; have HB10 := Lib.hid (hb9.out.trans (hb.mono hb9.out.size)); have HHc := (hb.block _ hs9.out).trans HHb.out; have d0 := cell_heap HHc 0; have d1 := cell_heap HHc 1; have d2 := cell_heap HHc 2; have d3 := cell_heap HHc 3; clear hb hop HHc)
          | (go_at_call 32; (with_reducible refine (sure06 _).mono ?_); rintro e w12 ⟨rfl, hb⟩; have HB12 := Lib.hid (HB10.out.trans (hb.mono HB10.out.size)); clear hb))
        go_ret
        exact ⟨rfl, HB12.out⟩
end Go.Proofs.Ytdljlcbjpfgmcaa
