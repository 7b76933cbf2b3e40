/- The walks of the document's head (gunwaleref06). Conditions: the numbers of the head are of their types; the argument reads as bytes. -/
import Derived.Test.YtdljlcbjpfgmcaaHeadC
import Derived.Test.YtdljlcbjpfgmcaaTail
import Derived.Great.BuildSlice
namespace Go.Proofs.Ytdljlcbjpfgmcaa
open Go.RowKit
set_option maxRecDepth 100000
set_option maxHeartbeats 4000000

theorem putL_head6 {v t n x : Int} (hv : 0 ≤ v ∧ v ≤ 255) (ht : 0 ≤ t ∧ t ≤ 255) (hn : 0 ≤ n ∧ n ≤ 65535) (hx : 0 ≤ x ∧ x < 4294967296) : putL [1, 1, 2, 4] [v, t, n, x] = some (be 1 v ++ be 1 t ++ be 2 n ++ be 4 x) := by
  have f1 : fitsW v 1 = true := by simp [fitsW]; omega
  have f2 : fitsW t 1 = true := by simp [fitsW]; omega
  have f3 : fitsW n 2 = true := by simp [fitsW]; omega
  have f4 : fitsW x 4 = true := by simp [fitsW]; omega
  simp [putL, f1, f2, f3, f4]
theorem leasts_wf : ∀ z ∈ leasts, (Lit.int .i64 z).wf = true := by decide
theorem info_int : (Try.prog.info? 3).map (fun i => (i.zero, i.size, i.bytes)) = some (some (.int .i64 0), 1, 8) := by kernel_rfl
theorem wpList_leasts {ops : Array Oper} {rest : List Oper} {o : Oper} {a : Act} {w : World} {Q : Exit → Act → World → Prop} (hg : o.guard = none) (ho : o.op = .buildSlice 22 30 ((leasts.zipIdx 0).map fun x => (x.2, Operand.const (Value.int .i64 x.1))).toArray)
    (h : wpList Try.prog ops Q rest (a.put o.dst (.slice (some ⟨w.heap.size, 0, none⟩) 30 30)) (w.alloc (.cells leastsV 3))) : wpList Try.prog ops Q (o :: rest) a w := by
  obtain ⟨i, hi, hz, hsize, -⟩ := info_parts info_int
  refine wpList_buildSlice hg 22 3 30 _ ho leastsV i _ Try.underlying22 hi hz (by rw [hsize]; decide) (by rw [hsize]; decide) ?_ h
  rw [hsize]
  kernel_rfl

theorem ref_answer (t : Int) (w : World) :
    Calls Try.prog 59 #[.int .i64 t] w fun e w' => e = .returned (.tuple #[.int .i64 (answerS t).1, .bool (answerS t).2]) ∧ w = w' := by
  rcases (show t = 5 ∨ t = 7 ∨ t = 2 ∨ t = 18 ∨ t = 20 ∨ t = 22 ∨ t = 24 ∨ t = 26 ∨ (t ≠ 5 ∧ t ≠ 7 ∧ t ≠ 2 ∧ t ≠ 18 ∧ t ≠ 20 ∧ t ≠ 22 ∧ t ≠ 24 ∧ t ≠ 26) by omega) with rfl | rfl | rfl | rfl | rfl | rfl | rfl | rfl | ⟨h0, h1, h2, h3, h4, h5, h6, h7⟩
  case inr.inr.inr.inr.inr.inr.inr.inr =>
    have e0 : answerS t = (0, false) := by rw [answerS, if_neg (by omega)]
    rw [e0]
    have b0 : (t == 5) = false := by simpa using h0
    have b1 : (t == 7) = false := by simpa using h1
    have b2 : (t == 2) = false := by simpa using h2
    have b3 : (t == 18) = false := by simpa using h3
    have b4 : (t == 20) = false := by simpa using h4
    have b5 : (t == 22) = false := by simpa using h5
    have b6 : (t == 24) = false := by simpa using h6
    have b7 : (t == 26) = false := by simpa using h7
    clear h0 h1 h2 h3 h4 h5 h6 h7
    go_enter Try.func59, Try.ntmps59
    go_wp2
    go_ret2
    exact ⟨rfl, rfl⟩
  all_goals
    go_enter Try.func59, Try.ntmps59
    go_wp2
    go_ret2
    exact ⟨rfl, rfl⟩

theorem cell_leasts3 {w : World} {k : Nat} (hk : k < 30) : (w.alloc (.cells leastsV 3)).cell? ⟨w.heap.size, k, none⟩ = some (.int .i64 (leastS k)) := by
  have h1 : leastS (k : Int) = leasts.getD k 0 := by rw [leastS, if_neg (by omega)]; rfl
  rw [h1, cell_new]
  have : k < leasts.length := hk
  simp [leastsV, this]

theorem ref_least (t : Int) (w : World) :
    Calls Try.prog 61 #[.int .i64 t] w fun e w' => e = .returned (.int .i64 (leastS t)) ∧ Below w.heap.size w w' := by
  by_cases h0 : t < 0
  · go_enter Try.func61, Try.ntmps61
    go_wp2_with (refine wpList_leasts rfl rfl ?_)
    go_ret
    refine ⟨?_, below_alloc2 _⟩
    rw [leastS, if_pos h0]; rfl
  · obtain ⟨k, rfl⟩ : ∃ k : Nat, t = k := ⟨t.toNat, by omega⟩
    by_cases h1 : 30 ≤ k
    · go_enter Try.func61, Try.ntmps61
      go_wp2_with (refine wpList_leasts rfl rfl ?_)
      go_ret
      refine ⟨?_, below_alloc2 _⟩
      rw [leastS, if_neg (by omega), List.getD_eq_getElem?_getD, List.getElem?_eq_none (by simp [leasts]; omega)]; rfl
    · have HC := Lib.hid (cell_leasts3 (w := w) (k := k) (by omega))
      go_enter Try.func61, Try.ntmps61
      go_wp2_with (refine wpList_leasts rfl rfl ?_; have hc := HC.out; have HB : Hid (Below w.heap.size w (w.alloc (.cells leastsV 3))) := below_alloc2 _; generalize w.alloc (.cells leastsV 3) = w1 at hc HB ⊢)
      go_ret
      exact ⟨rfl, HB.out⟩

theorem ref_check (v t n x : Int) (w : World) :
    Calls Try.prog 60 #[.agg #[.int .i64 v, .int .i64 t, .int .i64 n, .int .u32 x]] w fun e w' => e = .returned (.int .i64 (checkS v t n)) ∧ Below w.heap.size w w' := by
  unfold checkS
  have HL := fun w => Lib.hid (ref_least t w)
  generalize leastS t = l at HL ⊢
  by_cases hbad : v ≠ 4 ∧ ¬ (t = 0 ∧ 1 ≤ v ∧ v ≤ 255)
  · rw [checkL, if_pos hbad]
    have e0 : (v != 4) = true := by simpa using hbad.1
    rcases (show t ≠ 0 ∨ (t = 0 ∧ ¬ 1 ≤ v) ∨ (t = 0 ∧ 1 ≤ v ∧ ¬ v ≤ 255) by omega) with g | ⟨rfl, g⟩ | ⟨rfl, g1, g⟩
    · have e1 : (t == 0) = false := by simpa using g
      clear hbad
      go_enter Try.func60, Try.ntmps60
      go_wp2
      go_ret
      exact ⟨rfl, below_alloc2 _⟩
    · have e1 : decide (1 ≤ v) = false := decide_eq_false g
      clear hbad
      go_enter Try.func60, Try.ntmps60
      go_wp2
      go_ret
      exact ⟨rfl, below_alloc2 _⟩
    · have e1 : decide (1 ≤ v) = true := decide_eq_true g1
      have e2 : decide (v ≤ 255) = false := decide_eq_false g
      clear hbad
      go_enter Try.func60, Try.ntmps60
      go_wp2
      go_ret
      exact ⟨rfl, below_alloc2 _⟩
  · rw [checkL, if_neg hbad]
    have hB : ((v != 4) = false) ∨ ((v != 4) = true ∧ t = 0 ∧ decide (1 ≤ v) = true ∧ decide (v ≤ 255) = true) := by
      by_cases h4 : v = 4
      · exact .inl (by simpa using h4)
      · exact .inr ⟨by simpa using h4, by omega, decide_eq_true (by omega), decide_eq_true (by omega)⟩
    clear hbad
    by_cases hl : l = 0
    · rw [if_pos hl]
      subst hl
      rcases hB with e1 | ⟨e1, rfl, e2, e3⟩
      all_goals
        go_enter Try.func60, Try.ntmps60
        go_wp2_with ((go_at_call 61; (with_reducible refine (HL _).out.mono ?_); rintro e w1 ⟨rfl, hb⟩; have HB := Lib.hid hb; clear hb))
        go_ret
        exact ⟨rfl, below1 HB.out⟩
    · rw [if_neg hl]
      have el : (l == 0) = false := by simpa using hl
      clear hl
      by_cases g1 : n < l
      · rw [if_pos (.inl g1)]
        have d1 : decide (n < l) = true := decide_eq_true g1
        clear g1
        rcases hB with e1 | ⟨e1, rfl, e2, e3⟩
        all_goals
          go_enter Try.func60, Try.ntmps60
          go_wp2_with (first
            | (go_at_call 61; (with_reducible refine (HL _).out.mono ?_); rintro e w1 ⟨rfl, hb⟩; have HH := (hb.block w.heap.size (by simp)).trans (heap_alloc_new _ _); have c0 := cell_heap HH 0; have c1 := cell_heap HH 1; have c2 := cell_heap HH 2; have HB := Lib.hid hb; clear hb HH)
            | go_region_with (go_at_call 61; (with_reducible refine (HL _).out.mono ?_); rintro e w2 ⟨rfl, hb⟩; have hb2 := (below_drewN HB.out 1).trans (hb.mono HB.out.size); have HH2 := (hb2.block w.heap.size (by simp)).trans (heap_alloc_new _ _); have e0 := cell_heap HH2 0; have e1 := cell_heap HH2 1; have e2 := cell_heap HH2 2; have HB2 := Lib.hid hb2; clear hb hb2 HH2))
          all_goals go_ret
          all_goals exact ⟨rfl, below1 HB2.out⟩
      · by_cases g2 : 65535 < n
        · rw [if_pos (.inr g2)]
          have d1 : decide (n < l) = false := decide_eq_false g1
          have d2 : decide (65535 < n) = true := decide_eq_true g2
          clear g1 g2
          rcases hB with e1 | ⟨e1, rfl, e2, e3⟩
          all_goals
            go_enter Try.func60, Try.ntmps60
            go_wp2_with (first
              | (go_at_call 61; (with_reducible refine (HL _).out.mono ?_); rintro e w1 ⟨rfl, hb⟩; have HH := (hb.block w.heap.size (by simp)).trans (heap_alloc_new _ _); have c0 := cell_heap HH 0; have c1 := cell_heap HH 1; have c2 := cell_heap HH 2; have HB := Lib.hid hb; clear hb HH)
              | go_region_with (go_at_call 61; (with_reducible refine (HL _).out.mono ?_); rintro e w2 ⟨rfl, hb⟩; have hb2 := (below_drewN HB.out 1).trans (hb.mono HB.out.size); have HH2 := (hb2.block w.heap.size (by simp)).trans (heap_alloc_new _ _); have e0 := cell_heap HH2 0; have e1 := cell_heap HH2 1; have e2 := cell_heap HH2 2; have HB2 := Lib.hid hb2; clear hb hb2 HH2))
            all_goals go_ret
            all_goals exact ⟨rfl, below1 HB2.out⟩
        · rw [if_neg (by omega)]
          have d1 : decide (n < l) = false := decide_eq_false g1
          have d2 : decide (65535 < n) = false := decide_eq_false g2
          clear g1 g2
          rcases hB with e1 | ⟨e1, rfl, e2, e3⟩
          all_goals
            go_enter Try.func60, Try.ntmps60
            go_wp2_with (first
              | (go_at_call 61; (with_reducible refine (HL _).out.mono ?_); rintro e w1 ⟨rfl, hb⟩; have HH := (hb.block w.heap.size (by simp)).trans (heap_alloc_new _ _); have c0 := cell_heap HH 0; have c1 := cell_heap HH 1; have c2 := cell_heap HH 2; have HB := Lib.hid hb; clear hb HH)
              | go_region_with (go_at_call 61; (with_reducible refine (HL _).out.mono ?_); rintro e w2 ⟨rfl, hb⟩; have hb2 := (below_drewN HB.out 1).trans (hb.mono HB.out.size); have HH2 := (hb2.block w.heap.size (by simp)).trans (heap_alloc_new _ _); have e0 := cell_heap HH2 0; have e1 := cell_heap HH2 1; have e2 := cell_heap HH2 2; have HB2 := Lib.hid hb2; clear hb hb2 HH2))
            all_goals go_ret
            all_goals exact ⟨rfl, below1 HB2.out⟩

theorem ref_get6 {va : Value} {bs : List Int} {w : World} (h : Ints .u8 w va bs) :
    Calls Try.prog 58 #[va] w fun e w' => e = .returned (.tuple #[(hdOf bs).1.val, .int .i64 (hdOf bs).2]) ∧ Below w.heap.size w w' := by
  have hb := h.u8
  have HG : Calls Try.prog 27 #[.slice (some ⟨w.heap.size + 1, 0, none⟩) 4 4, va] ((w.alloc (.cells #[.int .i64 0, .int .i64 0, .int .i64 0, .int .u32 0] 80)).alloc (.cells #[.int .i64 1, .int .i64 1, .int .i64 2, .int .i64 4] 3)) (GetI _ [1, 1, 2, 4] bs) :=
    ref_get_i _ va [1, 1, 2, 4] bs _ (Ints.lit .i64 (w.alloc _) 3 [1, 1, 2, 4] _ (by simp) (by decide) (by decide)) ((h.alloc _).alloc _)
  have HBx : Hid (Below (w.alloc (.cells #[.int .i64 0, .int .i64 0, .int .i64 0, .int .u32 0] 80)).heap.size (w.alloc (.cells #[.int .i64 0, .int .i64 0, .int .i64 0, .int .u32 0] 80)) ((w.alloc (.cells #[.int .i64 0, .int .i64 0, .int .i64 0, .int .u32 0] 80)).alloc (.cells #[.int .i64 1, .int .i64 1, .int .i64 2, .int .i64 4] 3))) := below_alloc2 _
  unfold GetI at HG
  clear h
  by_cases h8 : bs.length < 8
  · rw [hd_short h8] at HG
    have HG := Lib.hid HG
    rw [show hdOf bs = (⟨0, 0, 0, 0⟩, 10002) by rw [hdOf, if_pos h8]]
    clear hb
    go_enter Try.func58, Try.ntmps58
    go_wp2_with (first
      | (go_at_call 27; (with_reducible refine HG.out.mono ?_); rintro e w2 ⟨vl, rfl, hl, hb⟩; have HB2 := Lib.hid (HBx.out.trans (hb.mono HBx.out.size)); clear hl hb)
      | (refine wpList_store_rowTo rfl 80 _ _ rfl rfl w.heap.size #[.int .i64 0, .int .i64 0, .int .i64 0, .int .u32 0] rfl rfl _ _ ((HB2.out.block _ (by simp)).trans (heap_alloc_new _ _)) (by kernel_rfl) (by kernel_rfl) (by kernel_rfl) ?_; have hheap := setRow_heap w2 w.heap.size _ #[.int .i64 0, .int .i64 0, .int .i64 0, .int .u32 0] _ _ ((HB2.out.block _ (by simp)).trans (heap_alloc_new _ _)); have HB4 := Lib.hid (below_setRow (below1 HB2.out) (Nat.le_refl _) #[.int .i64 0, .int .i64 0, .int .i64 0, .int .u32 0])))
    refine bodyPost_ret (results_row_tmp rfl _ _ w.heap.size _ _ _ _ rfl hheap Try.underlying80 rfl (by kernel_rfl)) rfl ?_
    exact ⟨rfl, HB4.out⟩
  · rw [hd_fine (by omega)] at HG
    have h1 := val_bd hb 0 1 (by omega)
    have h2 := val_bd hb 1 1 (by omega)
    have h3 := val_bd hb 2 2 (by omega)
    have h4 := val_bd hb 4 4 (by omega)
    rw [List.drop_zero] at h1
    rw [show hdOf bs = (⟨valL (bs.take 1), valL ((bs.drop 1).take 1), valL ((bs.drop 2).take 2), valL ((bs.drop 4).take 4)⟩, 0) by rw [hdOf, if_neg h8]]
    clear hb
    generalize valL (bs.take 1) = x1 at h1 HG ⊢
    generalize valL ((bs.drop 1).take 1) = x2 at h2 HG ⊢
    generalize valL ((bs.drop 2).take 2) = x3 at h3 HG ⊢
    generalize valL ((bs.drop 4).take 4) = x4 at h4 HG ⊢
    have HG := Lib.hid HG
    obtain ⟨h1a, h1b⟩ := h1
    obtain ⟨h2a, h2b⟩ := h2
    obtain ⟨h3a, h3b⟩ := h3
    obtain ⟨h4a, h4b⟩ := h4
    have W1 : Hid (IntKind.wrap .i64 x1 = x1) := wrap_small (by omega) (by simp at h1b; omega)
    have W2 : Hid (IntKind.wrap .i64 x2 = x2) := wrap_small (by omega) (by simp at h2b; omega)
    have W3 : Hid (IntKind.wrap .i64 x3 = x3) := wrap_small (by omega) (by simp at h3b; omega)
    have W4 : Hid (IntKind.wrap .u32 x4 = x4) := wrap_u32 h4a (by simp at h4b; omega)
    go_enter Try.func58, Try.ntmps58
    go_wp2_with (first
      | (go_at_call 27; (with_reducible refine HG.out.mono ?_); rintro e w2 ⟨vl, rfl, hl, hb⟩; obtain ⟨ax, capx, bx, ox, rfl, -, -, -, hax, hcx⟩ := hl.open; obtain rfl := hax (by simp); have d0 : w2.cell? ⟨bx, ox, none⟩ = some (.int .u64 x1) := hcx 0 (by simp); have d1 : w2.cell? ⟨bx, ox + 1, none⟩ = some (.int .u64 x2) := hcx 1 (by simp); have d2 : w2.cell? ⟨bx, ox + 2, none⟩ = some (.int .u64 x3) := hcx 2 (by simp); have d3 : w2.cell? ⟨bx, ox + 3, none⟩ = some (.int .u64 x4) := hcx 3 (by simp); have HB2 := Lib.hid (HBx.out.trans (hb.mono HBx.out.size)); have HH2 := Lib.hid ((HB2.out.block w.heap.size (by simp)).trans (heap_alloc_new _ _)); clear hl hb hax hcx)
      | fail)
    go_still_tail 17, (by kernel_rfl)
    rw [W1.out, W2.out, W3.out, W4.out]
    go_wp2_with (refine wpList_store_rowTo rfl 80 _ _ rfl rfl w.heap.size #[.int .i64 x1, .int .i64 x2, .int .i64 x3, .int .u32 x4] rfl rfl _ _ HH2.out (by kernel_rfl) (by kernel_rfl) (by kernel_rfl) ?_; have hheap := setRow_heap { w2 with drawn := w2.drawn + 1 } w.heap.size _ #[.int .i64 x1, .int .i64 x2, .int .i64 x3, .int .u32 x4] _ _ HH2.out; have HB4 := Lib.hid (below_setRow (below_drewN (below1 HB2.out) 1) (Nat.le_refl _) #[.int .i64 x1, .int .i64 x2, .int .i64 x3, .int .u32 x4]))
    refine bodyPost_ret (results_row_tmp rfl _ _ w.heap.size _ _ _ _ rfl hheap Try.underlying80 rfl (by kernel_rfl)) rfl ?_
    exact ⟨rfl, HB4.out⟩

theorem ref_put6 (h : Hd) (ho : h.ok) (w : World) :
    Calls Try.prog 56 #[h.val] w (fun e w' => ∃ v, e = .returned (.tuple #[v, .int .i64 (putH h).2]) ∧ Ints .u8 w' v (putH h).1 ∧ Below w.heap.size w w') := by
  obtain ⟨v, t, n, x⟩ := h
  have hv := i64_bd ho.v
  have ht := i64_bd ho.t
  have hn := i64_bd ho.n
  have hx := u32_bd ho.x
  clear ho
  simp only at hv ht hn hx
  show Calls Try.prog 56 #[.agg #[.int .i64 v, .int .i64 t, .int .i64 n, .int .u32 x]] w _
  by_cases hbad : v < 0 ∨ 255 < v ∨ t < 0 ∨ 255 < t ∨ n < 8 ∨ 65535 < n
  · have HP : Hid (putH ⟨v, t, n, x⟩ = ([], 10001)) := by show putH _ = _; rw [putH, if_pos hbad]
    rw [HP.out]
    rcases (show v < 0 ∨ (¬ v < 0 ∧ 255 < v) ∨ (¬ v < 0 ∧ ¬ 255 < v ∧ t < 0) ∨ (¬ v < 0 ∧ ¬ 255 < v ∧ ¬ t < 0 ∧ 255 < t) ∨ (¬ v < 0 ∧ ¬ 255 < v ∧ ¬ t < 0 ∧ ¬ 255 < t ∧ n < 8) ∨ (¬ v < 0 ∧ ¬ 255 < v ∧ ¬ t < 0 ∧ ¬ 255 < t ∧ ¬ n < 8 ∧ 65535 < n) by omega) with g1 | ⟨g1, g2⟩ | ⟨g1, g2, g3⟩ | ⟨g1, g2, g3, g4⟩ | ⟨g1, g2, g3, g4, g5⟩ | ⟨g1, g2, g3, g4, g5, g6⟩
    all_goals
      clear hbad
      go_enter Try.func56, Try.ntmps56
      go_wp2
      go_ret2
      exact ⟨_, rfl, Ints.nil _ _, below_alloc2 _⟩
  · have e1 : decide (v < 0) = false := decide_eq_false (by omega)
    have e2 : decide (t < 0) = false := decide_eq_false (by omega)
    have e3 : decide (n < 8) = false := decide_eq_false (by omega)
    have e4 : decide (255 < v) = false := decide_eq_false (by omega)
    have e5 : decide (255 < t) = false := decide_eq_false (by omega)
    have e6 : decide (65535 < n) = false := decide_eq_false (by omega)
    have hP : putH ⟨v, t, n, x⟩ = (be 1 v ++ be 1 t ++ be 2 n ++ be 4 x, 0) := by rw [putH, if_neg (by simp only; omega)]
    have hput := putL_head6 (v := v) (t := t) (n := n) (x := x) (by omega) (by omega) (by omega) hx
    have hS : putS [1, 1, 2, 4] [v, t, n, x] = some (be 1 v ++ be 1 t ++ be 2 n ++ be 4 x) := by
      rw [putS, if_pos (by simp [RightS, okW, cntL]), hput]
    rw [hP]
    have W1 : IntKind.wrap .u64 v = v := wrap_u64 (by omega) (by omega)
    have W2 : IntKind.wrap .u64 t = t := wrap_u64 (by omega) (by omega)
    have W3 : IntKind.wrap .u64 n = n := wrap_u64 (by omega) (by omega)
    have W4 : IntKind.wrap .u64 x = x := wrap_u64 (by omega) (by omega)
    have F4 : ∀ z ∈ [v, t, n, x], (Lit.int .u64 z).wf = true := U64.wf (by intro z hz; simp at hz; omega)
    have HPt : Calls Try.prog 24 #[.slice (some ⟨w.heap.size + 1, 0, none⟩) 4 4, .slice (some ⟨w.heap.size + 1 + 1, 0, none⟩) 4 4] (((w.alloc (.cells #[.int .i64 v, .int .i64 t, .int .i64 n, .int .u32 x] 80)).alloc (.cells #[.int .i64 1, .int .i64 1, .int .i64 2, .int .i64 4] 3)).alloc (.cells #[.int .u64 v, .int .u64 t, .int .u64 n, .int .u64 x] 38)) (PutI _ [1, 1, 2, 4] [v, t, n, x]) := ref_put_i _ _ [1, 1, 2, 4] [v, t, n, x] _ ((Ints.lit .i64 (w.alloc _) 3 [1, 1, 2, 4] _ (by simp) (by decide) (by decide)).alloc _) (Ints.lit .u64 ((w.alloc _).alloc _) 38 [v, t, n, x] _ (by simp) (by simp) F4)
    unfold PutI at HPt
    rw [hS] at HPt
    have HPt := Lib.hid HPt
    have F4 := Lib.hid F4
    have HBx : Hid (Below w.heap.size w (((w.alloc (.cells #[.int .i64 v, .int .i64 t, .int .i64 n, .int .u32 x] 80)).alloc (.cells #[.int .i64 1, .int .i64 1, .int .i64 2, .int .i64 4] 3)).alloc (.cells #[.int .u64 v, .int .u64 t, .int .u64 n, .int .u64 x] 38))) := (((Below.refl _ _).alloc (Nat.le_refl _) _).alloc (by simp) _).alloc (by simp; omega) _
    clear hbad hP hput hS
    generalize be 1 v ++ be 1 t ++ be 2 n ++ be 4 x = l at HPt ⊢
    go_enter Try.func56, Try.ntmps56
    go_wp2_with fail
    (with_reducible refine HPt.out.mono ?_)
    rintro e w2 ⟨va, rfl, ha, hb⟩
    have HA := Lib.hid ha
    have HB := Lib.hid hb
    clear ha hb
    go_wp2_with fail
    go_ret2
    exact ⟨_, rfl, HA.out, HBx.out.trans (HB.out.mono HBx.out.size)⟩
end Go.Proofs.Ytdljlcbjpfgmcaa
