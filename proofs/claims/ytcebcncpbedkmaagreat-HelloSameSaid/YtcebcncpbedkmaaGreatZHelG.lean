/- The walks of hello.Of at one list of versions, and of hello.Choose at two offers. Conditions: none. -/
import Derived.Test.YtcebcncpbedkmaaGreatZHelA
import Derived.Test.YtcebcncpbedkmaaGreatZOutG
namespace Go.Proofs.YtcebcncpbedkmaaGreat
open Go Go.RowKit
set_option maxRecDepth 100000
set_option maxHeartbeats 4000000

theorem hel_of1 {bv : Value} {w : World} : Calls Tryz.prog 68 #[.agg #[.int .i64 1, bv]] w (GotEq true w) := by
  have HB := Lib.hid (below_alloc2 (w := w) (.cells #[.int .i64 1, bv] 40))
  unfold GotEq
  go_enter Tryz.func68, Tryz.ntmps68
  go_wp2_with fail
  go_ret
  exact ⟨rfl, HB.out⟩
theorem idx_of1 {v : Value} {bs : List Int} {w : World} (h : RowsOf ItemR 2 w v [(1, bs)]) : Calls Tryz.prog 67 #[v, .func (.func 68) #[] #[]] w fun e w' => e = .returned (.int .i64 0) ∧ Below w.heap.size w w' := by
  obtain ⟨a, cap, b, off, rfl, hcap, hmx, -, ha, hit⟩ := items_open h
  unfold maxLen at hmx
  obtain rfl := ha (by simp)
  obtain ⟨bv, x0, x1, hbv, -⟩ := hit 0 1 bs rfl
  rw [Nat.zero_mul, Nat.add_zero] at x0 x1
  obtain ⟨av, cv, bbv, ov, rfl, -⟩ := hbv.open
  have hq := hel_of1 (bv := .slice av bs.length cv) (w := w.alloc (.cells #[.int .i64 1, .slice av bs.length cv] 40))
  have HQ := Lib.hid hq
  have HI := Lib.hid h
  simp only [List.length_singleton] at *
  clear h ha hit hbv hq
  go_enter Tryz.func67, Tryz.ntmps67
  go_wp2_with fail
  go_loopw [8] (fun i wr => i = .int .i64 0 ∧ Hid (wr = w)) (fun i _ => 0)
  case atStart => exact ⟨rfl, rfl⟩
  case round =>
    obtain ⟨rfl, HW⟩ := hrel
    obtain rfl := HW.out
    go_wp2_with fail
    refine (hel_of1).mono ?_
    rintro e w2 ⟨rfl, hb⟩
    have HB := Lib.hid hb
    clear hb
    go_wp2_with fail
    go_ret
    exact ⟨rfl, HB.out⟩

/-- A message that has nothing but elements. -/
abbrev msgE (ve : Value) : Array Value := #[.int .i64 0, .int .u32 0, .slice none 0 0, .slice none 0 0, ve, .slice none 0 0, .slice none 0 0, .slice none 0 0, .slice none 0 0, .slice none 0 0, .slice none 0 0, .slice none 0 0, .int .i64 0, .int .i64 0, .slice none 0 0]
theorem hel_of {a4 : Option Addr} {c4 : Nat} {w : World} (h : RowsOf ItemR 2 w (.slice a4 1 c4) [(1, [0, 0, 0, 16])]) :
    Calls Tryz.prog 20 #[.int .i64 4, .agg (msgE (.slice a4 1 c4))] w fun e w' => ∃ v, e = .returned (.agg #[.int .i64 4, .bool true, v]) ∧ w'.ownsRow w.heap.size 3 1 v 1 [.int .i64 4] ∧ Below w.heap.size w w' := by
  have HB0 := Lib.hid ((below_alloc2 (w := w) (.cells (msgE (.slice a4 1 c4)) 35)))
  have HI0 := Lib.hid h
  clear h
  go_enter Tryz.func20, Tryz.ntmps20
  go_wp2_with fail
  refine (idx_of1 (((HI0.out.below ItemR.lasts HB0.out).below ItemR.lasts (below_alloc2 _)).below ItemR.lasts (below_alloc2 _))).mono ?_
  rintro e w1 ⟨rfl, hb⟩
  have hM0 := heap_alloc_new w (.cells (msgE (.slice a4 1 c4)) 35)
  have hR0 := heap_alloc_new (w.alloc (.cells (msgE (.slice a4 1 c4)) 35)) (.cells #[.int .i64 0, .bool false, .slice none 0 0] 61)
  have hO0 := heap_alloc_new ((w.alloc (.cells (msgE (.slice a4 1 c4)) 35)).alloc (.cells #[.int .i64 0, .bool false, .slice none 0 0] 61)) (.cells #[.int .i64 4, .bool false, .slice none 0 0] 61)
  simp only [World.size_alloc] at hR0 hO0
  have hM1 : w1.heap[w.heap.size]? = some (.cells (msgE (.slice a4 1 c4)) 35 (0, 0)) := (hb.block _ (by simp; omega)).trans ((heap_alloc_old _ _ (by simp; omega)).trans ((heap_alloc_old _ _ (by simp)).trans hM0))
  have hR1 : w1.heap[w.heap.size + 1]? = some (.cells #[.int .i64 0, .bool false, .slice none 0 0] 61 (0, 0)) := (hb.block _ (by simp)).trans ((heap_alloc_old _ _ (by simp)).trans hR0)
  have hO1 : w1.heap[w.heap.size + 1 + 1]? = some (.cells #[.int .i64 4, .bool false, .slice none 0 0] 61 (0, 0)) := (hb.block _ (by simp)).trans hO0
  have HB1 : Hid (Below w.heap.size w w1) := Lib.hid ((HB0.out.trans (((below_alloc2 _).trans ((below_alloc2 _).mono (by simp))).mono (by simp))).trans (hb.mono (by simp; omega)))
  have HM1 := Lib.hid hM1
  have HR1 := Lib.hid hR1
  have HO1 := Lib.hid hO1
  have z1 := cell_row hO1 1
  have f1 := frozen_row hO1 1
  have HO2 : Hid ((w1.setCell ⟨w.heap.size + 1 + 1, 1, none⟩ (.bool true)).heap[w.heap.size + 1 + 1]? = some (.cells #[.int .i64 4, .bool true, .slice none 0 0] 61 (0, 0))) := Lib.hid ((heap_put hO1 1 (.bool true)).trans rfl)
  have hg := grown_put w1 (w.heap.size + 1 + 1) 1 (.bool true)
  have HR2 := Lib.hid ((hg.block (w.heap.size + 1) (Array.getElem?_eq_some_iff.1 hR1).1 (fun e => by injection e with e; omega)).trans hR1)
  have HM2 := Lib.hid ((hg.block w.heap.size (Array.getElem?_eq_some_iff.1 hM1).1 (fun e => by injection e with e; omega)).trans hM1)
  have HB2 := Lib.hid (below_row HB1.out HB1.out.size hg (by omega))
  obtain ⟨a, cap, b, off, e, hcap, hmx, -, ha, hit⟩ := items_open HI0.out
  injection e with e1 e2 e3
  subst e1 e3
  obtain rfl := ha (by simp)
  obtain ⟨bv, x0, x1, hbv, -⟩ := hit 0 1 _ rfl
  rw [Nat.zero_mul, Nat.add_zero] at x0 x1
  obtain ⟨av, cv, bb, ob, rfl, -, -, -, hav, hat⟩ := hbv.open
  obtain rfl := hav (by simp)
  have HAt := Lib.hid hat
  have m4 := cell_row HM2.out 4
  have x1 := (HB2.out.cell (World.block_lt_of_cell? _ _ x1)).trans x1
  rw [show ([0, 0, 0, 16] : List Int).length = 4 from rfl] at x1
  clear hM0 hR0 hO0 hM1 hR1 hO1 hb hg ha hit hbv x0 e2 hcap hmx hav hat
  go_wp2_with fail
  go_loopw [30] (fun i wr => ∃ (k : Nat) (lv : Value), k ≤ 32 ∧ i = .int .i64 k ∧ Hid (wr.heap[w.heap.size + 1 + 1]? = some (.cells #[.int .i64 4, .bool true, lv] 61 (0, 0))) ∧ Hid (wr.heap[w.heap.size + 1]? = some (.cells #[.int .i64 0, .bool false, .slice none 0 0] 61 (0, 0))) ∧ Hid (Below w.heap.size w wr) ∧ Hid (k ≤ 4 → lv = .slice none 0 0) ∧ Hid (4 < k → wr.ownsRow w.heap.size 3 1 lv 1 [.int .i64 4])) (fun i _ => 32 - (intOf i).toNat)
  case atStart => exact ⟨0, _, by omega, rfl, HO2.out, HR2.out, HB2.out, fun _ => rfl, fun h => by omega⟩
  case round =>
    obtain ⟨k, lv, hk, rfl, HO, HR, HB, HL, HG⟩ := hrel
    have b0 := (HB.out.cell (World.block_lt_of_cell? _ _ (HAt.out 0 (by decide)))).trans (HAt.out 0 (by decide))
    have b1 := (HB.out.cell (World.block_lt_of_cell? _ _ (HAt.out 1 (by decide)))).trans (HAt.out 1 (by decide))
    have b2 := (HB.out.cell (World.block_lt_of_cell? _ _ (HAt.out 2 (by decide)))).trans (HAt.out 2 (by decide))
    have b3 := (HB.out.cell (World.block_lt_of_cell? _ _ (HAt.out 3 (by decide)))).trans (HAt.out 3 (by decide))
    simp only [List.getD_cons_zero, List.getD_cons_succ, Nat.add_zero] at b0 b1 b2 b3
    clear z1 f1 x1 m4
    have hkk : k = 0 ∨ k = 1 ∨ k = 2 ∨ k = 3 ∨ k = 4 ∨ k = 5 ∨ k = 6 ∨ k = 7 ∨ k = 8 ∨ k = 9 ∨ k = 10 ∨ k = 11 ∨ k = 12 ∨ k = 13 ∨ k = 14 ∨ k = 15 ∨ k = 16 ∨ k = 17 ∨ k = 18 ∨ k = 19 ∨ k = 20 ∨ k = 21 ∨ k = 22 ∨ k = 23 ∨ k = 24 ∨ k = 25 ∨ k = 26 ∨ k = 27 ∨ k = 28 ∨ k = 29 ∨ k = 30 ∨ k = 31 ∨ k = 32 := by omega
    clear hk
    rcases hkk with rfl | rfl | rfl | rfl | rfl | rfl | rfl | rfl | rfl | rfl | rfl | rfl | rfl | rfl | rfl | rfl | rfl | rfl | rfl | rfl | rfl | rfl | rfl | rfl | rfl | rfl | rfl | rfl | rfl | rfl | rfl | rfl | rfl
    case inr.inr.inr.inr.inl =>
      obtain rfl := HL.out (by decide)
      have hsz := (Array.getElem?_eq_some_iff.1 HO.out).1
      have hOx := row_below (below_alloc2 (w := wr) (.cells #[.int .i64 4] 3)) HO.out
      have hRx := row_below (below_alloc2 (w := wr) (.cells #[.int .i64 4] 3)) HR.out
      have HBx := Lib.hid (HB.out.trans ((below_alloc2 (w := wr) (.cells #[.int .i64 4] 3)).mono HB.out.size))
      have HOx := Lib.hid hOx
      have HRx := Lib.hid hRx
      have z2 := cell_row HO.out 2
      have y2 := cell_row hOx 2
      clear hOx hRx
      go_wp2_with (at_builtin; refine wpList_append_sl rfl _ _ _ rfl w.heap.size 3 (.int .i64 0) 1 8 Tryz.underlying59 (by kernel_rfl) rfl (by decide) (.slice none 0 0) 0 [] rfl (World.ownsRow_nil _ _ _ _) (.slice (some ⟨wr.heap.size, 0, none⟩) 1 1) 1 [.int .i64 4] rfl rfl (Sl.new wr [.int .i64 4] 3 1 (by unfold maxLen; omega)) (by simp [Value.oneCell']) (by unfold maxLen; omega) (by omega) HBx.out.size ?_; intro v' w5 hown hg hv; have HN : Hid (v'.ownBlock = none ∨ v'.ownBlock ≠ some (w.heap.size + 1 + 1)) := (by rcases hv with h | h; (left; rw [h]; rfl); (right; rw [h]; intro e; injection e with e; simp at e; omega)); have HO5 := Lib.hid ((hg.block _ (Array.getElem?_eq_some_iff.1 HOx.out).1 (fun e => by cases e)).trans HOx.out); have HR5 := Lib.hid ((hg.block _ (Array.getElem?_eq_some_iff.1 HRx.out).1 (fun e => by cases e)).trans HRx.out); have HB5 := Lib.hid (HBx.out.grown hg HBx.out.size (fun k e => by cases e)); have HG5 := Lib.hid hown; have z5 := cell_row HO5.out 2; have f5 := frozen_row HO5.out 2; clear hg hv; obtain ⟨a', c', rfl⟩ := own_slice hown; clear hown)
      have HO6 := Lib.hid ((heap_put HO5.out 2 (.slice a' (0 + 1) c')).trans (by rfl : _ = some (.cells #[.int .i64 4, .bool true, .slice a' (0 + 1) c'] 61 (0, 0))))
      have hgp := grown_put w5 (w.heap.size + 1 + 1) 2 (.slice a' (0 + 1) c')
      have HR6 := Lib.hid ((hgp.block (w.heap.size + 1) (Array.getElem?_eq_some_iff.1 HR5.out).1 (fun e => by injection e with e; omega)).trans HR5.out)
      have HB6 := Lib.hid (below_row HB5.out HB5.out.size hgp (by omega))
      have HG6 := Lib.hid (HG5.out.kept hgp HN.out)
      clear hgp z5 f5 z2 y2
      go_roundw
      case rel => exact ⟨5, .slice a' (0 + 1) c', by decide, rfl, HO6.out, HR6.out, HB6.out, fun h => by omega, fun _ => HG6.out⟩
      case measure => simp [intOf]
    case inr.inr.inr.inr.inr.inr.inr.inr.inr.inr.inr.inr.inr.inr.inr.inr.inr.inr.inr.inr.inr.inr.inr.inr.inr.inr.inr.inr.inr.inr.inr.inr =>
      obtain ⟨a', c', rfl⟩ := own_slice (HG.out (by decide))
      have z0 := cell_row HO.out 0
      have z1 := cell_row HO.out 1
      have z2 := cell_row HO.out 2
      have hne : Hid ((Value.slice a' 1 c').ownBlock = none ∨ (Value.slice a' 1 c').ownBlock ≠ some (w.heap.size + 1)) := by
        have ho := HG.out (by decide)
        obtain ⟨-, ⟨h0, -⟩ | ⟨g, cap, cur, h0, -, h2, -⟩⟩ := ho
        · exact .inl (by rw [h0]; rfl)
        · refine .inr fun e => ?_
          have e1 : g = w.heap.size + 1 := by rw [h0] at e; simpa [Value.ownBlock] using e
          subst e1
          rw [HR.out] at h2
          injection h2 with h3
          injection h3 with h4 h5 h6
          exact absurd h5 (by decide)
      have HGf := Lib.hid (HG.out (by decide))
      go_wp2_with (refine wpList_store_rowTo rfl 61 _ _ rfl rfl (w.heap.size + 1) #[.int .i64 4, .bool true, .slice a' 1 c'] rfl rfl _ _ HR.out (by kernel_rfl) (by kernel_rfl) (by kernel_rfl) ?_; have hheap := setRow_heap wr (w.heap.size + 1) _ #[.int .i64 4, .bool true, .slice a' 1 c'] _ _ HR.out; have HB9 := Lib.hid (below_setRow (g := w.heap.size + 1) HB.out (by omega) #[.int .i64 4, .bool true, .slice a' 1 c']))
      have hgs : wr.grownBy (wr.setRow (w.heap.size + 1) #[.int .i64 4, .bool true, .slice a' 1 c']) (some (w.heap.size + 1)) := ⟨rfl, rfl, rfl, by rw [setRow_size]; exact Nat.le_refl _, fun k _ hk => setRow_other wr _ k _ (fun e => hk (by rw [e]))⟩
      refine bodyPost_ret (res_row1 rfl _ _ (w.heap.size + 1) _ _ _ _ rfl hheap Tryz.underlying61 rfl (by kernel_rfl)) rfl ?_
      exact ⟨_, rfl, HGf.out.kept hgs hne.out, HB9.out⟩
    all_goals
      go_wp2_with fail
      go_roundw
      case rel => exact ⟨_, lv, by decide, rfl, HO.out, HR.out, HB.out, (fun h => by first | (exfalso; revert h; decide) | exact HL.out (by decide)), (fun h => by first | (exfalso; revert h; decide) | exact HG.out (by decide))⟩
      case measure => simp [intOf]
end Go.Proofs.YtcebcncpbedkmaaGreat
