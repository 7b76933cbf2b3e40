/- The walks of queue.take where no property is read: too few bytes, a header that may not be. Conditions: no fault before; the cursor lies below. The walks of queue.take where the told length may not be. Conditions: no fault before; the cursor lies below. -/
import Derived.Test.YtoobcgakainelaaZQueL
namespace Go.Proofs.Ytoobcgakainelaa
open Go.RowKit
set_option maxRecDepth 100000
set_option maxHeartbeats 8000000

theorem St.rest_left (s : St) : s.rest.length = s.left := by simp [St.rest, St.left]
theorem three_cells {k : IntKind} {w : World} {g n cap : Nat} {zs : List Int} (h : Ints k w (.slice (some ⟨g, 0, none⟩) n cap) zs) (h0 : 2 < zs.length) : w.cell? ⟨g, 0, none⟩ = some (.int k (zs.getD 0 0)) ∧ w.cell? ⟨g, 1, none⟩ = some (.int k (zs.getD 1 0)) ∧ w.cell? ⟨g, 2, none⟩ = some (.int k (zs.getD 2 0)) := by
  obtain ⟨a, cap', b, off, he, -, -, -, h5, h6⟩ := h.open
  injection he with e1 e2 e3
  have := h5 (by omega)
  rw [← e1] at this
  injection this with this
  injection this with e4 e5
  subst e4
  subst e5
  exact ⟨h6 0 (by omega), by have := h6 1 (by omega); rwa [Nat.zero_add] at this, by have := h6 2 h0; rwa [Nat.zero_add] at this⟩

theorem St.fail_sh (s : St) (e : Int) : (s.fail e).sh = s.sh := by unfold St.fail; split <;> rfl
theorem St.fail_bs (s : St) (e : Int) : (s.fail e).bs = s.bs := by unfold St.fail; split <;> rfl
theorem TakeW.two {B : Nat × Nat} {w wr : World} {p : Nat} {s : St} {x y z : Value} (h : TakeW B w p s #[x, y, z] wr) (v0 v1 : Value) : TakeW B w p s #[v0, v1, z] ((wr.setCell ⟨w.heap.size, 0, none⟩ v0).setCell ⟨w.heap.size, 1, none⟩ v1) := by
  have h1 := (heap_put h.own 0 v0).trans (by rfl : _ = some (.cells #[v0, y, z] 79 (0, 0)))
  have h2 := (heap_put h1 1 v1).trans (by rfl : _ = some (.cells #[v0, v1, z] 79 (0, 0)))
  exact h.put (grown_trans (grown_put wr w.heap.size 0 v0) (grown_put _ w.heap.size 1 v1)) h2

theorem take_short {B : Nat × Nat} {w : World} {p : Nat} {s : St} (h : Cur B w p s) (hB : B.2 ≤ w.heap.size) (he : s.er = 0) (hl : s.rest.length < 16) :
    Calls Try.prog 56 #[.pointer (some ⟨p, 0, none⟩)] w (GotTake B w p s) := by
  have HO := Lib.hid (oneQ_short hl)
  rw [St.rest_left] at hl
  have hll : ¬ 16 ≤ s.left := by omega
  have H0 := Lib.hid (TakeW.start h hB #[.int .u64 0, .int .u64 0, .slice none 0 0])
  have HE := Lib.hid he
  clear h hB he
  go_enter Try.func56, Try.ntmps56
  go_wp2_with fail
  refine (cur_left H0.out.cur).mono ?_
  rintro e w1 ⟨rfl, q1, rfl⟩
  have H1 := Lib.hid (H0.out.drew q1)
  go_wp2_with fail
  refine (cur_fail H1.out.cur 263).mono ?_
  rintro e w2 ⟨rfl, hc, hg⟩
  have H2 := Lib.hid (H1.out.call hc hg)
  clear hc hg
  have x0 := cell_row H2.out.own 0
  have x1 := cell_row H2.out.own 1
  have x2 := cell_row H2.out.own 2
  have z0 := frozen_row H2.out.own 0
  have z1 := frozen_row H2.out.own 1
  have z2 := frozen_row H2.out.own 2
  go_wp2_with fail
  have hr := rows3 H2.out.own (.int .u64 0) (.int .u64 0) (.slice none 0 0)
  refine TakeW.ret rfl _ (H2.out.put hr.2 hr.1) rfl (OutG.nil _ _ _ _ _) rfl rfl ?_ ?_ ?_ ?_
  · unfold St.fail; split <;> rfl
  · unfold St.fail; split <;> rfl
  · rw [HO.out, St.fail_er, if_pos HE.out]
  · intro h; rw [St.fail_er, if_pos HE.out] at h; cases h

theorem take_odd {B : Nat × Nat} {w : World} {p : Nat} {s : St} (h : Cur B w p s) (hB : B.2 ≤ w.heap.size) (he : s.er = 0) (hs : s.sh ≠ 0) (hl : 16 ≤ s.rest.length) (hodd : getS hdrQ s.rest = ([], 2)) :
    Calls Try.prog 56 #[.pointer (some ⟨p, 0, none⟩)] w (GotTake B w p s) := by
  have HO := Lib.hid (oneQ_odd hl hodd)
  have HR : Hid ((St.fresh (s.rest.take 16) 263 269).row [4, 4, 2, -6] = ((St.fresh (s.rest.take 16) 263 269).fail 269, [])) := by
    show _ = _
    exact row_odd rfl (by show (getS hdrQ (s.rest.take 16)).2 = 2; rw [hdr_take hl, hodd])
  clear hodd
  rw [St.rest_left] at hl
  have hll : ¬ s.left < 16 := by omega
  have H0 := Lib.hid (TakeW.start h hB #[.int .u64 0, .int .u64 0, .slice none 0 0])
  have HE := Lib.hid he
  have HS := Lib.hid hs
  clear h hB he hs
  go_enter Try.func56, Try.ntmps56
  go_wp2_with fail
  refine (cur_left H0.out.cur).mono ?_
  rintro e w1 ⟨rfl, q1, rfl⟩
  have H1 := Lib.hid (H0.out.drew q1)
  have hby := cur_bytes H1.out.cur HS.out 16 (by decide)
  rw [show s.bytes 16 = ({ s with pos := s.pos + 16 }, s.rest.take 16) from bytes_fine (n := 16) HE.out (by omega)] at hby
  have hl16 : (s.rest.take 16).length = 16 := by rw [List.length_take, St.rest_left]; omega
  generalize s.rest.take 16 = b16 at hby HR hl16
  have HBy := Lib.hid hby
  have HL16 := Lib.hid hl16
  clear hby hl16
  go_wp2_with fail
  refine HBy.out.mono ?_
  rintro e w2 ⟨v2, rfl, ho, hu, hc, hg⟩
  have H2 := Lib.hid (H1.out.call hc hg)
  have HI2 := Lib.hid (Ints.of_own ho hu.wf)
  rw [HL16.out] at ho
  obtain ⟨a2, cap2, rfl⟩ := own_slice ho
  clear ho hu hc hg
  go_wp2_with fail
  refine (cur_new HI2.out (by have := HL16.out; omega) 263 269).mono ?_
  rintro e w3 ⟨p2, rfl, hc, hb⟩
  have H3 := Lib.hid (H2.out.below hb)
  have HP2 : Hid (w.heap.size + 1 ≤ p2) := Lib.hid (Nat.le_trans H2.out.size hc.from)
  have HC3 := Lib.hid hc
  clear hc hb
  go_wp2_with fail
  have hrw := cur_row (HC3.out.below (below_alloc2 (.cells #[.int .i64 4, .int .i64 4, .int .i64 2, .int .i64 (-6)] 3))) (.slice (some ⟨w3.heap.size, 0, none⟩) 4 4) [4, 4, 2, -6] (Ints.lit .i64 w3 3 [4, 4, 2, -6] _ rfl (by decide) (by decide))
  rw [HR.out] at hrw
  refine hrw.mono ?_
  clear hrw
  rintro e w4 ⟨v4, rfl, ho, hc, hg⟩
  have H4 := Lib.hid ((H3.out.below (below_alloc2 (.cells #[.int .i64 4, .int .i64 4, .int .i64 2, .int .i64 (-6)] 3))).row hg (fun k e => by injection e with e; have := HP2.out; omega))
  have HC4 := Lib.hid hc
  have hs34 : w3.heap.size ≤ w4.heap.size := by have := hg.size; simp at this; omega
  have HO4 := Lib.hid (own_base ho (show w3.heap.size ≤ _ by simp))
  obtain ⟨a4, cap4, rfl⟩ := own_slice ho
  clear ho hc hg
  go_wp2_with (at_builtin; refine wpList_append_sl rfl _ _ _ rfl w3.heap.size 76 (.int .u64 0) 1 8 Try.underlying83 info_u64 rfl (by decide) (.slice a4 0 cap4) 0 _ rfl (HO4.out.alloc _) (.slice (some ⟨w4.heap.size, 0, none⟩) 3 3) 3 [.int .u64 0, .int .u64 0, .int .u64 0] rfl rfl (Sl.new w4 [.int .u64 0, .int .u64 0, .int .u64 0] 76 3 (by unfold maxLen; omega)) (by simp [Value.oneCell']) (by unfold maxLen; simp) (by simp) (by simp; omega) ?_; intro v5 w5 hown hgrow hvb; have HO5 := Lib.hid hown; have H5 := Lib.hid ((H4.out.below (below_alloc2 (.cells #[.int .u64 0, .int .u64 0, .int .u64 0] 76))).row hgrow (fun k e => Nat.le_trans H3.out.size (HO4.out.lt k e).1)); have HC5 := Lib.hid ((HC4.out.below (below_alloc2 (.cells #[.int .u64 0, .int .u64 0, .int .u64 0] 76))).grown hgrow (fun k e => .inr (HO4.out.lt k e).1)); have hs5 := hgrow.size; clear hown hgrow hvb)
  have HI5 := Lib.hid (Ints.of_own (k := .u64) (zs := [0, 0, 0]) HO5.out (by decide))
  obtain ⟨g5, cap5, rfl, -, -⟩ := own_pos HO5.out (by simp)
  have hg5 : w3.heap.size ≤ g5 := (HO5.out.lt g5 rfl).1
  have hp23 := HC3.out.upto
  have hps := H5.out.lt
  have hs33 := H3.out.size
  go_wp2_with fail
  refine (cur_err HC5.out).mono ?_
  rintro e w6 ⟨rfl, rfl⟩
  go_wp2_with fail
  refine (cur_fail H5.out.cur 269).mono ?_
  rintro e w6 ⟨rfl, hc, hg⟩
  have H6 := Lib.hid (H5.out.call hc hg)
  have HI6 := Lib.hid (HI5.out.grown hg (fun b e e' => by have e1 : g5 = b := (by simpa [Value.ownBlock] using e); have e2 : b = p := (by simpa using e'); omega))
  clear hc hg
  obtain ⟨l0, l1, l2⟩ := three_cells HI6.out (by simp)
  go_wp2_with fail
  refine (cur_fail H6.out.cur 263).mono ?_
  rintro e w7 ⟨rfl, hc, hg⟩
  have H7 := Lib.hid (H6.out.call hc hg)
  have HI7 := Lib.hid (HI6.out.grown hg (fun b e e' => by have e1 : g5 = b := (by simpa [Value.ownBlock] using e); have e2 : b = p := (by simpa using e'); omega))
  clear hc hg l0 l1 l2
  obtain ⟨l0, l1, l2⟩ := three_cells HI7.out (by simp)
  have x0 := cell_row H7.out.own 0
  have x1 := cell_row H7.out.own 1
  have z0 := frozen_row H7.out.own 0
  have z1 := frozen_row H7.out.own 1
  have HEr : Hid (((({ s with pos := s.pos + 16 } : St).fail 269).fail 263).er = 269) := by show _ = _; rw [St.fail_er, St.fail_er, if_pos (show s.er = 0 from HE.out)]; rfl
  have HBz : Hid (((({ s with pos := s.pos + 16 } : St).fail 269).fail 263).bytes 0 = ((({ s with pos := s.pos + 16 } : St).fail 269).fail 263, [])) := bytes_busy (by decide) (by rw [HEr.out]; decide)
  go_wp2_with fail
  go_region
  all_goals
    go_wp2_with fail
    have H8 := Lib.hid ((H7.out.two (.int .u64 0) (.int .u64 0)).drew 1)
    have hby := cur_bytes (w := (((w7.setCell ⟨w.heap.size, 0, none⟩ (.int .u64 0)).setCell ⟨w.heap.size, 1, none⟩ (.int .u64 0)).drew)) H8.out.cur (by rw [St.fail_sh, St.fail_sh]; exact HS.out) 0 (by decide)
    rw [HBz.out] at hby
    refine hby.mono ?_
    clear hby
    rintro e w9 ⟨v9, rfl, ho, hu, hc, hg⟩
    have H9 := Lib.hid (H8.out.call hc hg)
    obtain ⟨a9, cap9, rfl⟩ := own_slice ho
    clear ho hu hc hg x0 x1 z0 z1 l0 l1 l2
    have x0 := cell_row H9.out.own 0
    have x1 := cell_row H9.out.own 1
    have x2 := cell_row H9.out.own 2
    have z0 := frozen_row H9.out.own 0
    have z1 := frozen_row H9.out.own 1
    have z2 := frozen_row H9.out.own 2
    go_wp2_with fail
    go_loopw [7] (fun v wr => v = .slice a9 0 cap9 ∧ wr = w9) (fun _ _ => 0)
    case atStart => exact ⟨rfl, rfl⟩
    case round =>
      obtain ⟨rfl, rfl⟩ := hrel
      go_wp2_with fail
      have hr := rows3 H9.out.own (.int .u64 0) (.int .u64 0) (.slice none 0 0)
      refine TakeW.ret rfl _ (H9.out.put hr.2 hr.1) rfl (OutG.nil _ _ _ _ _) (by decide) (by decide) ?_ ?_ ?_ ?_
      · rw [St.fail_bs, St.fail_bs]
      · rw [St.fail_sh, St.fail_sh]
      · rw [HO.out, HEr.out]
      · intro h; rw [HEr.out] at h; cases h

end Go.Proofs.Ytoobcgakainelaa
namespace Go.Proofs.Ytoobcgakainelaa
open Go.RowKit
set_option maxRecDepth 100000
set_option maxHeartbeats 8000000

theorem take_bad1 {B : Nat × Nat} {w : World} {p : Nat} {s : St} (h : Cur B w p s) (hB : B.2 ≤ w.heap.size) (he : s.er = 0) (hs : s.sh ≠ 0) (hl : 16 ≤ s.rest.length) {a b n : Nat} (hh : getS hdrQ s.rest = ([(a : Int), (b : Int), (n : Int)], 0)) (hn : n < 65536) (ha : a < 4294967296) (hb : b < 4294967296) (hz : sizeQ s.rest = n)
    (hc : n < 16) :
    Calls Try.prog 56 #[.pointer (some ⟨p, 0, none⟩)] w (GotTake B w p s) := by
  have HO := Lib.hid (oneQ_bad hl hh (by rw [hz]; rw [St.rest_left] at *; omega))
  have HR : Hid ((St.fresh (s.rest.take 16) 263 269).row [4, 4, 2, -6] = ({ St.fresh (s.rest.take 16) 263 269 with pos := 16 }, [(a : Int), (b : Int), (n : Int)])) := by
    show _ = _
    rw [row_fine rfl (by show (getS hdrQ (s.rest.take 16)).2 = 0; rw [hdr_take hl, hh])]
    show (_, (getS hdrQ (s.rest.take 16)).1) = _
    rw [hdr_take hl, hh]
    rfl
  have HWf : Hid (∀ z ∈ [(a : Int), (b : Int), (n : Int), 0, 0, 0], (Lit.int .u64 z).wf = true) := by
    intro z hz
    simp at hz
    rcases hz with rfl | rfl | rfl | rfl <;> first | exact wf_u64n (by omega) (by omega) | decide
  have hwa := HWf.out (a : Int) (by simp)
  have hwb := HWf.out (b : Int) (by simp)
  have HWa := Lib.hid hwa
  have HWb := Lib.hid hwb
  clear hwa hwb hh hz
  have e1 : (n : Int) < 16 := by omega
  rw [St.rest_left] at hl
  have hll : ¬ s.left < 16 := by omega
  have H0 := Lib.hid (TakeW.start h hB #[.int .u64 0, .int .u64 0, .slice none 0 0])
  have HE := Lib.hid he
  have HS := Lib.hid hs
  clear h hB he hs
  go_enter Try.func56, Try.ntmps56
  go_wp2_with fail
  refine (cur_left H0.out.cur).mono ?_
  rintro e w1 ⟨rfl, q1, rfl⟩
  have H1 := Lib.hid (H0.out.drew q1)
  have hby := cur_bytes H1.out.cur HS.out 16 (by decide)
  rw [show s.bytes 16 = ({ s with pos := s.pos + 16 }, s.rest.take 16) from bytes_fine (n := 16) HE.out (by omega)] at hby
  have hl16 : (s.rest.take 16).length = 16 := by rw [List.length_take, St.rest_left]; omega
  generalize s.rest.take 16 = b16 at hby HR hl16
  have HBy := Lib.hid hby
  have HL16 := Lib.hid hl16
  clear hby hl16
  go_wp2_with fail
  refine HBy.out.mono ?_
  rintro e w2 ⟨v2, rfl, ho, hu, hc, hg⟩
  have H2 := Lib.hid (H1.out.call hc hg)
  have HI2 := Lib.hid (Ints.of_own ho hu.wf)
  rw [HL16.out] at ho
  obtain ⟨a2, cap2, rfl⟩ := own_slice ho
  clear ho hu hc hg
  go_wp2_with fail
  refine (cur_new HI2.out (by have := HL16.out; omega) 263 269).mono ?_
  rintro e w3 ⟨p2, rfl, hc, hb⟩
  have H3 := Lib.hid (H2.out.below hb)
  have HP2 : Hid (w.heap.size + 1 ≤ p2) := Lib.hid (Nat.le_trans H2.out.size hc.from)
  have HC3 := Lib.hid hc
  clear hc hb
  go_wp2_with fail
  have hrw := cur_row (HC3.out.below (below_alloc2 (.cells #[.int .i64 4, .int .i64 4, .int .i64 2, .int .i64 (-6)] 3))) (.slice (some ⟨w3.heap.size, 0, none⟩) 4 4) [4, 4, 2, -6] (Ints.lit .i64 w3 3 [4, 4, 2, -6] _ rfl (by decide) (by decide))
  rw [HR.out] at hrw
  refine hrw.mono ?_
  clear hrw
  rintro e w4 ⟨v4, rfl, ho, hc, hg⟩
  have H4 := Lib.hid ((H3.out.below (below_alloc2 (.cells #[.int .i64 4, .int .i64 4, .int .i64 2, .int .i64 (-6)] 3))).row hg (fun k e => by injection e with e; have := HP2.out; omega))
  have HC4 := Lib.hid hc
  have hs34 : w3.heap.size ≤ w4.heap.size := by have := hg.size; simp at this; omega
  have HO4 := Lib.hid (own_base ho (show w3.heap.size ≤ _ by simp))
  obtain ⟨a4, cap4, rfl⟩ := own_slice ho
  clear ho hc hg
  go_wp2_with (at_builtin; refine wpList_append_sl rfl _ _ _ rfl w3.heap.size 76 (.int .u64 0) 1 8 Try.underlying83 info_u64 rfl (by decide) (.slice a4 3 cap4) 3 _ rfl (HO4.out.alloc _) (.slice (some ⟨w4.heap.size, 0, none⟩) 3 3) 3 [.int .u64 0, .int .u64 0, .int .u64 0] rfl rfl (Sl.new w4 [.int .u64 0, .int .u64 0, .int .u64 0] 76 3 (by unfold maxLen; omega)) (by simp [Value.oneCell']) (by unfold maxLen; simp) (by simp) (by simp; omega) ?_; intro v5 w5 hown hgrow hvb; have HO5 := Lib.hid hown; have H5 := Lib.hid ((H4.out.below (below_alloc2 (.cells #[.int .u64 0, .int .u64 0, .int .u64 0] 76))).row hgrow (fun k e => Nat.le_trans H3.out.size (HO4.out.lt k e).1)); have HC5 := Lib.hid ((HC4.out.below (below_alloc2 (.cells #[.int .u64 0, .int .u64 0, .int .u64 0] 76))).grown hgrow (fun k e => .inr (HO4.out.lt k e).1)); have hs5 := hgrow.size; clear hown hgrow hvb)
  have HI5 := Lib.hid (Ints.of_own (k := .u64) (zs := [(a : Int), (b : Int), (n : Int), 0, 0, 0]) HO5.out HWf.out)
  obtain ⟨g5, cap5, rfl, -, -⟩ := own_pos HO5.out (by simp)
  have hg5 : w3.heap.size ≤ g5 := (HO5.out.lt g5 rfl).1
  have hp23 := HC3.out.upto
  have hps := H5.out.lt
  have hs33 := H3.out.size
  go_wp2_with fail
  refine (cur_err HC5.out).mono ?_
  rintro e w6 ⟨rfl, rfl⟩
  go_wp2_with fail
  refine (cur_fail H5.out.cur 0).mono ?_
  rintro e w6 ⟨rfl, hc, hg⟩
  have H6 := Lib.hid (H5.out.call hc hg)
  have HI6 := Lib.hid (HI5.out.grown hg (fun b e e' => by have e1 : g5 = b := (by simpa [Value.ownBlock] using e); have e2 : b = p := (by simpa using e'); omega))
  clear hc hg
  obtain ⟨l0, l1, l2⟩ := three_cells HI6.out (by simp)
  go_wp2_with fail
  refine (cur_fail H6.out.cur 263).mono ?_
  rintro e w7 ⟨rfl, hc, hg⟩
  have H7 := Lib.hid (H6.out.call hc hg)
  have HI7 := Lib.hid (HI6.out.grown hg (fun b e e' => by have e1 : g5 = b := (by simpa [Value.ownBlock] using e); have e2 : b = p := (by simpa using e'); omega))
  clear hc hg l0 l1 l2
  obtain ⟨l0, l1, l2⟩ := three_cells HI7.out (by simp)
  have x0 := cell_row H7.out.own 0
  have x1 := cell_row H7.out.own 1
  have z0 := frozen_row H7.out.own 0
  have z1 := frozen_row H7.out.own 1
  have HEr : Hid (((({ s with pos := s.pos + 16 } : St).fail 0).fail 263).er = 263) := by show _ = _; rw [St.fail_er, St.fail_er, if_pos (show s.er = 0 from HE.out)]; rfl
  have HBz : Hid (((({ s with pos := s.pos + 16 } : St).fail 0).fail 263).bytes (max ((n : Int) - 16) 0) = ((({ s with pos := s.pos + 16 } : St).fail 0).fail 263, [])) := bytes_busy (by omega) (by rw [HEr.out]; decide)
  go_wp2_with fail
  go_region
  all_goals
    go_wp2_with fail
    have H8 := Lib.hid ((H7.out.two (.int .u64 (a : Int)) (.int .u64 (b : Int))).drew 1)
    have hby := cur_bytes (w := (((w7.setCell ⟨w.heap.size, 0, none⟩ (.int .u64 (a : Int))).setCell ⟨w.heap.size, 1, none⟩ (.int .u64 (b : Int))).drew)) H8.out.cur (by rw [St.fail_sh, St.fail_sh]; exact HS.out) (max ((n : Int) - 16) 0) (wf_i64 (by omega) (by omega))
    rw [HBz.out] at hby
    refine hby.mono ?_
    clear hby
    rintro e w9 ⟨v9, rfl, ho, hu, hc, hg⟩
    have H9 := Lib.hid (H8.out.call hc hg)
    obtain ⟨a9, cap9, rfl⟩ := own_slice ho
    clear ho hu hc hg x0 x1 z0 z1 l0 l1 l2
    have x0 := cell_row H9.out.own 0
    have x1 := cell_row H9.out.own 1
    have x2 := cell_row H9.out.own 2
    have z0 := frozen_row H9.out.own 0
    have z1 := frozen_row H9.out.own 1
    have z2 := frozen_row H9.out.own 2
    go_wp2_with fail
    go_loopw [7] (fun v wr => v = .slice a9 0 cap9 ∧ wr = w9) (fun _ _ => 0)
    case atStart => exact ⟨rfl, rfl⟩
    case round =>
      obtain ⟨rfl, rfl⟩ := hrel
      go_wp2_with fail
      have hr := rows3 H9.out.own (.int .u64 (a : Int)) (.int .u64 (b : Int)) (.slice none 0 0)
      refine TakeW.ret rfl _ (H9.out.put hr.2 hr.1) rfl (OutG.nil _ _ _ _ _) HWa.out HWb.out ?_ ?_ ?_ ?_
      · rw [St.fail_bs, St.fail_bs]
      · rw [St.fail_sh, St.fail_sh]
      · rw [HO.out, HEr.out]
      · intro h; rw [HEr.out] at h; cases h

theorem take_bad2 {B : Nat × Nat} {w : World} {p : Nat} {s : St} (h : Cur B w p s) (hB : B.2 ≤ w.heap.size) (he : s.er = 0) (hs : s.sh ≠ 0) (hl : 16 ≤ s.rest.length) {a b n : Nat} (hh : getS hdrQ s.rest = ([(a : Int), (b : Int), (n : Int)], 0)) (hn : n < 65536) (ha : a < 4294967296) (hb : b < 4294967296) (hz : sizeQ s.rest = n)
    (hc : 16 ≤ n) (hd : n % 8 ≠ 0) :
    Calls Try.prog 56 #[.pointer (some ⟨p, 0, none⟩)] w (GotTake B w p s) := by
  have HO := Lib.hid (oneQ_bad hl hh (by rw [hz]; rw [St.rest_left] at *; omega))
  have HR : Hid ((St.fresh (s.rest.take 16) 263 269).row [4, 4, 2, -6] = ({ St.fresh (s.rest.take 16) 263 269 with pos := 16 }, [(a : Int), (b : Int), (n : Int)])) := by
    show _ = _
    rw [row_fine rfl (by show (getS hdrQ (s.rest.take 16)).2 = 0; rw [hdr_take hl, hh])]
    show (_, (getS hdrQ (s.rest.take 16)).1) = _
    rw [hdr_take hl, hh]
    rfl
  have HWf : Hid (∀ z ∈ [(a : Int), (b : Int), (n : Int), 0, 0, 0], (Lit.int .u64 z).wf = true) := by
    intro z hz
    simp at hz
    rcases hz with rfl | rfl | rfl | rfl <;> first | exact wf_u64n (by omega) (by omega) | decide
  have hwa := HWf.out (a : Int) (by simp)
  have hwb := HWf.out (b : Int) (by simp)
  have HWa := Lib.hid hwa
  have HWb := Lib.hid hwb
  clear hwa hwb hh hz
  have e1 : ¬ (n : Int) < 16 := by omega
  have e2 : ¬ (n : Int) % 8 = 0 := by omega
  rw [St.rest_left] at hl
  have hll : ¬ s.left < 16 := by omega
  have H0 := Lib.hid (TakeW.start h hB #[.int .u64 0, .int .u64 0, .slice none 0 0])
  have HE := Lib.hid he
  have HS := Lib.hid hs
  clear h hB he hs
  go_enter Try.func56, Try.ntmps56
  go_wp2_with fail
  refine (cur_left H0.out.cur).mono ?_
  rintro e w1 ⟨rfl, q1, rfl⟩
  have H1 := Lib.hid (H0.out.drew q1)
  have hby := cur_bytes H1.out.cur HS.out 16 (by decide)
  rw [show s.bytes 16 = ({ s with pos := s.pos + 16 }, s.rest.take 16) from bytes_fine (n := 16) HE.out (by omega)] at hby
  have hl16 : (s.rest.take 16).length = 16 := by rw [List.length_take, St.rest_left]; omega
  generalize s.rest.take 16 = b16 at hby HR hl16
  have HBy := Lib.hid hby
  have HL16 := Lib.hid hl16
  clear hby hl16
  go_wp2_with fail
  refine HBy.out.mono ?_
  rintro e w2 ⟨v2, rfl, ho, hu, hc, hg⟩
  have H2 := Lib.hid (H1.out.call hc hg)
  have HI2 := Lib.hid (Ints.of_own ho hu.wf)
  rw [HL16.out] at ho
  obtain ⟨a2, cap2, rfl⟩ := own_slice ho
  clear ho hu hc hg
  go_wp2_with fail
  refine (cur_new HI2.out (by have := HL16.out; omega) 263 269).mono ?_
  rintro e w3 ⟨p2, rfl, hc, hb⟩
  have H3 := Lib.hid (H2.out.below hb)
  have HP2 : Hid (w.heap.size + 1 ≤ p2) := Lib.hid (Nat.le_trans H2.out.size hc.from)
  have HC3 := Lib.hid hc
  clear hc hb
  go_wp2_with fail
  have hrw := cur_row (HC3.out.below (below_alloc2 (.cells #[.int .i64 4, .int .i64 4, .int .i64 2, .int .i64 (-6)] 3))) (.slice (some ⟨w3.heap.size, 0, none⟩) 4 4) [4, 4, 2, -6] (Ints.lit .i64 w3 3 [4, 4, 2, -6] _ rfl (by decide) (by decide))
  rw [HR.out] at hrw
  refine hrw.mono ?_
  clear hrw
  rintro e w4 ⟨v4, rfl, ho, hc, hg⟩
  have H4 := Lib.hid ((H3.out.below (below_alloc2 (.cells #[.int .i64 4, .int .i64 4, .int .i64 2, .int .i64 (-6)] 3))).row hg (fun k e => by injection e with e; have := HP2.out; omega))
  have HC4 := Lib.hid hc
  have hs34 : w3.heap.size ≤ w4.heap.size := by have := hg.size; simp at this; omega
  have HO4 := Lib.hid (own_base ho (show w3.heap.size ≤ _ by simp))
  obtain ⟨a4, cap4, rfl⟩ := own_slice ho
  clear ho hc hg
  go_wp2_with (at_builtin; refine wpList_append_sl rfl _ _ _ rfl w3.heap.size 76 (.int .u64 0) 1 8 Try.underlying83 info_u64 rfl (by decide) (.slice a4 3 cap4) 3 _ rfl (HO4.out.alloc _) (.slice (some ⟨w4.heap.size, 0, none⟩) 3 3) 3 [.int .u64 0, .int .u64 0, .int .u64 0] rfl rfl (Sl.new w4 [.int .u64 0, .int .u64 0, .int .u64 0] 76 3 (by unfold maxLen; omega)) (by simp [Value.oneCell']) (by unfold maxLen; simp) (by simp) (by simp; omega) ?_; intro v5 w5 hown hgrow hvb; have HO5 := Lib.hid hown; have H5 := Lib.hid ((H4.out.below (below_alloc2 (.cells #[.int .u64 0, .int .u64 0, .int .u64 0] 76))).row hgrow (fun k e => Nat.le_trans H3.out.size (HO4.out.lt k e).1)); have HC5 := Lib.hid ((HC4.out.below (below_alloc2 (.cells #[.int .u64 0, .int .u64 0, .int .u64 0] 76))).grown hgrow (fun k e => .inr (HO4.out.lt k e).1)); have hs5 := hgrow.size; clear hown hgrow hvb)
  have HI5 := Lib.hid (Ints.of_own (k := .u64) (zs := [(a : Int), (b : Int), (n : Int), 0, 0, 0]) HO5.out HWf.out)
  obtain ⟨g5, cap5, rfl, -, -⟩ := own_pos HO5.out (by simp)
  have hg5 : w3.heap.size ≤ g5 := (HO5.out.lt g5 rfl).1
  have hp23 := HC3.out.upto
  have hps := H5.out.lt
  have hs33 := H3.out.size
  go_wp2_with fail
  refine (cur_err HC5.out).mono ?_
  rintro e w6 ⟨rfl, rfl⟩
  go_wp2_with fail
  refine (cur_fail H5.out.cur 0).mono ?_
  rintro e w6 ⟨rfl, hc, hg⟩
  have H6 := Lib.hid (H5.out.call hc hg)
  have HI6 := Lib.hid (HI5.out.grown hg (fun b e e' => by have e1 : g5 = b := (by simpa [Value.ownBlock] using e); have e2 : b = p := (by simpa using e'); omega))
  clear hc hg
  obtain ⟨l0, l1, l2⟩ := three_cells HI6.out (by simp)
  go_wp2_with fail
  refine (cur_fail H6.out.cur 263).mono ?_
  rintro e w7 ⟨rfl, hc, hg⟩
  have H7 := Lib.hid (H6.out.call hc hg)
  have HI7 := Lib.hid (HI6.out.grown hg (fun b e e' => by have e1 : g5 = b := (by simpa [Value.ownBlock] using e); have e2 : b = p := (by simpa using e'); omega))
  clear hc hg l0 l1 l2
  obtain ⟨l0, l1, l2⟩ := three_cells HI7.out (by simp)
  have x0 := cell_row H7.out.own 0
  have x1 := cell_row H7.out.own 1
  have z0 := frozen_row H7.out.own 0
  have z1 := frozen_row H7.out.own 1
  have HEr : Hid (((({ s with pos := s.pos + 16 } : St).fail 0).fail 263).er = 263) := by show _ = _; rw [St.fail_er, St.fail_er, if_pos (show s.er = 0 from HE.out)]; rfl
  have HBz : Hid (((({ s with pos := s.pos + 16 } : St).fail 0).fail 263).bytes (max ((n : Int) - 16) 0) = ((({ s with pos := s.pos + 16 } : St).fail 0).fail 263, [])) := bytes_busy (by omega) (by rw [HEr.out]; decide)
  go_wp2_with fail
  go_region
  all_goals
    go_wp2_with fail
    have H8 := Lib.hid ((H7.out.two (.int .u64 (a : Int)) (.int .u64 (b : Int))).drew 1)
    have hby := cur_bytes (w := (((w7.setCell ⟨w.heap.size, 0, none⟩ (.int .u64 (a : Int))).setCell ⟨w.heap.size, 1, none⟩ (.int .u64 (b : Int))).drew)) H8.out.cur (by rw [St.fail_sh, St.fail_sh]; exact HS.out) (max ((n : Int) - 16) 0) (wf_i64 (by omega) (by omega))
    rw [HBz.out] at hby
    refine hby.mono ?_
    clear hby
    rintro e w9 ⟨v9, rfl, ho, hu, hc, hg⟩
    have H9 := Lib.hid (H8.out.call hc hg)
    obtain ⟨a9, cap9, rfl⟩ := own_slice ho
    clear ho hu hc hg x0 x1 z0 z1 l0 l1 l2
    have x0 := cell_row H9.out.own 0
    have x1 := cell_row H9.out.own 1
    have x2 := cell_row H9.out.own 2
    have z0 := frozen_row H9.out.own 0
    have z1 := frozen_row H9.out.own 1
    have z2 := frozen_row H9.out.own 2
    go_wp2_with fail
    go_loopw [7] (fun v wr => v = .slice a9 0 cap9 ∧ wr = w9) (fun _ _ => 0)
    case atStart => exact ⟨rfl, rfl⟩
    case round =>
      obtain ⟨rfl, rfl⟩ := hrel
      go_wp2_with fail
      have hr := rows3 H9.out.own (.int .u64 (a : Int)) (.int .u64 (b : Int)) (.slice none 0 0)
      refine TakeW.ret rfl _ (H9.out.put hr.2 hr.1) rfl (OutG.nil _ _ _ _ _) HWa.out HWb.out ?_ ?_ ?_ ?_
      · rw [St.fail_bs, St.fail_bs]
      · rw [St.fail_sh, St.fail_sh]
      · rw [HO.out, HEr.out]
      · intro h; rw [HEr.out] at h; cases h

theorem take_bad3 {B : Nat × Nat} {w : World} {p : Nat} {s : St} (h : Cur B w p s) (hB : B.2 ≤ w.heap.size) (he : s.er = 0) (hs : s.sh ≠ 0) (hl : 16 ≤ s.rest.length) {a b n : Nat} (hh : getS hdrQ s.rest = ([(a : Int), (b : Int), (n : Int)], 0)) (hn : n < 65536) (ha : a < 4294967296) (hb : b < 4294967296) (hz : sizeQ s.rest = n)
    (hc : 16 ≤ n) (hd : n % 8 = 0) (hg : s.rest.length < n) :
    Calls Try.prog 56 #[.pointer (some ⟨p, 0, none⟩)] w (GotTake B w p s) := by
  have HO := Lib.hid (oneQ_bad hl hh (by rw [hz]; rw [St.rest_left] at *; omega))
  have HR : Hid ((St.fresh (s.rest.take 16) 263 269).row [4, 4, 2, -6] = ({ St.fresh (s.rest.take 16) 263 269 with pos := 16 }, [(a : Int), (b : Int), (n : Int)])) := by
    show _ = _
    rw [row_fine rfl (by show (getS hdrQ (s.rest.take 16)).2 = 0; rw [hdr_take hl, hh])]
    show (_, (getS hdrQ (s.rest.take 16)).1) = _
    rw [hdr_take hl, hh]
    rfl
  have HWf : Hid (∀ z ∈ [(a : Int), (b : Int), (n : Int), 0, 0, 0], (Lit.int .u64 z).wf = true) := by
    intro z hz
    simp at hz
    rcases hz with rfl | rfl | rfl | rfl <;> first | exact wf_u64n (by omega) (by omega) | decide
  have hwa := HWf.out (a : Int) (by simp)
  have hwb := HWf.out (b : Int) (by simp)
  have HWa := Lib.hid hwa
  have HWb := Lib.hid hwb
  clear hwa hwb hh hz
  have e1 : ¬ (n : Int) < 16 := by omega
  have e2 : (n : Int) % 8 = 0 := by omega
  rw [St.rest_left] at hg
  have e3 : (s.left : Int) < (n : Int) := by omega
  rw [St.rest_left] at hl
  have hll : ¬ s.left < 16 := by omega
  have H0 := Lib.hid (TakeW.start h hB #[.int .u64 0, .int .u64 0, .slice none 0 0])
  have HE := Lib.hid he
  have HS := Lib.hid hs
  clear h hB he hs
  go_enter Try.func56, Try.ntmps56
  go_wp2_with fail
  refine (cur_left H0.out.cur).mono ?_
  rintro e w1 ⟨rfl, q1, rfl⟩
  have H1 := Lib.hid (H0.out.drew q1)
  have hby := cur_bytes H1.out.cur HS.out 16 (by decide)
  rw [show s.bytes 16 = ({ s with pos := s.pos + 16 }, s.rest.take 16) from bytes_fine (n := 16) HE.out (by omega)] at hby
  have hl16 : (s.rest.take 16).length = 16 := by rw [List.length_take, St.rest_left]; omega
  generalize s.rest.take 16 = b16 at hby HR hl16
  have HBy := Lib.hid hby
  have HL16 := Lib.hid hl16
  clear hby hl16
  go_wp2_with fail
  refine HBy.out.mono ?_
  rintro e w2 ⟨v2, rfl, ho, hu, hc, hg⟩
  have H2 := Lib.hid (H1.out.call hc hg)
  have HI2 := Lib.hid (Ints.of_own ho hu.wf)
  rw [HL16.out] at ho
  obtain ⟨a2, cap2, rfl⟩ := own_slice ho
  clear ho hu hc hg
  go_wp2_with fail
  refine (cur_new HI2.out (by have := HL16.out; omega) 263 269).mono ?_
  rintro e w3 ⟨p2, rfl, hc, hb⟩
  have H3 := Lib.hid (H2.out.below hb)
  have HP2 : Hid (w.heap.size + 1 ≤ p2) := Lib.hid (Nat.le_trans H2.out.size hc.from)
  have HC3 := Lib.hid hc
  clear hc hb
  go_wp2_with fail
  have hrw := cur_row (HC3.out.below (below_alloc2 (.cells #[.int .i64 4, .int .i64 4, .int .i64 2, .int .i64 (-6)] 3))) (.slice (some ⟨w3.heap.size, 0, none⟩) 4 4) [4, 4, 2, -6] (Ints.lit .i64 w3 3 [4, 4, 2, -6] _ rfl (by decide) (by decide))
  rw [HR.out] at hrw
  refine hrw.mono ?_
  clear hrw
  rintro e w4 ⟨v4, rfl, ho, hc, hg⟩
  have H4 := Lib.hid ((H3.out.below (below_alloc2 (.cells #[.int .i64 4, .int .i64 4, .int .i64 2, .int .i64 (-6)] 3))).row hg (fun k e => by injection e with e; have := HP2.out; omega))
  have HC4 := Lib.hid hc
  have hs34 : w3.heap.size ≤ w4.heap.size := by have := hg.size; simp at this; omega
  have HO4 := Lib.hid (own_base ho (show w3.heap.size ≤ _ by simp))
  obtain ⟨a4, cap4, rfl⟩ := own_slice ho
  clear ho hc hg
  go_wp2_with (at_builtin; refine wpList_append_sl rfl _ _ _ rfl w3.heap.size 76 (.int .u64 0) 1 8 Try.underlying83 info_u64 rfl (by decide) (.slice a4 3 cap4) 3 _ rfl (HO4.out.alloc _) (.slice (some ⟨w4.heap.size, 0, none⟩) 3 3) 3 [.int .u64 0, .int .u64 0, .int .u64 0] rfl rfl (Sl.new w4 [.int .u64 0, .int .u64 0, .int .u64 0] 76 3 (by unfold maxLen; omega)) (by simp [Value.oneCell']) (by unfold maxLen; simp) (by simp) (by simp; omega) ?_; intro v5 w5 hown hgrow hvb; have HO5 := Lib.hid hown; have H5 := Lib.hid ((H4.out.below (below_alloc2 (.cells #[.int .u64 0, .int .u64 0, .int .u64 0] 76))).row hgrow (fun k e => Nat.le_trans H3.out.size (HO4.out.lt k e).1)); have HC5 := Lib.hid ((HC4.out.below (below_alloc2 (.cells #[.int .u64 0, .int .u64 0, .int .u64 0] 76))).grown hgrow (fun k e => .inr (HO4.out.lt k e).1)); have hs5 := hgrow.size; clear hown hgrow hvb)
  have HI5 := Lib.hid (Ints.of_own (k := .u64) (zs := [(a : Int), (b : Int), (n : Int), 0, 0, 0]) HO5.out HWf.out)
  obtain ⟨g5, cap5, rfl, -, -⟩ := own_pos HO5.out (by simp)
  have hg5 : w3.heap.size ≤ g5 := (HO5.out.lt g5 rfl).1
  have hp23 := HC3.out.upto
  have hps := H5.out.lt
  have hs33 := H3.out.size
  go_wp2_with fail
  refine (cur_err HC5.out).mono ?_
  rintro e w6 ⟨rfl, rfl⟩
  go_wp2_with fail
  refine (cur_fail H5.out.cur 0).mono ?_
  rintro e w6 ⟨rfl, hc, hg⟩
  have H6 := Lib.hid (H5.out.call hc hg)
  have HI6 := Lib.hid (HI5.out.grown hg (fun b e e' => by have e1 : g5 = b := (by simpa [Value.ownBlock] using e); have e2 : b = p := (by simpa using e'); omega))
  clear hc hg
  obtain ⟨l0, l1, l2⟩ := three_cells HI6.out (by simp)
  go_wp2_with fail
  refine (cur_fail H6.out.cur 263).mono ?_
  rintro e w7 ⟨rfl, hc, hg⟩
  have H7 := Lib.hid (H6.out.call hc hg)
  have HI7 := Lib.hid (HI6.out.grown hg (fun b e e' => by have e1 : g5 = b := (by simpa [Value.ownBlock] using e); have e2 : b = p := (by simpa using e'); omega))
  clear hc hg l0 l1 l2
  obtain ⟨l0, l1, l2⟩ := three_cells HI7.out (by simp)
  have x0 := cell_row H7.out.own 0
  have x1 := cell_row H7.out.own 1
  have z0 := frozen_row H7.out.own 0
  have z1 := frozen_row H7.out.own 1
  have HEr : Hid (((({ s with pos := s.pos + 16 } : St).fail 0).fail 263).er = 263) := by show _ = _; rw [St.fail_er, St.fail_er, if_pos (show s.er = 0 from HE.out)]; rfl
  have HBz : Hid (((({ s with pos := s.pos + 16 } : St).fail 0).fail 263).bytes (max ((n : Int) - 16) 0) = ((({ s with pos := s.pos + 16 } : St).fail 0).fail 263, [])) := bytes_busy (by omega) (by rw [HEr.out]; decide)
  go_wp2_with fail
  go_region
  all_goals
    go_wp2_with fail
    have H8 := Lib.hid ((H7.out.two (.int .u64 (a : Int)) (.int .u64 (b : Int))).drew 1)
    have hby := cur_bytes (w := (((w7.setCell ⟨w.heap.size, 0, none⟩ (.int .u64 (a : Int))).setCell ⟨w.heap.size, 1, none⟩ (.int .u64 (b : Int))).drew)) H8.out.cur (by rw [St.fail_sh, St.fail_sh]; exact HS.out) (max ((n : Int) - 16) 0) (wf_i64 (by omega) (by omega))
    rw [HBz.out] at hby
    refine hby.mono ?_
    clear hby
    rintro e w9 ⟨v9, rfl, ho, hu, hc, hg⟩
    have H9 := Lib.hid (H8.out.call hc hg)
    obtain ⟨a9, cap9, rfl⟩ := own_slice ho
    clear ho hu hc hg x0 x1 z0 z1 l0 l1 l2
    have x0 := cell_row H9.out.own 0
    have x1 := cell_row H9.out.own 1
    have x2 := cell_row H9.out.own 2
    have z0 := frozen_row H9.out.own 0
    have z1 := frozen_row H9.out.own 1
    have z2 := frozen_row H9.out.own 2
    go_wp2_with fail
    go_loopw [7] (fun v wr => v = .slice a9 0 cap9 ∧ wr = w9) (fun _ _ => 0)
    case atStart => exact ⟨rfl, rfl⟩
    case round =>
      obtain ⟨rfl, rfl⟩ := hrel
      go_wp2_with fail
      have hr := rows3 H9.out.own (.int .u64 (a : Int)) (.int .u64 (b : Int)) (.slice none 0 0)
      refine TakeW.ret rfl _ (H9.out.put hr.2 hr.1) rfl (OutG.nil _ _ _ _ _) HWa.out HWb.out ?_ ?_ ?_ ?_
      · rw [St.fail_bs, St.fail_bs]
      · rw [St.fail_sh, St.fail_sh]
      · rw [HO.out, HEr.out]
      · intro h; rw [HEr.out] at h; cases h

end Go.Proofs.Ytoobcgakainelaa
