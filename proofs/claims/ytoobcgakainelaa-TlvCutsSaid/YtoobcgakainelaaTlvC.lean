/- The walk of tlv.One. Conditions: the argument reads as bytes, at most 10^9. -/
import Derived.Test.YtoobcgakainelaaTlvB
namespace Go.Proofs.Ytoobcgakainelaa
open Go.RowKit
set_option maxRecDepth 100000
set_option maxHeartbeats 4000000

theorem one_may {s : Sh} {v : Value} {bs : List Int} {w : World} (hm : s.may = false) : Calls Try.prog 10 #[s.val, v] w (GotOne s bs w) := by
  have HM := sh_may s
  rw [hm] at HM
  have HM := Lib.hid HM
  have HO : Hid (s.one bs = ((0, []), 0, 10001)) := by show _ = _; rw [Sh.one, if_pos hm]
  clear hm
  simp only [Sh.val]
  go_enter Try.func10, Try.ntmps10
  go_wp2_with (go_at_call 40; (with_reducible refine (HM.out _).mono ?_); rintro e w1 ⟨rfl, hb⟩; have H1 := Lib.hid ((Two0.start w s).step hb (by simp)); obtain ⟨c0, c1, c2, c3, c4, d0, d1, f0, f1⟩ := H1.out.cells; clear hb)
  obtain ⟨hh, hb⟩ := H1.out.set (.int .i64 0) (.slice none 0 0)
  refine bodyPost_ret (res_row_tmp_tmp rfl _ _ (w.heap.size + 1) _ _ _ _ rfl hh Try.underlying28 rfl (by kernel_rfl)) rfl ?_
  exact GotOne.none HO.out hb



theorem one_short {s : Sh} {v : Value} {bs : List Int} {w : World} (hm : s.may = true) (h : Ints .u8 w v bs) (h4 : bs.length < 4) : Calls Try.prog 10 #[s.val, v] w (GotOne s bs w) := by
  have HM := sh_may s
  rw [hm] at HM
  have HM := Lib.hid HM
  have HO : Hid (s.one bs = ((0, []), 0, s.bad)) := by show _ = _; rw [Sh.one, if_neg (by simp [hm]), if_pos h4]
  have HR : Hid ((St.fresh bs s.bad s.odd).row [2, 2] = ((St.fresh bs s.bad s.odd).fail s.bad, [])) := row_short rfl (by rw [show (St.fresh bs s.bad s.odd).rest = bs from rfl, s22_short h4])
  have HL : Hid (bs.length ≤ 1000000000) := by show _ ≤ _; omega
  have HI := Lib.hid h
  have HE : Hid (((St.fresh bs s.bad s.odd).fail s.bad).er = s.bad) := rfl
  clear h hm h4
  simp only [Sh.val]
  go_enter Try.func10, Try.ntmps10
  go_wp2_with (first
    | (go_at_call 40; (with_reducible refine (HM.out _).mono ?_); rintro e w1 ⟨rfl, hb⟩; have H1 := Lib.hid ((Two0.start w s).step hb (by simp)); obtain ⟨c0, c1, c2, c3, c4, d0, d1, f0, f1⟩ := H1.out.cells; have HI1 := Lib.hid (HI.out.below H1.out.below); have HS1 := Lib.hid H1.out.size; clear hb)
    | (go_at_call 25; (with_reducible refine (cur_new HI1.out HL.out s.bad s.odd).mono ?_); rintro e w2 ⟨q, rfl, hq, hb⟩; have HQ := Lib.hid hq; have HF := Lib.hid (Nat.le_trans HS1.out hq.from); have H2 := Lib.hid (H1.out.step hb HS1.out); have HI2 := Lib.hid (HI1.out.below hb); clear hq hb c0 c1 c2 c3 c4 d0 d1 f0 f1; obtain ⟨c0, c1, c2, c3, c4, d0, d1, f0, f1⟩ := H2.out.cells)
    | (go_at_call 41; have hr := cur_row (HQ.out.below (below_alloc2 (.cells #[.int .i64 2, .int .i64 2] 3))) (.slice (some ⟨w2.heap.size, 0, none⟩) 2 2) [2, 2] (Ints.lit .i64 w2 3 [2, 2] _ rfl (by decide) (by decide)); rw [HR.out] at hr; (with_reducible refine hr.mono ?_); clear hr; rintro e w3 ⟨va, rfl, ho, hc, hg⟩; obtain ⟨aa, capa, rfl⟩ := own_slice ho; have H3 := Lib.hid ((H2.out.step (below_alloc2 _) H2.out.size).row hg HF.out); have HC := Lib.hid hc; have HO3 := Lib.hid ho; clear ho hc hg c0 c1 c2 c3 c4 d0 d1 f0 f1; obtain ⟨c0, c1, c2, c3, c4, d0, d1, f0, f1⟩ := H3.out.cells)
    | (go_at_call 28; (with_reducible refine (cur_err HC.out).mono ?_); rintro e w4 ⟨rfl, rfl⟩))
  obtain ⟨hh, hb⟩ := H3.out.set (.int .i64 0) (.slice none 0 0)
  refine bodyPost_ret (res_row_tmp_tmp rfl _ _ (w.heap.size + 1) _ _ _ _ rfl hh Try.underlying28 rfl (by kernel_rfl)) rfl ?_
  exact GotOne.none HO.out hb



theorem xs_0 {k : IntKind} {w : World} {b o c : Nat} {x y : Int} (h : Ints k w (.slice (some ⟨b, o, none⟩) [x, y].length c) [x, y]) : w.cell? ⟨b, o, none⟩ = some (.int k x) := by
  obtain ⟨a, cap, b', off, e, -, -, -, h4, h5⟩ := h.open
  injection e with e1 e2 e3
  have := h4 (by simp)
  rw [← e1] at this
  injection this with this
  injection this with e4 e5
  subst e4; subst e5
  exact h5 0 (by simp)
theorem xs_1 {k : IntKind} {w : World} {b o c : Nat} {x y : Int} (h : Ints k w (.slice (some ⟨b, o, none⟩) [x, y].length c) [x, y]) : w.cell? ⟨b, o + 1, none⟩ = some (.int k y) := by
  obtain ⟨a, cap, b', off, e, -, -, -, h4, h5⟩ := h.open
  injection e with e1 e2 e3
  have := h4 (by simp)
  rw [← e1] at this
  injection this with this
  injection this with e4 e5
  subst e4; subst e5
  exact h5 1 (by simp)

theorem one_unfit {s : Sh} {v : Value} {bs : List Int} {w : World} (hm : s.may = true) (h : Ints .u8 w v bs) (h4 : 4 ≤ bs.length) (hl : bs.length ≤ 1000000000) (hf : s.fits (told bs) = false) : Calls Try.prog 10 #[s.val, v] w (GotOne s bs w) := by
  have HM := sh_may s
  rw [hm] at HM
  have HM := Lib.hid HM
  have hu := h.u8
  have hnl := told_lt hu
  have hne := told_eq hu
  have hv := valL_bd (b := bs.take 2) (fun z hz => hu z (List.mem_of_mem_take hz))
  rw [show (bs.take 2).length = 2 by simp; omega, show (256 : Int) ^ 2 = 65536 by decide] at hv
  have hr : (St.fresh bs s.bad s.odd).row [2, 2] = ({ St.fresh bs s.bad s.odd with pos := 4 }, [valL (bs.take 2), (told bs : Int)]) := by
    rw [row_fine rfl (by rw [show (St.fresh bs s.bad s.odd).rest = bs from rfl, s22_fine h4]), show (St.fresh bs s.bad s.odd).rest = bs from rfl, s22_fine h4, ← hne]
    rfl
  have HO : Hid (s.one bs = ((0, []), 0, s.bad)) := by show _ = _; rw [Sh.one, if_neg (by simp [hm]), if_neg (by omega), if_pos (.inl hf)]
  have HT := sh_fits hm (told bs) (by omega)
  rw [hf] at HT
  have HT := Lib.hid HT
  have HL : Hid (bs.length ≤ 1000000000) := hl
  have HI := Lib.hid h
  clear h hm h4 hl hf hne hu
  generalize told bs = n at hnl hr HT
  generalize valL (bs.take 2) = x at hv hr
  have HR := Lib.hid hr
  have HU : Hid (∀ z ∈ [x, (n : Int)], (Lit.int .u64 z).wf = true) := U64.wf (by intro z hz; simp at hz; omega)
  clear hr
  simp only [Sh.val]
  go_enter Try.func10, Try.ntmps10
  go_wp2_with (first
    | (go_at_call 40; (with_reducible refine (HM.out _).mono ?_); rintro e w1 ⟨rfl, hb⟩; have H1 := Lib.hid ((Two0.start w s).step hb (by simp)); obtain ⟨c0, c1, c2, c3, c4, d0, d1, f0, f1⟩ := H1.out.cells; have HI1 := Lib.hid (HI.out.below H1.out.below); have HS1 := Lib.hid H1.out.size; clear hb)
    | (go_at_call 25; (with_reducible refine (cur_new HI1.out HL.out s.bad s.odd).mono ?_); rintro e w2 ⟨q, rfl, hq, hb⟩; have HQ := Lib.hid hq; have HF := Lib.hid (Nat.le_trans HS1.out hq.from); have H2 := Lib.hid (H1.out.step hb HS1.out); have HI2 := Lib.hid (HI1.out.below hb); clear hq hb c0 c1 c2 c3 c4 d0 d1 f0 f1; obtain ⟨c0, c1, c2, c3, c4, d0, d1, f0, f1⟩ := H2.out.cells)
    | (go_at_call 41; have hr := cur_row (HQ.out.below (below_alloc2 (.cells #[.int .i64 2, .int .i64 2] 3))) (.slice (some ⟨w2.heap.size, 0, none⟩) 2 2) [2, 2] (Ints.lit .i64 w2 3 [2, 2] _ rfl (by decide) (by decide)); rw [HR.out] at hr; (with_reducible refine hr.mono ?_); clear hr; rintro e w3 ⟨va, rfl, ho, hc, hg⟩; obtain ⟨aa, capa, bx, ox, rfl, -, -, -, hax, hcx⟩ := (Ints.of_own ho HU.out).open; obtain rfl := hax (by simp); have HX3 := Lib.hid (Ints.of_own ho HU.out); have H3 := Lib.hid ((H2.out.step (below_alloc2 _) H2.out.size).row hg HF.out); have HC := Lib.hid hc; clear ho hc hg hax hcx c0 c1 c2 c3 c4 d0 d1 f0 f1; obtain ⟨c0, c1, c2, c3, c4, d0, d1, f0, f1⟩ := H3.out.cells; have x1 := xs_0 HX3.out; have x2 := xs_1 HX3.out)
    | (go_at_call 42; (with_reducible refine (HT.out _).mono ?_); rintro e w4 ⟨rfl, hb⟩; have H4 := Lib.hid (H3.out.step hb H3.out.size); have HC4 := Lib.hid (HC.out.below hb); have HX4 := Lib.hid (HX3.out.below hb); clear hb x1 x2 c0 c1 c2 c3 c4 d0 d1 f0 f1; obtain ⟨c0, c1, c2, c3, c4, d0, d1, f0, f1⟩ := H4.out.cells; have x1 := xs_0 HX4.out; have x2 := xs_1 HX4.out)
    | go_region)
  obtain ⟨hh, hb⟩ := H4.out.set (.int .i64 0) (.slice none 0 0)
  refine bodyPost_ret (res_row_tmp_tmp rfl _ (World.drew _) (w.heap.size + 1) _ _ _ _ rfl hh Try.underlying28 rfl (by kernel_rfl)) rfl ?_
  exact GotOne.none HO.out (below_drewN hb 1)

theorem one_long {s : Sh} {v : Value} {bs : List Int} {w : World} (hm : s.may = true) (h : Ints .u8 w v bs) (h4 : 4 ≤ bs.length) (hl : bs.length ≤ 1000000000) (hf : s.fits (told bs) = true) (hz : bs.length < told bs + s.zeros (told bs)) : Calls Try.prog 10 #[s.val, v] w (GotOne s bs w) := by
  have HM := sh_may s
  rw [hm] at HM
  have HM := Lib.hid HM
  have hu := h.u8
  have hnl := told_lt hu
  have hne := told_eq hu
  have hv := valL_bd (b := bs.take 2) (fun z hz => hu z (List.mem_of_mem_take hz))
  rw [show (bs.take 2).length = 2 by simp; omega, show (256 : Int) ^ 2 = 65536 by decide] at hv
  have hr : (St.fresh bs s.bad s.odd).row [2, 2] = ({ St.fresh bs s.bad s.odd with pos := 4 }, [valL (bs.take 2), (told bs : Int)]) := by
    rw [row_fine rfl (by rw [show (St.fresh bs s.bad s.odd).rest = bs from rfl, s22_fine h4]), show (St.fresh bs s.bad s.odd).rest = bs from rfl, s22_fine h4, ← hne]
    rfl
  have HO : Hid (s.one bs = ((0, []), 0, s.bad)) := by show _ = _; rw [Sh.one, if_neg (by simp [hm]), if_neg (by omega), if_pos (.inr hz)]
  have HT := sh_fits hm (told bs) (by omega)
  rw [hf] at HT
  have HT := Lib.hid HT
  have HZ := Lib.hid (sh_zeros hm (told bs) (by omega))
  have hzl := Sh.zeros_lt hm (told bs)
  have HL : Hid (bs.length ≤ 1000000000) := hl
  have HI := Lib.hid h
  obtain ⟨av, capv, bv, ov, rfl, -⟩ := h.open
  clear h hm h4 hf hne hu
  generalize s.zeros (told bs) = z at hz hzl HZ
  generalize told bs = n at hnl hr HT HZ hz
  generalize valL (bs.take 2) = x at hv hr
  have HR := Lib.hid hr
  have HU : Hid (∀ z ∈ [x, (n : Int)], (Lit.int .u64 z).wf = true) := U64.wf (by intro z hz; simp at hz; omega)
  have hgt : decide ((bs.length : Int) < (n : Int) + (z : Int)) = true := decide_eq_true (by omega)
  clear hr
  simp only [Sh.val]
  go_enter Try.func10, Try.ntmps10
  go_wp2_with (first
    | (go_at_call 40; (with_reducible refine (HM.out _).mono ?_); rintro e w1 ⟨rfl, hb⟩; have H1 := Lib.hid ((Two0.start w s).step hb (by simp)); obtain ⟨c0, c1, c2, c3, c4, d0, d1, f0, f1⟩ := H1.out.cells; have HI1 := Lib.hid (HI.out.below H1.out.below); have HS1 := Lib.hid H1.out.size; clear hb)
    | (go_at_call 25; (with_reducible refine (cur_new HI1.out HL.out s.bad s.odd).mono ?_); rintro e w2 ⟨q, rfl, hq, hb⟩; have HQ := Lib.hid hq; have HF := Lib.hid (Nat.le_trans HS1.out hq.from); have H2 := Lib.hid (H1.out.step hb HS1.out); have HI2 := Lib.hid (HI1.out.below hb); clear hq hb c0 c1 c2 c3 c4 d0 d1 f0 f1; obtain ⟨c0, c1, c2, c3, c4, d0, d1, f0, f1⟩ := H2.out.cells)
    | (go_at_call 41; have hr := cur_row (HQ.out.below (below_alloc2 (.cells #[.int .i64 2, .int .i64 2] 3))) (.slice (some ⟨w2.heap.size, 0, none⟩) 2 2) [2, 2] (Ints.lit .i64 w2 3 [2, 2] _ rfl (by decide) (by decide)); rw [HR.out] at hr; (with_reducible refine hr.mono ?_); clear hr; rintro e w3 ⟨va, rfl, ho, hc, hg⟩; obtain ⟨aa, capa, bx, ox, rfl, -, -, -, hax, hcx⟩ := (Ints.of_own ho HU.out).open; obtain rfl := hax (by simp); have HX3 := Lib.hid (Ints.of_own ho HU.out); have H3 := Lib.hid ((H2.out.step (below_alloc2 _) H2.out.size).row hg HF.out); have HC := Lib.hid hc; clear ho hc hg hax hcx c0 c1 c2 c3 c4 d0 d1 f0 f1; obtain ⟨c0, c1, c2, c3, c4, d0, d1, f0, f1⟩ := H3.out.cells; have x1 := xs_0 HX3.out; have x2 := xs_1 HX3.out)
    | (go_at_call 42; (with_reducible refine (HT.out _).mono ?_); rintro e w4 ⟨rfl, hb⟩; have H4 := Lib.hid (H3.out.step hb H3.out.size); have HC4 := Lib.hid (HC.out.below hb); have HX4 := Lib.hid (HX3.out.below hb); clear hb x1 x2 c0 c1 c2 c3 c4 d0 d1 f0 f1; obtain ⟨c0, c1, c2, c3, c4, d0, d1, f0, f1⟩ := H4.out.cells; have x1 := xs_0 HX4.out; have x2 := xs_1 HX4.out)
    | (go_at_call 43; (with_reducible refine (HZ.out _).mono ?_); rintro e w5 ⟨rfl, hb⟩; have H5 := Lib.hid (H4.out.step hb H4.out.size); have HC5 := Lib.hid (HC4.out.below hb); have HX5 := Lib.hid (HX4.out.below hb); clear hb x1 x2 c0 c1 c2 c3 c4 d0 d1 f0 f1; obtain ⟨c0, c1, c2, c3, c4, d0, d1, f0, f1⟩ := H5.out.cells; have x1 := xs_0 HX5.out; have x2 := xs_1 HX5.out)
    | go_region)
  obtain ⟨hh, hb⟩ := H5.out.set (.int .i64 0) (.slice none 0 0)
  refine bodyPost_ret (res_row_tmp_tmp rfl _ (World.drew _) (w.heap.size + 1) _ _ _ _ rfl hh Try.underlying28 rfl (by kernel_rfl)) rfl ?_
  exact GotOne.none HO.out (below_drewN hb 1)

end Go.Proofs.Ytoobcgakainelaa
