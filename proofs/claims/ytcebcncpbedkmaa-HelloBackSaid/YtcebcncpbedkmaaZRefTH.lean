/- The document's One, where a thing is there. Conditions: the argument reads as bytes, at most 10^9. -/
import Derived.Test.YtcebcncpbedkmaaZRefTE
namespace Go.Proofs.Ytcebcncpbedkmaa
open Go.RowKit
set_option maxRecDepth 100000
set_option maxHeartbeats 4000000

theorem TwoR.done {w w' : World} {s : Sh} {L m n : Nat} {x : Int} {bv : Value} {bs zs : List Int} (h : TwoR w s w') (ho : s.one bs = ((x, zs), n, 0)) (hown : w'.ownsRow L 5 1 bv m (zs.map (Value.int .u8))) (hL : w.heap.size + 2 ≤ L) (hu : U8 zs) (hm : zs.length = m) :
    GotOne s bs w (.returned (.tuple #[.agg #[.int .i64 x, bv], .int .i64 n, .int .i64 0])) ((w'.setCell ⟨w.heap.size + 1, 0, none⟩ (.int .i64 x)).setCell ⟨w.heap.size + 1, 1, none⟩ bv) := by
  have h4 := rows2 h.res (.int .i64 x) bv
  unfold GotOne
  rw [ho]
  subst hm
  have h5 := own_other hown h4.2 (fun k e => by injection e with e; omega)
  exact ⟨bv, rfl, own_base h5 (by omega), hu, below_row h.below h.below.size h4.2 (by omega)⟩

theorem rone_there {s : Sh} {v : Value} {bs : List Int} {w : World} (hm : s.may = true) (h : Ints .u8 w v bs) (h4 : 4 ≤ bs.length) (hl : bs.length ≤ 1000000000) (hf : s.fits (told bs) = true) (hz : told bs + s.zeros (told bs) ≤ bs.length) : Calls Try.prog 75 #[s.val, v] w (GotOne s bs w) := by
  obtain ⟨st, hst⟩ : ∃ st : Nat, s.step = st := ⟨s.step.toNat, by have := (Sh.may_iff.1 hm).2.2.1; omega⟩
  have hst1 : 1 ≤ st := by have := (Sh.may_iff.1 hm).2.2.1; omega
  have hst2 : st ≤ 64 := by have := (Sh.may_iff.1 hm).2.2.2.1; omega
  have hk0 : (st : Int) ≠ 0 := by omega
  have hkb : ((st : Int) == 0) = false := by simpa using hk0
  have hle4 : 4 ≤ s.least := (Sh.may_iff.1 hm).1
  have hM := ref_may s
  rw [hm] at hM
  simp only [Sh.val] at hM
  rw [hst] at hM
  have HM := Lib.hid hM
  have HSt := Lib.hid hst
  have HI := Lib.hid h
  obtain ⟨av, capv, bv, ov, rfl, -⟩ := h.open
  have hu := h.u8
  have hnl := told_lt hu
  have hne := told_eq hu
  have hfit : s.fits (told bs) = (decide (s.least.toNat ≤ told bs) && (s.pad || decide (told bs % st = 0))) := by
    unfold Sh.fits; rw [hst]; simp
  have hzd : s.zeros (told bs) = if s.pad then (st - told bs % st) % st else 0 := by unfold Sh.zeros; rw [hst]; simp
  obtain ⟨A, hsl, hA⟩ := slice_lohi (P := Try.prog) Try.underlying24 info_u8 h (2 : Int) (4 : Int) 2 (2 + 2) rfl rfl (by omega) (by omega)
  rw [take_drop_mid] at hA
  simp only [Nat.add_sub_cancel_left] at hsl hA
  have HA := Lib.hid hA
  have HTd := Lib.hid hne
  have hn4 : 4 ≤ told bs := by
    rw [hfit] at hf
    simp only [Bool.and_eq_true, decide_eq_true_eq] at hf
    omega
  have HO : Hid (s.one bs = if ((bs.drop (told bs)).take (s.zeros (told bs))).all (· == 0) = false then ((0, []), 0, s.odd) else ((valL (bs.take 2), (bs.take (told bs)).drop 4), told bs + s.zeros (told bs), 0)) := by
    show _ = _
    rw [Sh.one, if_neg (by simp [hm]), if_neg (by omega), if_neg (by rw [hf]; simp; omega)]
  have hv2 := valL_bd (b := bs.take 2) (fun z hz => hu z (List.mem_of_mem_take hz))
  rw [show (bs.take 2).length = 2 by simp; omega, show (256 : Int) ^ 2 = 65536 by decide] at hv2
  obtain ⟨A2, hsl2, hA2⟩ := slice_upto (P := Try.prog) Try.underlying24 info_u8 h (2 : Int) 2 rfl (by omega)
  obtain ⟨A4, hsl4, hA4⟩ := slice_lohi (P := Try.prog) Try.underlying24 info_u8 h (4 : Int) ((told bs : Nat) : Int) 4 (told bs) rfl rfl (by omega) (by omega)
  have HA2 := Lib.hid hA2
  have HA4 := Lib.hid hA4
  have e1 : decide ((bs.length : Int) < 4) = false := decide_eq_false (by omega)
  have hlb : Hid (((bs.take (told bs)).drop 4).length = told bs - 4) := by show _ = _; simp; omega
  have HZr : Hid (∀ w, Calls Try.prog 73 #[.int .i64 (told bs : Int), .int .i64 st] w fun e w' => e = .returned (.int .i64 ((st - told bs % st) % st : Nat)) ∧ w = w') := fun w => ref_zeros (told bs) st hst1 hst2 (by omega) w
  have hz64 : (st - told bs % st) % st < st := Nat.mod_lt _ (by omega)
  have hmod : ((told bs % st : Nat) : Int) = (told bs : Int) % (st : Int) := Int.natCast_emod _ _
  have hpm : s.pad = false → (told bs : Int) % (st : Int) = 0 := fun hp => by
    rw [← hmod]
    rw [hfit, hp] at hf
    simp only [Bool.and_eq_true, Bool.false_or, decide_eq_true_eq] at hf
    have := hf.2
    omega
  have hnle : s.least ≤ (told bs : Int) := by
    rw [hfit] at hf
    simp only [Bool.and_eq_true, decide_eq_true_eq] at hf
    omega
  rw [hzd] at hz HO
  clear h hm hst hM hA hne hu hzd hfit hmod hf hA2 hA4
  generalize (st - told bs % st) % st = z at hz hz64 HZr HO
  generalize told bs = n at hnl HTd HZr hz hpm hnle HO hn4 hsl4 HA4 hlb
  obtain ⟨x, hx⟩ : ∃ x, valL (bs.take 2) = x := ⟨_, rfl⟩
  rw [hx] at hv2 HO
  have HX := Lib.hid hx
  clear hx
  have e2 : decide ((n : Int) < s.least) = false := decide_eq_false (by omega)
  cases hp : s.pad with
  | false =>
    have HPd := Lib.hid hp
    have e3 := hpm hp
    rw [hp] at hz HO
    simp only [Bool.false_eq_true, if_false, Nat.add_zero] at hz HO
    clear hpm hp
    simp only [Sh.val]
    rw [HSt.out]
    go_enter Try.func75, Try.ntmps75
    rw [HPd.out]
    have HMp := HM.out
    rw [HPd.out] at HMp
    have HM := Lib.hid HMp
    clear HMp
    go_wp2_with (first
      | (go_at_call 71; (with_reducible refine (HM.out _).mono ?_); rintro e w1 ⟨rfl, hb⟩; have H1 : Hid (TwoR w s w1) := (by have hh := (TwoR.start w s); rw [HSt.out, HPd.out] at hh; exact hh.step hb (by simp)); obtain ⟨c0, c1, c2, c3, c4, d0, d1, f0, f1⟩ := H1.out.cells; rw [HSt.out] at c1; rw [HPd.out] at c2; have HI1 := Lib.hid (HI.out.below H1.out.below); clear hb; have hv1 := ref_value _ _ w1 (HA.out.below H1.out.below) (by rw [List.length_take]; omega); rw [HTd.out] at hv1; have HV1 := Lib.hid hv1; clear hv1)
      | (go_at_call 87; (with_reducible refine HV1.out.mono ?_); rintro e w2 ⟨rfl, rfl⟩; clear HV1)
      | fail)
    have hall : Hid (((bs.drop n).take 0).all (· == 0) = true) := rfl
    go_loopw [9] (fun i wi => i = .int .i64 n ∧ wi = w1) (fun _ _ => 0)
    case atStart => exact ⟨rfl, rfl⟩
    case round =>
      obtain ⟨rfl, rfl⟩ := hrel
      have HOk : Hid (s.one bs = ((x, (bs.take n).drop 4), n, 0)) := by rw [Hid, HO.out, if_neg (by rw [hall.out]; simp)]
      have hva := ref_value _ _ wr.drew ((HA2.out.below H1.out.below).below (below_drewN (Below.refl _ _) 1)) (by rw [List.length_take]; omega)
      have hvb := ref_value _ _ (wr.alloc (.cells #[] 5)).drew ((HA2.out.below H1.out.below).below (below_drewN (below_alloc2 _) 1)) (by rw [List.length_take]; omega)
      rw [HX.out] at hva hvb
      have HVa := Lib.hid hva
      have HVb := Lib.hid hvb
      have hs4 : Sl (wr.alloc (.cells #[] 5)).drew (.slice A4 (n - 4) (capv - 4)) ((bs.take n).drop 4).length (((bs.take n).drop 4).map (Value.int .u8)) := ((HA4.out.below H1.out.below).below (below_drewN (below_alloc2 (w := wr) (.cells #[] 5)) 1)).1
      rw [hlb.out] at hs4
      have HS4 := Lib.hid hs4
      have HU8 : Hid (U8 ((bs.take n).drop 4)) := HA4.out.u8
      have HOw : Hid ((wr.alloc (.cells #[] 5)).drew.ownsRow wr.heap.size 5 1 (.slice (some ⟨wr.heap.size, 0, none⟩) 0 0) 0 []) := own_made0 wr wr.heap.size 5 1 (Nat.le_refl _)
      clear hva hvb
      go_wp2_with fail
      go_region_law (first
        | (go_simp; go_at_call 87; (with_reducible refine HVa.out.mono ?_); rintro e w2 ⟨rfl, rfl⟩)
        | (go_simp; go_at_call 87; (with_reducible refine HVb.out.mono ?_); rintro e w2 ⟨rfl, rfl⟩)
        | (go_simp; go_at_call 87; (with_reducible refine HVc.out.mono ?_); rintro e w2 ⟨rfl, rfl⟩)
        | (refine step_append_sl (by rfl) _ _ _ (by rfl) wr.heap.size 5 (.int .u8 0) 1 1 Try.underlying24 info_u8 rfl (by omega) (.slice (some ⟨wr.heap.size, 0, none⟩) 0 0) 0 [] (by rfl) HOw.out (.slice A4 (n - 4) (capv - 4)) (n - 4) (((bs.take n).drop 4).map (Value.int .u8)) (by rfl) (by rw [List.length_map, hlb.out]; omega) HS4.out (ints_one _ _) (by unfold maxLen; omega) (by omega) (by simp [World.drew]) ?_
           intro v4 w4 hown hgrow
           rw [Nat.zero_add, List.nil_append] at hown
           have HO4 := Lib.hid hown
           have hb4 : Below wr.heap.size wr w4 := ((below_drewN (below_alloc2 (w := wr) (.cells #[] 5)) 1).grown hgrow (by simp) (fun k e => by have e' : wr.heap.size = k := (by simpa [Value.ownBlock] using e); omega))
           have H4 := Lib.hid (H1.out.step hb4 H1.out.size)
           obtain ⟨-, -, -, -, -, q0, q1, r0, r1⟩ := H4.out.cells
           obtain ⟨a4, cap4, rfl⟩ := own_slice hown
           have hvc := ref_value _ _ w4 ((HA2.out.below H1.out.below).below hb4) (by rw [List.length_take]; omega)
           rw [HX.out] at hvc
           have HVc := Lib.hid hvc
           clear hown hgrow hb4 hvc))
      all_goals
        rw [show IntKind.wrap .i64 x = x from wrap_small (by omega) (by omega)]
        go_wp2
        refine bodyPost_ret (res_row_tmp_tmp rfl _ _ (w.heap.size + 1) _ _ _ _ rfl (H4.out.set (.int .i64 x) (.slice a4 (n - 4) cap4)).1 Try.underlying85 rfl (by kernel_rfl)) rfl ?_
        exact H4.out.done HOk.out HO4.out H1.out.size HU8.out hlb.out
  | true =>
    have HPd := Lib.hid hp
    rw [hp] at hz HO
    simp only [if_true] at hz HO
    have HOd := Lib.hid HO.out
    clear hpm hp
    simp only [Sh.val]
    rw [HSt.out]
    go_enter Try.func75, Try.ntmps75
    rw [HPd.out]
    have HMp := HM.out
    rw [HPd.out] at HMp
    have HM := Lib.hid HMp
    clear HMp
    go_wp2_with (first
      | (go_at_call 71; (with_reducible refine (HM.out _).mono ?_); rintro e w1 ⟨rfl, hb⟩; have H1 : Hid (TwoR w s w1) := (by have hh := (TwoR.start w s); rw [HSt.out, HPd.out] at hh; exact hh.step hb (by simp)); obtain ⟨c0, c1, c2, c3, c4, d0, d1, f0, f1⟩ := H1.out.cells; rw [HSt.out] at c1; rw [HPd.out] at c2; have HI1 := Lib.hid (HI.out.below H1.out.below); clear hb; have hv1 := ref_value _ _ w1 (HA.out.below H1.out.below) (by rw [List.length_take]; omega); rw [HTd.out] at hv1; have HV1 := Lib.hid hv1; clear hv1)
      | (go_at_call 87; (with_reducible refine HV1.out.mono ?_); rintro e w2 ⟨rfl, rfl⟩; clear HV1)
      | (go_at_call 73; (with_reducible refine (HZr.out _).mono ?_); rintro e w3 ⟨rfl, rfl⟩)
      | fail)
    go_loopw [9] (fun i wi => ∃ j : Nat, j ≤ z ∧ i = .int .i64 ((n : Int) + (j : Int)) ∧ wi = w1 ∧ Hid (((bs.drop n).take j).all (· == 0) = true)) (fun i _ => n + z - (intOf i).toNat)
    case atStart => exact ⟨0, by omega, by simp, rfl, rfl⟩
    case round =>
      obtain ⟨j, hj, rfl, rfl, HJ⟩ := hrel
      by_cases hlt : j < z
      · obtain ⟨aa, capx, bx, ox, e, -, -, -, hax, hcx⟩ := HI1.out.open
        injection e with q1 q2 q3
        subst q1; subst q3
        obtain rfl := hax (by omega)
        obtain ⟨y, hy, hcy⟩ := name_cell (hcx (n + j) (by omega))
        have hdl : (bs.drop n).length = bs.length - n := by simp
        have HXD : Hid ((bs.drop n).getD j 0 = y) := by rw [Hid, hy]; simp [List.getD]
        clear hcx hax hy q2
        by_cases hy0 : y = 0
        · subst hy0
          have HJ1 : Hid (((bs.drop n).take (j + 1)).all (· == 0) = true) := all_zero_step (by omega) HJ.out HXD.out
          clear hdl
          have hg1 : (n : Int) + (j : Int) < (bs.length : Int) := by omega
          go_wp2_with fail
          go_roundw
          case rel => exact ⟨j + 1, by omega, congrArg (Value.int .i64) (by omega), by first | rfl | trivial, HJ1.out⟩
          case measure => simp [intOf]; omega
        · have hyb : (y != 0) = true := by simpa using hy0
          have HNo : Hid (s.one bs = ((0, []), 0, s.odd)) := by
            have h1 : ((bs.drop n).take z).all (· == 0) = false := all_zero_not hlt (by omega) (by rw [HXD.out]; exact hy0)
            rw [Hid, HOd.out, if_pos h1]
          clear hdl hy0
          have hg1 : (n : Int) + (j : Int) < (bs.length : Int) := by omega
          go_wp2_with go_region
          obtain ⟨hh, hb⟩ := H1.out.set (.int .i64 0) (.slice none 0 0)
          refine bodyPost_ret (res_row_tmp_tmp rfl _ (World.drew _) (w.heap.size + 1) _ _ _ _ rfl hh Try.underlying85 rfl (by kernel_rfl)) rfl ?_
          exact GotOne.none HNo.out (below_drewN hb 1)
      obtain rfl : j = z := by omega
      have hall := HJ
      have HOk : Hid (s.one bs = ((x, (bs.take n).drop 4), n + j, 0)) := by rw [Hid, HO.out, if_neg (by rw [hall.out]; simp)]
      have hva := ref_value _ _ wr.drew ((HA2.out.below H1.out.below).below (below_drewN (Below.refl _ _) 1)) (by rw [List.length_take]; omega)
      have hvb := ref_value _ _ (wr.alloc (.cells #[] 5)).drew ((HA2.out.below H1.out.below).below (below_drewN (below_alloc2 _) 1)) (by rw [List.length_take]; omega)
      rw [HX.out] at hva hvb
      have HVa := Lib.hid hva
      have HVb := Lib.hid hvb
      have hs4 : Sl (wr.alloc (.cells #[] 5)).drew (.slice A4 (n - 4) (capv - 4)) ((bs.take n).drop 4).length (((bs.take n).drop 4).map (Value.int .u8)) := ((HA4.out.below H1.out.below).below (below_drewN (below_alloc2 (w := wr) (.cells #[] 5)) 1)).1
      rw [hlb.out] at hs4
      have HS4 := Lib.hid hs4
      have HU8 : Hid (U8 ((bs.take n).drop 4)) := HA4.out.u8
      have HOw : Hid ((wr.alloc (.cells #[] 5)).drew.ownsRow wr.heap.size 5 1 (.slice (some ⟨wr.heap.size, 0, none⟩) 0 0) 0 []) := own_made0 wr wr.heap.size 5 1 (Nat.le_refl _)
      clear hva hvb
      go_wp2_with fail
      go_region_law (first
        | (go_simp; go_at_call 87; (with_reducible refine HVa.out.mono ?_); rintro e w2 ⟨rfl, rfl⟩)
        | (go_simp; go_at_call 87; (with_reducible refine HVb.out.mono ?_); rintro e w2 ⟨rfl, rfl⟩)
        | (go_simp; go_at_call 87; (with_reducible refine HVc.out.mono ?_); rintro e w2 ⟨rfl, rfl⟩)
        | (refine step_append_sl (by rfl) _ _ _ (by rfl) wr.heap.size 5 (.int .u8 0) 1 1 Try.underlying24 info_u8 rfl (by omega) (.slice (some ⟨wr.heap.size, 0, none⟩) 0 0) 0 [] (by rfl) HOw.out (.slice A4 (n - 4) (capv - 4)) (n - 4) (((bs.take n).drop 4).map (Value.int .u8)) (by rfl) (by rw [List.length_map, hlb.out]; omega) HS4.out (ints_one _ _) (by unfold maxLen; omega) (by omega) (by simp [World.drew]) ?_
           intro v4 w4 hown hgrow
           rw [Nat.zero_add, List.nil_append] at hown
           have HO4 := Lib.hid hown
           have hb4 : Below wr.heap.size wr w4 := ((below_drewN (below_alloc2 (w := wr) (.cells #[] 5)) 1).grown hgrow (by simp) (fun k e => by have e' : wr.heap.size = k := (by simpa [Value.ownBlock] using e); omega))
           have H4 := Lib.hid (H1.out.step hb4 H1.out.size)
           obtain ⟨-, -, -, -, -, q0, q1, r0, r1⟩ := H4.out.cells
           obtain ⟨a4, cap4, rfl⟩ := own_slice hown
           have hvc := ref_value _ _ w4 ((HA2.out.below H1.out.below).below hb4) (by rw [List.length_take]; omega)
           rw [HX.out] at hvc
           have HVc := Lib.hid hvc
           clear hown hgrow hb4 hvc))
      all_goals
        rw [show IntKind.wrap .i64 x = x from wrap_small (by omega) (by omega)]
        go_wp2
        refine bodyPost_ret (res_row_tmp_tmp rfl _ _ (w.heap.size + 1) _ _ _ _ rfl (H4.out.set (.int .i64 x) (.slice a4 (n - 4) cap4)).1 Try.underlying85 rfl (by kernel_rfl)) rfl ?_
        exact H4.out.done HOk.out HO4.out H1.out.size HU8.out hlb.out


theorem ref_one {s : Sh} {v : Value} {bs : List Int} {w : World} (h : Ints .u8 w v bs) (hl : bs.length ≤ 1000000000) : Calls Try.prog 75 #[s.val, v] w (GotOne s bs w) := by
  cases hm : s.may with
  | false => exact rone_may hm
  | true =>
    by_cases h4 : bs.length < 4
    · exact rone_short hm h h4
    · cases hf : s.fits (told bs) with
      | false => exact rone_unfit hm h (by omega) hl hf
      | true =>
        by_cases hz : bs.length < told bs + s.zeros (told bs)
        · exact rone_long hm h (by omega) hl hf hz
        · exact rone_there hm h (by omega) hl hf (by omega)
end Go.Proofs.Ytcebcncpbedkmaa
