/- The document's One. Conditions: the argument reads as bytes, at most 10^9. -/
import Derived.Test.YtoobcgakainelaaRefTE
namespace Go.Proofs.Ytoobcgakainelaa
open Go.RowKit
set_option maxRecDepth 100000
set_option maxHeartbeats 4000000

theorem rone_long {s : Sh} {v : Value} {bs : List Int} {w : World} (hm : s.may = true) (h : Ints .u8 w v bs) (h4 : 4 ≤ bs.length) (hl : bs.length ≤ 1000000000) (hf : s.fits (told bs) = true) (hz : bs.length < told bs + s.zeros (told bs)) : Calls Try.prog 11 #[s.val, v] w (GotOne s bs w) := by
  obtain ⟨st, hst⟩ : ∃ st : Nat, s.step = st := ⟨s.step.toNat, by have := (Sh.may_iff.1 hm).2.2.1; omega⟩
  have hst1 : 1 ≤ st := by have := (Sh.may_iff.1 hm).2.2.1; omega
  have hst2 : st ≤ 64 := by have := (Sh.may_iff.1 hm).2.2.2.1; omega
  have hk0 : (st : Int) ≠ 0 := by omega
  have hkb : ((st : Int) == 0) = false := by simpa using hk0
  have hle4 : 4 ≤ s.least := (Sh.may_iff.1 hm).1
  have hM := ref_may s
  rw [hm] at hM
  simp only [Sh.val] at hM
  rw [hst] at hM
  have HM := Lib.hid hM
  have HSt := Lib.hid hst
  have HI := Lib.hid h
  obtain ⟨av, capv, bv, ov, rfl, -⟩ := h.open
  have hu := h.u8
  have hnl := told_lt hu
  have hne := told_eq hu
  have hfit : s.fits (told bs) = (decide (s.least.toNat ≤ told bs) && (s.pad || decide (told bs % st = 0))) := by
    unfold Sh.fits; rw [hst]; simp
  have hzd : s.zeros (told bs) = if s.pad then (st - told bs % st) % st else 0 := by unfold Sh.zeros; rw [hst]; simp
  obtain ⟨A, hsl, hA⟩ := slice_lohi (P := Try.prog) Try.underlying25 info_u8 h (2 : Int) (4 : Int) 2 (2 + 2) rfl rfl (by omega) (by omega)
  rw [take_drop_mid] at hA
  simp only [Nat.add_sub_cancel_left] at hsl hA
  have HA := Lib.hid hA
  have HTd := Lib.hid hne
  have HO : Hid (s.one bs = ((0, []), 0, s.bad)) := by show _ = _; rw [Sh.one, if_neg (by simp [hm]), if_neg (by omega), if_pos (.inr hz)]
  have e1 : decide ((bs.length : Int) < 4) = false := decide_eq_false (by omega)
  have HZr : Hid (∀ w, Calls Try.prog 47 #[.int .i64 (told bs : Int), .int .i64 st] w fun e w' => e = .returned (.int .i64 ((st - told bs % st) % st : Nat)) ∧ w = w') := fun w => ref_zeros (told bs) st hst1 hst2 (by omega) w
  have hz64 : (st - told bs % st) % st < st := Nat.mod_lt _ (by omega)
  have hmod : ((told bs % st : Nat) : Int) = (told bs : Int) % (st : Int) := Int.natCast_emod _ _
  have hpm : s.pad = false → (told bs : Int) % (st : Int) = 0 := fun hp => by
    rw [← hmod]
    rw [hfit, hp] at hf
    simp only [Bool.and_eq_true, Bool.false_or, decide_eq_true_eq] at hf
    have := hf.2
    omega
  have hnle : s.least ≤ (told bs : Int) := by
    rw [hfit] at hf
    simp only [Bool.and_eq_true, decide_eq_true_eq] at hf
    omega
  rw [hzd] at hz
  clear h hm hst hM hA hne hu hzd hfit hmod hf
  generalize (st - told bs % st) % st = z at hz hz64 HZr
  generalize told bs = n at hnl HTd HZr hz hpm hnle
  have e2 : decide ((n : Int) < s.least) = false := decide_eq_false (by omega)
  cases hp : s.pad with
  | false =>
    have HPd := Lib.hid hp
    have e3 := hpm hp
    rw [hp] at hz
    have e4 : bs.length < n := by simpa using hz
    have e5 : decide ((bs.length : Int) < (n : Int)) = true := decide_eq_true (by omega)
    clear hpm hp hz
    simp only [Sh.val]
    rw [HSt.out]
    go_enter Try.func11, Try.ntmps11
    rw [HPd.out]
    have HMp := HM.out
    rw [HPd.out] at HMp
    have HM := Lib.hid HMp
    clear HMp
    go_wp2_with (first
      | (go_at_call 45; (with_reducible refine (HM.out _).mono ?_); rintro e w1 ⟨rfl, hb⟩; have H1 : Hid (TwoR w s w1) := (by have hh := (TwoR.start w s); rw [HSt.out, HPd.out] at hh; exact hh.step hb (by simp)); obtain ⟨c0, c1, c2, c3, c4, d0, d1, f0, f1⟩ := H1.out.cells; rw [HSt.out] at c1; rw [HPd.out] at c2; have HI1 := Lib.hid (HI.out.below H1.out.below); clear hb; have hv1 := ref_value _ _ w1 (HA.out.below H1.out.below) (by rw [List.length_take]; omega); rw [HTd.out] at hv1; have HV1 := Lib.hid hv1; clear hv1)
      | (go_at_call 46; (with_reducible refine HV1.out.mono ?_); rintro e w2 ⟨rfl, rfl⟩; clear HV1)
      | go_region)
    obtain ⟨hh, hb⟩ := H1.out.set (.int .i64 0) (.slice none 0 0)
    refine bodyPost_ret (res_row_tmp_tmp rfl _ (World.drew _) (w.heap.size + 1) _ _ _ _ rfl hh Try.underlying31 rfl (by kernel_rfl)) rfl ?_
    exact GotOne.none HO.out (below_drewN hb 1)
  | true =>
    have HPd := Lib.hid hp
    rw [hp] at hz
    have e4 : bs.length < n + z := by simpa using hz
    have e5 : decide ((bs.length : Int) < (n : Int) + (z : Int)) = true := decide_eq_true (by omega)
    clear hpm hp hz
    simp only [Sh.val]
    rw [HSt.out]
    go_enter Try.func11, Try.ntmps11
    rw [HPd.out]
    have HMp := HM.out
    rw [HPd.out] at HMp
    have HM := Lib.hid HMp
    clear HMp
    go_wp2_with (first
      | (go_at_call 45; (with_reducible refine (HM.out _).mono ?_); rintro e w1 ⟨rfl, hb⟩; have H1 : Hid (TwoR w s w1) := (by have hh := (TwoR.start w s); rw [HSt.out, HPd.out] at hh; exact hh.step hb (by simp)); obtain ⟨c0, c1, c2, c3, c4, d0, d1, f0, f1⟩ := H1.out.cells; rw [HSt.out] at c1; rw [HPd.out] at c2; have HI1 := Lib.hid (HI.out.below H1.out.below); clear hb; have hv1 := ref_value _ _ w1 (HA.out.below H1.out.below) (by rw [List.length_take]; omega); rw [HTd.out] at hv1; have HV1 := Lib.hid hv1; clear hv1)
      | (go_at_call 46; (with_reducible refine HV1.out.mono ?_); rintro e w2 ⟨rfl, rfl⟩; clear HV1)
      | (go_at_call 47; (with_reducible refine (HZr.out _).mono ?_); rintro e w3 ⟨rfl, rfl⟩)
      | go_region)
    obtain ⟨hh, hb⟩ := H1.out.set (.int .i64 0) (.slice none 0 0)
    refine bodyPost_ret (res_row_tmp_tmp rfl _ (World.drew _) (w.heap.size + 1) _ _ _ _ rfl hh Try.underlying31 rfl (by kernel_rfl)) rfl ?_
    exact GotOne.none HO.out (below_drewN hb 1)

end Go.Proofs.Ytoobcgakainelaa
