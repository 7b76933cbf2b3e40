/- The document's One: its refusals. Conditions: the argument reads as bytes, at most 10^9. The document's One. Conditions: the argument reads as bytes, at most 10^9. -/
import Derived.Test.YtcebcncpbedkmaaZRefTD
namespace Go.Proofs.Ytcebcncpbedkmaa
open Go.RowKit
set_option maxRecDepth 100000
set_option maxHeartbeats 4000000

/-- Since w, two blocks have been laid: a shape, and a thing of no bytes; they stand. -/
structure TwoR (w : World) (s : Sh) (w' : World) : Prop where
  below : Below w.heap.size w w'
  size : w.heap.size + 2 ≤ w'.heap.size
  sh : w'.heap[w.heap.size]? = some (.cells #[.int .i64 s.least, .int .i64 s.step, .bool s.pad, .int .i64 s.bad, .int .i64 s.odd] 88 (0, 0))
  res : w'.heap[w.heap.size + 1]? = some (.cells #[.int .i64 0, .slice none 0 0] 85 (0, 0))

theorem TwoR.start (w : World) (s : Sh) : TwoR w s ((w.alloc (.cells #[.int .i64 s.least, .int .i64 s.step, .bool s.pad, .int .i64 s.bad, .int .i64 s.odd] 88)).alloc (.cells #[.int .i64 0, .slice none 0 0] 85)) where
  below := ((Below.refl _ w).alloc (Nat.le_refl _) _).alloc (by simp) _
  size := by simp
  sh := (heap_alloc_old _ _ (by simp)).trans (heap_alloc_new w _)
  res := by have := heap_alloc_new (w.alloc (.cells #[.int .i64 s.least, .int .i64 s.step, .bool s.pad, .int .i64 s.bad, .int .i64 s.odd] 88)) (.cells #[.int .i64 0, .slice none 0 0] 85); simpa using this
theorem TwoR.step {w w1 w2 : World} {s : Sh} {B : Nat} (h : TwoR w s w1) (hb : Below B w1 w2) (hB : w.heap.size + 2 ≤ B) : TwoR w s w2 where
  below := h.below.trans (hb.mono (by omega))
  size := Nat.le_trans h.size hb.size
  sh := (hb.block _ (by omega)).trans h.sh
  res := (hb.block _ (by omega)).trans h.res
theorem TwoR.row {w w1 w2 : World} {s : Sh} {p : Nat} (h : TwoR w s w1) (hg : w1.grownBy w2 (some p)) (hp : w.heap.size + 2 ≤ p) : TwoR w s w2 :=
  h.step (below_row (Below.refl (w.heap.size + 2) w1) h.size hg hp) (Nat.le_refl _)


theorem TwoR.cells {w w' : World} {s : Sh} (h : TwoR w s w') :
    w'.cell? ⟨w.heap.size, 0, none⟩ = some (.int .i64 s.least) ∧ w'.cell? ⟨w.heap.size, 1, none⟩ = some (.int .i64 s.step) ∧ w'.cell? ⟨w.heap.size, 2, none⟩ = some (.bool s.pad) ∧ w'.cell? ⟨w.heap.size, 3, none⟩ = some (.int .i64 s.bad) ∧ w'.cell? ⟨w.heap.size, 4, none⟩ = some (.int .i64 s.odd) ∧
    w'.cell? ⟨w.heap.size + 1, 0, none⟩ = some (.int .i64 0) ∧ w'.cell? ⟨w.heap.size + 1, 1, none⟩ = some (.slice none 0 0) ∧ w'.frozen? ⟨w.heap.size + 1, 0, none⟩ = false ∧ w'.frozen? ⟨w.heap.size + 1, 1, none⟩ = false :=
  ⟨cell_row h.sh 0, cell_row h.sh 1, cell_row h.sh 2, cell_row h.sh 3, cell_row h.sh 4, cell_row h.res 0, cell_row h.res 1, frozen_row h.res 0, frozen_row h.res 1⟩
/-- The result's block, stored. -/
theorem TwoR.set {w w' : World} {s : Sh} (h : TwoR w s w') (v0 v1 : Value) :
    ((w'.setCell ⟨w.heap.size + 1, 0, none⟩ v0).setCell ⟨w.heap.size + 1, 1, none⟩ v1).heap[w.heap.size + 1]? = some (.cells #[v0, v1] 85 (0, 0)) ∧ Below w.heap.size w ((w'.setCell ⟨w.heap.size + 1, 0, none⟩ v0).setCell ⟨w.heap.size + 1, 1, none⟩ v1) :=
  ⟨(rows2 h.res v0 v1).1, below_row h.below h.below.size (rows2 h.res v0 v1).2 (by omega)⟩


theorem rone_may {s : Sh} {v : Value} {bs : List Int} {w : World} (hm : s.may = false) : Calls Try.prog 75 #[s.val, v] w (GotOne s bs w) := by
  have HM := ref_may s
  rw [hm] at HM
  have HM := Lib.hid HM
  have HO : Hid (s.one bs = ((0, []), 0, 10001)) := by show _ = _; rw [Sh.one, if_pos hm]
  clear hm
  simp only [Sh.val]
  go_enter Try.func75, Try.ntmps75
  go_wp2_with (go_at_call 71; (with_reducible refine (HM.out _).mono ?_); rintro e w1 ⟨rfl, hb⟩; have H1 := Lib.hid ((TwoR.start w s).step hb (by simp)); obtain ⟨c0, c1, c2, c3, c4, d0, d1, f0, f1⟩ := H1.out.cells; clear hb)
  obtain ⟨hh, hb⟩ := H1.out.set (.int .i64 0) (.slice none 0 0)
  refine bodyPost_ret (res_row_tmp_tmp rfl _ _ (w.heap.size + 1) _ _ _ _ rfl hh Try.underlying85 rfl (by kernel_rfl)) rfl ?_
  exact GotOne.none HO.out hb

theorem rone_short {s : Sh} {v : Value} {bs : List Int} {w : World} (hm : s.may = true) (h : Ints .u8 w v bs) (h4 : bs.length < 4) : Calls Try.prog 75 #[s.val, v] w (GotOne s bs w) := by
  obtain ⟨st, hst⟩ : ∃ st : Nat, s.step = st := ⟨s.step.toNat, by have := (Sh.may_iff.1 hm).2.2.1; omega⟩
  have hst1 : 1 ≤ st := by have := (Sh.may_iff.1 hm).2.2.1; omega
  have hst2 : st ≤ 64 := by have := (Sh.may_iff.1 hm).2.2.2.1; omega
  have hk0 : (st : Int) ≠ 0 := by omega
  have hkb : ((st : Int) == 0) = false := by simpa using hk0
  have hle4 : 4 ≤ s.least := (Sh.may_iff.1 hm).1
  have hM := ref_may s
  rw [hm] at hM
  simp only [Sh.val] at hM
  rw [hst] at hM
  have HM := Lib.hid hM
  have HSt := Lib.hid hst
  have HI := Lib.hid h
  obtain ⟨av, capv, bv, ov, rfl, -⟩ := h.open
  have HO : Hid (s.one bs = ((0, []), 0, s.bad)) := by show _ = _; rw [Sh.one, if_neg (by simp [hm]), if_pos h4]
  have e1 : decide ((bs.length : Int) < 4) = true := decide_eq_true (by omega)
  clear h hm h4 hst hM
  simp only [Sh.val]
  rw [HSt.out]
  go_enter Try.func75, Try.ntmps75
  go_wp2_with (first
    | (go_at_call 71; (with_reducible refine (HM.out _).mono ?_); rintro e w1 ⟨rfl, hb⟩; have H1 : Hid (TwoR w s w1) := (by have hh := (TwoR.start w s); rw [HSt.out] at hh; exact hh.step hb (by simp)); obtain ⟨c0, c1, c2, c3, c4, d0, d1, f0, f1⟩ := H1.out.cells; rw [HSt.out] at c1; have HI1 := Lib.hid (HI.out.below H1.out.below); clear hb)
    | go_region)
  obtain ⟨hh, hb⟩ := H1.out.set (.int .i64 0) (.slice none 0 0)
  refine bodyPost_ret (res_row_tmp_tmp rfl _ (World.drew _) (w.heap.size + 1) _ _ _ _ rfl hh Try.underlying85 rfl (by kernel_rfl)) rfl ?_
  exact GotOne.none HO.out (below_drewN hb 1)

theorem rone_unfit {s : Sh} {v : Value} {bs : List Int} {w : World} (hm : s.may = true) (h : Ints .u8 w v bs) (h4 : 4 ≤ bs.length) (hl : bs.length ≤ 1000000000) (hf : s.fits (told bs) = false) : Calls Try.prog 75 #[s.val, v] w (GotOne s bs w) := by
  obtain ⟨st, hst⟩ : ∃ st : Nat, s.step = st := ⟨s.step.toNat, by have := (Sh.may_iff.1 hm).2.2.1; omega⟩
  have hst1 : 1 ≤ st := by have := (Sh.may_iff.1 hm).2.2.1; omega
  have hst2 : st ≤ 64 := by have := (Sh.may_iff.1 hm).2.2.2.1; omega
  have hk0 : (st : Int) ≠ 0 := by omega
  have hkb : ((st : Int) == 0) = false := by simpa using hk0
  have hle4 : 4 ≤ s.least := (Sh.may_iff.1 hm).1
  have hM := ref_may s
  rw [hm] at hM
  simp only [Sh.val] at hM
  rw [hst] at hM
  have HM := Lib.hid hM
  have HSt := Lib.hid hst
  have HI := Lib.hid h
  obtain ⟨av, capv, bv, ov, rfl, -⟩ := h.open
  have hu := h.u8
  have hnl := told_lt hu
  have hne := told_eq hu
  have hfit : s.fits (told bs) = (decide (s.least.toNat ≤ told bs) && (s.pad || decide (told bs % st = 0))) := by
    unfold Sh.fits; rw [hst]; simp
  have hzd : s.zeros (told bs) = if s.pad then (st - told bs % st) % st else 0 := by unfold Sh.zeros; rw [hst]; simp
  obtain ⟨A, hsl, hA⟩ := slice_lohi (P := Try.prog) Try.underlying24 info_u8 h (2 : Int) (4 : Int) 2 (2 + 2) rfl rfl (by omega) (by omega)
  rw [take_drop_mid] at hA
  simp only [Nat.add_sub_cancel_left] at hsl hA
  have HA := Lib.hid hA
  have HTd := Lib.hid hne
  have HO : Hid (s.one bs = ((0, []), 0, s.bad)) := by show _ = _; rw [Sh.one, if_neg (by simp [hm]), if_neg (by omega), if_pos (.inl hf)]
  have e1 : decide ((bs.length : Int) < 4) = false := decide_eq_false (by omega)
  rw [hfit] at hf
  clear h hm hst hM hA hne hu hzd hfit
  generalize told bs = n at hnl hf HTd
  have hmod : ((n % st : Nat) : Int) = (n : Int) % (st : Int) := Int.natCast_emod _ _
  by_cases b1 : (n : Int) < s.least
  · have e2 : decide ((n : Int) < s.least) = true := decide_eq_true b1
    clear b1 hf hmod
    simp only [Sh.val]
    rw [HSt.out]
    go_enter Try.func75, Try.ntmps75
    go_wp2_with (first
      | (go_at_call 71; (with_reducible refine (HM.out _).mono ?_); rintro e w1 ⟨rfl, hb⟩; have H1 : Hid (TwoR w s w1) := (by have hh := (TwoR.start w s); rw [HSt.out] at hh; exact hh.step hb (by simp)); obtain ⟨c0, c1, c2, c3, c4, d0, d1, f0, f1⟩ := H1.out.cells; rw [HSt.out] at c1; have HI1 := Lib.hid (HI.out.below H1.out.below); clear hb; have hv1 := ref_value _ _ w1 (HA.out.below H1.out.below) (by rw [List.length_take]; omega); rw [HTd.out] at hv1; have HV1 := Lib.hid hv1; clear hv1)
      | (go_at_call 87; (with_reducible refine HV1.out.mono ?_); rintro e w2 ⟨rfl, rfl⟩; clear HV1)
      | go_region)
    obtain ⟨hh, hb⟩ := H1.out.set (.int .i64 0) (.slice none 0 0)
    refine bodyPost_ret (res_row_tmp_tmp rfl _ (World.drew _) (w.heap.size + 1) _ _ _ _ rfl hh Try.underlying85 rfl (by kernel_rfl)) rfl ?_
    exact GotOne.none HO.out (below_drewN hb 1)
  · have e2 : decide ((n : Int) < s.least) = false := decide_eq_false b1
    rw [decide_eq_true (show s.least.toNat ≤ n by omega), Bool.true_and] at hf
    have hpad : s.pad = false := by cases hp : s.pad with
      | false => rfl
      | true => rw [hp] at hf; simp at hf
    rw [hpad, Bool.false_or] at hf
    have hne : (n : Int) % (st : Int) ≠ 0 := by
      rw [← hmod]
      have : ¬ n % st = 0 := by simpa using hf
      omega
    have HPd := Lib.hid hpad
    clear b1 hf hmod hpad
    simp only [Sh.val]
    rw [HSt.out]
    go_enter Try.func75, Try.ntmps75
    rw [HPd.out]
    have HMp := HM.out
    rw [HPd.out] at HMp
    have HM := Lib.hid HMp
    clear HMp
    go_wp2_with (first
      | (go_at_call 71; (with_reducible refine (HM.out _).mono ?_); rintro e w1 ⟨rfl, hb⟩; have H1 : Hid (TwoR w s w1) := (by have hh := (TwoR.start w s); rw [HSt.out, HPd.out] at hh; exact hh.step hb (by simp)); obtain ⟨c0, c1, c2, c3, c4, d0, d1, f0, f1⟩ := H1.out.cells; rw [HSt.out] at c1; rw [HPd.out] at c2; have HI1 := Lib.hid (HI.out.below H1.out.below); clear hb; have hv1 := ref_value _ _ w1 (HA.out.below H1.out.below) (by rw [List.length_take]; omega); rw [HTd.out] at hv1; have HV1 := Lib.hid hv1; clear hv1)
      | (go_at_call 87; (with_reducible refine HV1.out.mono ?_); rintro e w2 ⟨rfl, rfl⟩; clear HV1)
      | go_region)
    obtain ⟨hh, hb⟩ := H1.out.set (.int .i64 0) (.slice none 0 0)
    refine bodyPost_ret (res_row_tmp_tmp rfl _ (World.drew _) (w.heap.size + 1) _ _ _ _ rfl hh Try.underlying85 rfl (by kernel_rfl)) rfl ?_
    exact GotOne.none HO.out (below_drewN hb 1)

end Go.Proofs.Ytcebcncpbedkmaa
namespace Go.Proofs.Ytcebcncpbedkmaa
open Go.RowKit
set_option maxRecDepth 100000
set_option maxHeartbeats 4000000

theorem rone_long {s : Sh} {v : Value} {bs : List Int} {w : World} (hm : s.may = true) (h : Ints .u8 w v bs) (h4 : 4 ≤ bs.length) (hl : bs.length ≤ 1000000000) (hf : s.fits (told bs) = true) (hz : bs.length < told bs + s.zeros (told bs)) : Calls Try.prog 75 #[s.val, v] w (GotOne s bs w) := by
  obtain ⟨st, hst⟩ : ∃ st : Nat, s.step = st := ⟨s.step.toNat, by have := (Sh.may_iff.1 hm).2.2.1; omega⟩
  have hst1 : 1 ≤ st := by have := (Sh.may_iff.1 hm).2.2.1; omega
  have hst2 : st ≤ 64 := by have := (Sh.may_iff.1 hm).2.2.2.1; omega
  have hk0 : (st : Int) ≠ 0 := by omega
  have hkb : ((st : Int) == 0) = false := by simpa using hk0
  have hle4 : 4 ≤ s.least := (Sh.may_iff.1 hm).1
  have hM := ref_may s
  rw [hm] at hM
  simp only [Sh.val] at hM
  rw [hst] at hM
  have HM := Lib.hid hM
  have HSt := Lib.hid hst
  have HI := Lib.hid h
  obtain ⟨av, capv, bv, ov, rfl, -⟩ := h.open
  have hu := h.u8
  have hnl := told_lt hu
  have hne := told_eq hu
  have hfit : s.fits (told bs) = (decide (s.least.toNat ≤ told bs) && (s.pad || decide (told bs % st = 0))) := by
    unfold Sh.fits; rw [hst]; simp
  have hzd : s.zeros (told bs) = if s.pad then (st - told bs % st) % st else 0 := by unfold Sh.zeros; rw [hst]; simp
  obtain ⟨A, hsl, hA⟩ := slice_lohi (P := Try.prog) Try.underlying24 info_u8 h (2 : Int) (4 : Int) 2 (2 + 2) rfl rfl (by omega) (by omega)
  rw [take_drop_mid] at hA
  simp only [Nat.add_sub_cancel_left] at hsl hA
  have HA := Lib.hid hA
  have HTd := Lib.hid hne
  have HO : Hid (s.one bs = ((0, []), 0, s.bad)) := by show _ = _; rw [Sh.one, if_neg (by simp [hm]), if_neg (by omega), if_pos (.inr hz)]
  have e1 : decide ((bs.length : Int) < 4) = false := decide_eq_false (by omega)
  have HZr : Hid (∀ w, Calls Try.prog 73 #[.int .i64 (told bs : Int), .int .i64 st] w fun e w' => e = .returned (.int .i64 ((st - told bs % st) % st : Nat)) ∧ w = w') := fun w => ref_zeros (told bs) st hst1 hst2 (by omega) w
  have hz64 : (st - told bs % st) % st < st := Nat.mod_lt _ (by omega)
  have hmod : ((told bs % st : Nat) : Int) = (told bs : Int) % (st : Int) := Int.natCast_emod _ _
  have hpm : s.pad = false → (told bs : Int) % (st : Int) = 0 := fun hp => by
    rw [← hmod]
    rw [hfit, hp] at hf
    simp only [Bool.and_eq_true, Bool.false_or, decide_eq_true_eq] at hf
    have := hf.2
    omega
  have hnle : s.least ≤ (told bs : Int) := by
    rw [hfit] at hf
    simp only [Bool.and_eq_true, decide_eq_true_eq] at hf
    omega
  rw [hzd] at hz
  clear h hm hst hM hA hne hu hzd hfit hmod hf
  generalize (st - told bs % st) % st = z at hz hz64 HZr
  generalize told bs = n at hnl HTd HZr hz hpm hnle
  have e2 : decide ((n : Int) < s.least) = false := decide_eq_false (by omega)
  cases hp : s.pad with
  | false =>
    have HPd := Lib.hid hp
    have e3 := hpm hp
    rw [hp] at hz
    have e4 : bs.length < n := by simpa using hz
    have e5 : decide ((bs.length : Int) < (n : Int)) = true := decide_eq_true (by omega)
    clear hpm hp hz
    simp only [Sh.val]
    rw [HSt.out]
    go_enter Try.func75, Try.ntmps75
    rw [HPd.out]
    have HMp := HM.out
    rw [HPd.out] at HMp
    have HM := Lib.hid HMp
    clear HMp
    go_wp2_with (first
      | (go_at_call 71; (with_reducible refine (HM.out _).mono ?_); rintro e w1 ⟨rfl, hb⟩; have H1 : Hid (TwoR w s w1) := (by have hh := (TwoR.start w s); rw [HSt.out, HPd.out] at hh; exact hh.step hb (by simp)); obtain ⟨c0, c1, c2, c3, c4, d0, d1, f0, f1⟩ := H1.out.cells; rw [HSt.out] at c1; rw [HPd.out] at c2; have HI1 := Lib.hid (HI.out.below H1.out.below); clear hb; have hv1 := ref_value _ _ w1 (HA.out.below H1.out.below) (by rw [List.length_take]; omega); rw [HTd.out] at hv1; have HV1 := Lib.hid hv1; clear hv1)
      | (go_at_call 87; (with_reducible refine HV1.out.mono ?_); rintro e w2 ⟨rfl, rfl⟩; clear HV1)
      | go_region)
    obtain ⟨hh, hb⟩ := H1.out.set (.int .i64 0) (.slice none 0 0)
    refine bodyPost_ret (res_row_tmp_tmp rfl _ (World.drew _) (w.heap.size + 1) _ _ _ _ rfl hh Try.underlying85 rfl (by kernel_rfl)) rfl ?_
    exact GotOne.none HO.out (below_drewN hb 1)
  | true =>
    have HPd := Lib.hid hp
    rw [hp] at hz
    have e4 : bs.length < n + z := by simpa using hz
    have e5 : decide ((bs.length : Int) < (n : Int) + (z : Int)) = true := decide_eq_true (by omega)
    clear hpm hp hz
    simp only [Sh.val]
    rw [HSt.out]
    go_enter Try.func75, Try.ntmps75
    rw [HPd.out]
    have HMp := HM.out
    rw [HPd.out] at HMp
    have HM := Lib.hid HMp
    clear HMp
    go_wp2_with (first
      | (go_at_call 71; (with_reducible refine (HM.out _).mono ?_); rintro e w1 ⟨rfl, hb⟩; have H1 : Hid (TwoR w s w1) := (by have hh := (TwoR.start w s); rw [HSt.out, HPd.out] at hh; exact hh.step hb (by simp)); obtain ⟨c0, c1, c2, c3, c4, d0, d1, f0, f1⟩ := H1.out.cells; rw [HSt.out] at c1; rw [HPd.out] at c2; have HI1 := Lib.hid (HI.out.below H1.out.below); clear hb; have hv1 := ref_value _ _ w1 (HA.out.below H1.out.below) (by rw [List.length_take]; omega); rw [HTd.out] at hv1; have HV1 := Lib.hid hv1; clear hv1)
      | (go_at_call 87; (with_reducible refine HV1.out.mono ?_); rintro e w2 ⟨rfl, rfl⟩; clear HV1)
      | (go_at_call 73; (with_reducible refine (HZr.out _).mono ?_); rintro e w3 ⟨rfl, rfl⟩)
      | go_region)
    obtain ⟨hh, hb⟩ := H1.out.set (.int .i64 0) (.slice none 0 0)
    refine bodyPost_ret (res_row_tmp_tmp rfl _ (World.drew _) (w.heap.size + 1) _ _ _ _ rfl hh Try.underlying85 rfl (by kernel_rfl)) rfl ?_
    exact GotOne.none HO.out (below_drewN hb 1)

end Go.Proofs.Ytcebcncpbedkmaa
