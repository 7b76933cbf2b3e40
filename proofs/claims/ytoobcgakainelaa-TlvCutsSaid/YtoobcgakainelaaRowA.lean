/- The walks of row.Right, Size, Count and of the document's: each answers what the plain Lean says. Conditions: the widths read as a list of ints. -/
import Derived.Test.YtoobcgakainelaaProg
import Derived.Test.YtoobcgakainelaaBase
import Derived.Test.YtoobcgakainelaaPlain01
namespace Go.Proofs.Ytoobcgakainelaa
open Go.RowKit

/-- An argument's cell, under its own name. -/
theorem name_cell {k : IntKind} {w : World} {p : Addr} {x : Int} (h : w.cell? p = some (.int k x)) : ∃ y, y = x ∧ w.cell? p = some (.int k y) := ⟨x, rfl, h⟩

theorem right_take {w : List Int} {k : Nat} (hk : k < w.length) (h : (w.take k).all okW = true) : (w.take (k + 1)).all okW = okW (w.getD k 0) := by
  rw [take_snoc hk, List.all_append, h]; simp

theorem right_false {zs : List Int} {k : Nat} (hk : k < zs.length) (h : okW (zs.getD k 0) = false) : RightS zs = false := by
  simp only [RightS]
  rw [Bool.and_eq_false_iff]; right
  rw [← Bool.not_eq_true]; intro hh
  have := all_get hh hk
  rw [h] at this
  exact absurd this (by simp)

theorem right_end {zs : List Int} (h64 : zs.length ≤ 64) (h : (zs.take zs.length).all okW = true) : RightS zs = true := by
  rw [List.take_length] at h
  simp only [RightS, h, Bool.and_true, decide_eq_true_eq]; exact h64

set_option maxHeartbeats 400000 in
theorem row_right (v : Value) (zs : List Int) (w : World) (h : Ints .i64 w v zs) :
    Calls Try.prog 82 #[v] w fun e w' => e = .returned (.bool (RightS zs)) ∧ w = w' := by
  have hle := h.le
  obtain ⟨a, cap, b, off, rfl, -, -, -, ha, hc⟩ := h.open
  have H1 := Lib.hid ha
  have H3 := Lib.hid hc
  clear ha hc h
  by_cases h64 : zs.length ≤ 64
  · go_enter Try.func82, Try.ntmps82
    go_wp2
    go_loop [2, 10] (fun r i => ∃ k : Nat, k ≤ zs.length ∧ i = .int .i64 k ∧ r = .bool false ∧ Hid ((zs.take k).all okW = true)) (fun _ i => zs.length - (intOf i).toNat)
    case atStart => exact ⟨0, by omega, rfl, rfl, by simp [Hid]⟩
    case round =>
      obtain ⟨k, hk, rfl, rfl, hall⟩ := hrel
      by_cases hlt : k < zs.length
      · obtain rfl := H1.out (by omega)
        obtain ⟨x, hx, hcell⟩ := name_cell (H3.out k hlt)
        have HX := Lib.hid hx
        clear hx
        rcases (show x = 0 ∨ (x ≠ 0 ∧ 8 < x) ∨ (x ≠ 0 ∧ ¬ 8 < x ∧ x < -64) ∨ (x ≠ 0 ∧ ¬ 8 < x ∧ ¬ x < -64) by omega) with rfl | ⟨g1, g2⟩ | ⟨g1, g2, g3⟩ | ⟨g1, g2, g3⟩
        · go_wp2
          go_ret
          exact ⟨by rw [right_false hlt (by rw [← HX.out]; rfl)]; rfl, rfl⟩
        · have e1 : (x == 0) = false := by simp; omega
          go_wp2
          go_ret
          exact ⟨by rw [right_false hlt (by rw [← HX.out]; simp [okW]; omega)]; rfl, rfl⟩
        · have e1 : (x == 0) = false := by simp; omega
          go_wp2
          go_ret
          exact ⟨by rw [right_false hlt (by rw [← HX.out]; simp [okW]; omega)]; rfl, rfl⟩
        · have e1 : (x == 0) = false := by simp; omega
          have HN : Hid ((zs.take (k + 1)).all okW = true) := (right_take hlt hall.out).trans (by rw [← HX.out]; exact okW_iff.2 ⟨g1, by omega, by omega⟩)
          go_wp2
          go_round
          case rel => exact ⟨k + 1, by omega, by go_num, rfl, HN⟩
          case measure => simp [intOf]; omega
      · obtain rfl : k = zs.length := by omega
        go_wp2
        go_ret
        exact ⟨by rw [right_end h64 hall.out]; rfl, rfl⟩
  · go_enter Try.func82, Try.ntmps82
    go_wp2
    go_ret
    exact ⟨by rw [show RightS zs = false by simp [RightS]; omega]; rfl, rfl⟩

set_option maxHeartbeats 400000 in
theorem ref_right (v : Value) (zs : List Int) (w : World) (h : Ints .i64 w v zs) :
    Calls Try.prog 75 #[v] w fun e w' => e = .returned (.bool (RightS zs)) ∧ w = w' := by
  have hle := h.le
  obtain ⟨a, cap, b, off, rfl, -, -, -, ha, hc⟩ := h.open
  have H1 := Lib.hid ha
  have H3 := Lib.hid hc
  clear ha hc h
  go_enter Try.func75, Try.ntmps75
  go_wp2
  go_loop [2, 3] (fun r i => ∃ k : Nat, k ≤ zs.length ∧ i = .int .i64 k ∧ r = .bool false ∧ Hid ((zs.take k).all okW = true)) (fun _ i => zs.length - (intOf i).toNat)
  case atStart => exact ⟨0, by omega, rfl, rfl, by simp [Hid]⟩
  case round =>
    obtain ⟨k, hk, rfl, rfl, hall⟩ := hrel
    by_cases hlt : k < zs.length
    · obtain rfl := H1.out (by omega)
      obtain ⟨x, hx, hcell⟩ := name_cell (H3.out k hlt)
      have HX := Lib.hid hx
      clear hx
      rcases (show x = 0 ∨ (x ≠ 0 ∧ 8 < x) ∨ (x ≠ 0 ∧ ¬ 8 < x ∧ x < -64) ∨ (x ≠ 0 ∧ ¬ 8 < x ∧ ¬ x < -64) by omega) with rfl | ⟨g1, g2⟩ | ⟨g1, g2, g3⟩ | ⟨g1, g2, g3⟩
      · go_wp2
        go_ret
        exact ⟨by rw [right_false hlt (by rw [← HX.out]; rfl)]; rfl, rfl⟩
      · have e1 : (x == 0) = false := by simp; omega
        go_wp2
        go_ret
        exact ⟨by rw [right_false hlt (by rw [← HX.out]; simp [okW]; omega)]; rfl, rfl⟩
      · have e1 : (x == 0) = false := by simp; omega
        go_wp2
        go_ret
        exact ⟨by rw [right_false hlt (by rw [← HX.out]; simp [okW]; omega)]; rfl, rfl⟩
      · have e1 : (x == 0) = false := by simp; omega
        have HN : Hid ((zs.take (k + 1)).all okW = true) := (right_take hlt hall.out).trans (by rw [← HX.out]; exact okW_iff.2 ⟨g1, by omega, by omega⟩)
        go_wp2
        go_round
        case rel => exact ⟨k + 1, by omega, by go_num, rfl, HN⟩
        case measure => simp [intOf]; omega
    · obtain rfl : k = zs.length := by omega
      have hr : RightS zs = decide ((zs.length : Int) ≤ 64) := by
        have h1 := hall.out
        rw [List.take_length] at h1
        simp only [RightS, h1, Bool.and_true]
        rw [decide_eq_decide]; omega
      have HR := Lib.hid hr
      clear hr
      go_wp2
      go_ret
      exact ⟨by rw [HR.out]; rfl, rfl⟩

theorem size_step {zs : List Int} {k : Nat} (hk : k < zs.length) : sizeL (zs.take (k + 1)) = sizeL (zs.take k) + (zs.getD k 0).natAbs := by
  rw [take_snoc hk, sizeL_snoc]
theorem cnt_step {zs : List Int} {k : Nat} (hk : k < zs.length) : cntL (zs.take (k + 1)) = cntL (zs.take k) + (if 0 < zs.getD k 0 then 1 else 0) := by
  rw [take_snoc hk, cntL_snoc]

set_option maxHeartbeats 400000 in
theorem row_size (v : Value) (zs : List Int) (w : World) (h : Ints .i64 w v zs) :
    Calls Try.prog 72 #[v] w fun e w' => e = .returned (.int .i64 (sizeS zs)) ∧ w = w' := by
  have hle := h.le
  have R := row_right v zs w h
  have HR := Lib.hid R
  obtain ⟨a, cap, b, off, rfl, -, -, -, ha, hc⟩ := h.open
  have H1 := Lib.hid ha
  have H3 := Lib.hid hc
  clear ha hc h R
  cases hr : RightS zs with
  | false =>
    rw [hr] at HR
    go_enter Try.func72, Try.ntmps72
    go_wp2_with (go_at_call 82; refine HR.out.mono ?_; rintro e w' ⟨rfl, rfl⟩)
    go_ret
    exact ⟨by simp [sizeS, hr], rfl⟩
  | true =>
    rw [hr] at HR
    have h64 := right_len hr
    have hal := Lib.hid (right_all hr)
    have HRR := Lib.hid hr
    clear hr
    go_enter Try.func72, Try.ntmps72
    go_wp2_with (go_at_call 82; refine HR.out.mono ?_; rintro e w' ⟨rfl, rfl⟩)
    go_loop [2, 10] (fun r i => ∃ k : Nat, k ≤ zs.length ∧ i = .int .i64 k ∧ r = .int .i64 (sizeL (zs.take k))) (fun _ i => zs.length - (intOf i).toNat)
    case atStart => exact ⟨0, by omega, rfl, rfl⟩
    case round =>
      obtain ⟨k, hk, rfl, rfl⟩ := hrel
      by_cases hlt : k < zs.length
      · obtain rfl := H1.out (by omega)
        have hok := okW_iff.1 (all_get hal.out hlt)
        have hsz := sizeL_le (all_take hal.out k)
        have HS := Lib.hid (size_step hlt)
        rw [List.length_take, Nat.min_eq_left (by omega)] at hsz
        obtain ⟨x, hx, hcell⟩ := name_cell (H3.out k hlt)
        rw [← hx] at hok HS
        clear hx
        generalize sizeL (zs.take k) = S at *
        go_wp2
        go_round
        case rel => exact ⟨k + 1, by omega, by go_num, congrArg (Value.int .i64) (by rw [HS.out]; split <;> omega)⟩
        case measure => simp [intOf]; omega
      · obtain rfl : k = zs.length := by omega
        go_wp2
        go_ret
        exact ⟨by rw [sizeS, HRR.out]; rfl, rfl⟩

set_option maxHeartbeats 400000 in
theorem row_count (v : Value) (zs : List Int) (w : World) (h : Ints .i64 w v zs) :
    Calls Try.prog 85 #[v] w fun e w' => e = .returned (.int .i64 (countS zs)) ∧ w = w' := by
  have hle := h.le
  have R := row_right v zs w h
  have HR := Lib.hid R
  obtain ⟨a, cap, b, off, rfl, -, -, -, ha, hc⟩ := h.open
  have H1 := Lib.hid ha
  have H3 := Lib.hid hc
  clear ha hc h R
  cases hr : RightS zs with
  | false =>
    rw [hr] at HR
    go_enter Try.func85, Try.ntmps85
    go_wp2_with (go_at_call 82; refine HR.out.mono ?_; rintro e w' ⟨rfl, rfl⟩)
    go_ret
    exact ⟨by simp [countS, hr], rfl⟩
  | true =>
    rw [hr] at HR
    have h64 := right_len hr
    have hal := Lib.hid (right_all hr)
    have HRR := Lib.hid hr
    clear hr
    go_enter Try.func85, Try.ntmps85
    go_wp2_with (go_at_call 82; refine HR.out.mono ?_; rintro e w' ⟨rfl, rfl⟩)
    go_loop [2, 10] (fun r i => ∃ k : Nat, k ≤ zs.length ∧ i = .int .i64 k ∧ r = .int .i64 (cntL (zs.take k))) (fun _ i => zs.length - (intOf i).toNat)
    case atStart => exact ⟨0, by omega, rfl, rfl⟩
    case round =>
      obtain ⟨k, hk, rfl, rfl⟩ := hrel
      by_cases hlt : k < zs.length
      · obtain rfl := H1.out (by omega)
        have hok := okW_iff.1 (all_get hal.out hlt)
        have hsz := cntL_le (zs.take k)
        have HS := Lib.hid (cnt_step hlt)
        rw [List.length_take, Nat.min_eq_left (by omega)] at hsz
        obtain ⟨x, hx, hcell⟩ := name_cell (H3.out k hlt)
        rw [← hx] at hok HS
        clear hx
        generalize cntL (zs.take k) = S at *
        by_cases hp : 0 < x
        all_goals
          go_wp2
          go_round
          case rel => exact ⟨k + 1, by omega, by go_num, congrArg (Value.int .i64) (by rw [HS.out]; split <;> omega)⟩
          case measure => simp [intOf]; omega
      · obtain rfl : k = zs.length := by omega
        go_wp2
        go_ret
        exact ⟨by rw [countS, HRR.out]; rfl, rfl⟩

set_option maxHeartbeats 400000 in
theorem ref_count (v : Value) (zs : List Int) (w : World) (h : Ints .i64 w v zs) :
    Calls Try.prog 80 #[v] w fun e w' => e = .returned (.int .i64 (countS zs)) ∧ w = w' := by
  have hle := h.le
  have R := ref_right v zs w h
  have HR := Lib.hid R
  obtain ⟨a, cap, b, off, rfl, -, -, -, ha, hc⟩ := h.open
  have H1 := Lib.hid ha
  have H3 := Lib.hid hc
  clear ha hc h R
  cases hr : RightS zs with
  | false =>
    rw [hr] at HR
    have hz : 0 < zs.length := by
      rcases Nat.eq_zero_or_pos zs.length with h0 | h0
      · have : zs = [] := List.eq_nil_of_length_eq_zero h0
        subst this; simp [RightS] at hr
      · exact h0
    have HRR := Lib.hid hr
    clear hr
    go_enter Try.func80, Try.ntmps80
    go_wp2
    go_loop [3, 4] (fun r i => r = .int .i64 0 ∧ i = .int .i64 0) (fun _ _ => 0)
    case atStart => exact ⟨rfl, rfl⟩
    case round =>
      obtain ⟨rfl, rfl⟩ := hrel
      have hz' : (0 : Int) < zs.length := by omega
      go_wp2_with (go_at_call 75; refine HR.out.mono ?_; rintro e w' ⟨rfl, rfl⟩)
      go_ret
      exact ⟨by rw [countS, HRR.out]; rfl, rfl⟩
  | true =>
    rw [hr] at HR
    have h64 := right_len hr
    have hal := Lib.hid (right_all hr)
    have HRR := Lib.hid hr
    clear hr
    go_enter Try.func80, Try.ntmps80
    go_wp2
    go_loop [3, 4] (fun r i => ∃ k : Nat, k ≤ zs.length ∧ i = .int .i64 k ∧ r = .int .i64 (cntL (zs.take k))) (fun _ i => zs.length - (intOf i).toNat)
    case atStart => exact ⟨0, by omega, rfl, rfl⟩
    case round =>
      obtain ⟨k, hk, rfl, rfl⟩ := hrel
      by_cases hlt : k < zs.length
      · obtain rfl := H1.out (by omega)
        have hok := okW_iff.1 (all_get hal.out hlt)
        have hsz := cntL_le (zs.take k)
        have HS := Lib.hid (cnt_step hlt)
        rw [List.length_take, Nat.min_eq_left (by omega)] at hsz
        obtain ⟨x, hx, hcell⟩ := name_cell (H3.out k hlt)
        rw [← hx] at hok HS
        clear hx
        generalize cntL (zs.take k) = S at *
        by_cases hp : 0 < x
        all_goals
          go_wp2_with (go_at_call 75; refine HR.out.mono ?_; rintro e w' ⟨rfl, rfl⟩)
          go_round
          case rel => exact ⟨k + 1, by omega, by go_num, congrArg (Value.int .i64) (by rw [HS.out]; split <;> omega)⟩
          case measure => simp [intOf]; omega
      · obtain rfl : k = zs.length := by omega
        go_wp2_with (go_at_call 75; refine HR.out.mono ?_; rintro e w' ⟨rfl, rfl⟩)
        go_ret
        exact ⟨by rw [countS, HRR.out]; rfl, rfl⟩

end Go.Proofs.Ytoobcgakainelaa
