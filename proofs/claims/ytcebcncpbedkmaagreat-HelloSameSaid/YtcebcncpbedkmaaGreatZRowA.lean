/- The walks of row.Right, Size, Count and of the document's: each answers what the plain Lean says. Conditions: the widths read as a list of ints. The walks of row.put, Put, number, zero, Get and of the document's Num, Fits, Put, Value, Get, Bytes, Nums: each answers what the plain Lean says. Conditions: the arguments read as lists of numbers. -/
import Derived.Test.YtcebcncpbedkmaaGreatProg
import Derived.Test.YtcebcncpbedkmaaGreatZBase
import Derived.Test.YtcebcncpbedkmaaGreatZPlain01
namespace Go.Proofs.YtcebcncpbedkmaaGreat
open Go.RowKit

/-- An argument's cell, under its own name. -/
theorem name_cell {k : IntKind} {w : World} {p : Addr} {x : Int} (h : w.cell? p = some (.int k x)) : ∃ y, y = x ∧ w.cell? p = some (.int k y) := ⟨x, rfl, h⟩

theorem right_take {w : List Int} {k : Nat} (hk : k < w.length) (h : (w.take k).all okW = true) : (w.take (k + 1)).all okW = okW (w.getD k 0) := by
  rw [take_snoc hk, List.all_append, h]; simp

theorem right_false {zs : List Int} {k : Nat} (hk : k < zs.length) (h : okW (zs.getD k 0) = false) : RightS zs = false := by
  simp only [RightS]
  rw [Bool.and_eq_false_iff]; right
  rw [← Bool.not_eq_true]; intro hh
  have := all_get hh hk
  rw [h] at this
  exact absurd this (by simp)

theorem right_end {zs : List Int} (h64 : zs.length ≤ 64) (h : (zs.take zs.length).all okW = true) : RightS zs = true := by
  rw [List.take_length] at h
  simp only [RightS, h, Bool.and_true, decide_eq_true_eq]; exact h64

set_option maxHeartbeats 400000 in
theorem row_right (v : Value) (zs : List Int) (w : World) (h : Ints .i64 w v zs) :
    Calls Tryz.prog 116 #[v] w fun e w' => e = .returned (.bool (RightS zs)) ∧ w = w' := by
  have hle := h.le
  obtain ⟨a, cap, b, off, rfl, -, -, -, ha, hc⟩ := h.open
  have H1 := Lib.hid ha
  have H3 := Lib.hid hc
  clear ha hc h
  by_cases h64 : zs.length ≤ 64
  · go_enter Tryz.func116, Tryz.ntmps116
    go_wp2
    go_loop [2, 10] (fun r i => ∃ k : Nat, k ≤ zs.length ∧ i = .int .i64 k ∧ r = .bool false ∧ Hid ((zs.take k).all okW = true)) (fun _ i => zs.length - (intOf i).toNat)
    case atStart => exact ⟨0, by omega, rfl, rfl, by simp [Hid]⟩
    case round =>
      obtain ⟨k, hk, rfl, rfl, hall⟩ := hrel
      by_cases hlt : k < zs.length
      · obtain rfl := H1.out (by omega)
        obtain ⟨x, hx, hcell⟩ := name_cell (H3.out k hlt)
        have HX := Lib.hid hx
        clear hx
        rcases (show x = 0 ∨ (x ≠ 0 ∧ 8 < x) ∨ (x ≠ 0 ∧ ¬ 8 < x ∧ x < -64) ∨ (x ≠ 0 ∧ ¬ 8 < x ∧ ¬ x < -64) by omega) with rfl | ⟨g1, g2⟩ | ⟨g1, g2, g3⟩ | ⟨g1, g2, g3⟩
        · go_wp2
          go_ret
          exact ⟨by rw [right_false hlt (by rw [← HX.out]; rfl)]; rfl, rfl⟩
        · have e1 : (x == 0) = false := by simp; omega
          go_wp2
          go_ret
          exact ⟨by rw [right_false hlt (by rw [← HX.out]; simp [okW]; omega)]; rfl, rfl⟩
        · have e1 : (x == 0) = false := by simp; omega
          go_wp2
          go_ret
          exact ⟨by rw [right_false hlt (by rw [← HX.out]; simp [okW]; omega)]; rfl, rfl⟩
        · have e1 : (x == 0) = false := by simp; omega
          have HN : Hid ((zs.take (k + 1)).all okW = true) := (right_take hlt hall.out).trans (by rw [← HX.out]; exact okW_iff.2 ⟨g1, by omega, by omega⟩)
          go_wp2
          go_round
          case rel => exact ⟨k + 1, by omega, by go_num, rfl, HN⟩
          case measure => simp [intOf]; omega
      · obtain rfl : k = zs.length := by omega
        go_wp2
        go_ret
        exact ⟨by rw [right_end h64 hall.out]; rfl, rfl⟩
  · go_enter Tryz.func116, Tryz.ntmps116
    go_wp2
    go_ret
    exact ⟨by rw [show RightS zs = false by simp [RightS]; omega]; rfl, rfl⟩

theorem size_step {zs : List Int} {k : Nat} (hk : k < zs.length) : sizeL (zs.take (k + 1)) = sizeL (zs.take k) + (zs.getD k 0).natAbs := by
  rw [take_snoc hk, sizeL_snoc]
theorem cnt_step {zs : List Int} {k : Nat} (hk : k < zs.length) : cntL (zs.take (k + 1)) = cntL (zs.take k) + (if 0 < zs.getD k 0 then 1 else 0) := by
  rw [take_snoc hk, cntL_snoc]

set_option maxHeartbeats 400000 in
theorem row_size (v : Value) (zs : List Int) (w : World) (h : Ints .i64 w v zs) :
    Calls Tryz.prog 118 #[v] w fun e w' => e = .returned (.int .i64 (sizeS zs)) ∧ w = w' := by
  have hle := h.le
  have R := row_right v zs w h
  have HR := Lib.hid R
  obtain ⟨a, cap, b, off, rfl, -, -, -, ha, hc⟩ := h.open
  have H1 := Lib.hid ha
  have H3 := Lib.hid hc
  clear ha hc h R
  cases hr : RightS zs with
  | false =>
    rw [hr] at HR
    go_enter Tryz.func118, Tryz.ntmps118
    go_wp2_with (go_at_call 116; refine HR.out.mono ?_; rintro e w' ⟨rfl, rfl⟩)
    go_ret
    exact ⟨by simp [sizeS, hr], rfl⟩
  | true =>
    rw [hr] at HR
    have h64 := right_len hr
    have hal := Lib.hid (right_all hr)
    have HRR := Lib.hid hr
    clear hr
    go_enter Tryz.func118, Tryz.ntmps118
    go_wp2_with (go_at_call 116; refine HR.out.mono ?_; rintro e w' ⟨rfl, rfl⟩)
    go_loop [2, 10] (fun r i => ∃ k : Nat, k ≤ zs.length ∧ i = .int .i64 k ∧ r = .int .i64 (sizeL (zs.take k))) (fun _ i => zs.length - (intOf i).toNat)
    case atStart => exact ⟨0, by omega, rfl, rfl⟩
    case round =>
      obtain ⟨k, hk, rfl, rfl⟩ := hrel
      by_cases hlt : k < zs.length
      · obtain rfl := H1.out (by omega)
        have hok := okW_iff.1 (all_get hal.out hlt)
        have hsz := sizeL_le (all_take hal.out k)
        have HS := Lib.hid (size_step hlt)
        rw [List.length_take, Nat.min_eq_left (by omega)] at hsz
        obtain ⟨x, hx, hcell⟩ := name_cell (H3.out k hlt)
        rw [← hx] at hok HS
        clear hx
        generalize sizeL (zs.take k) = S at *
        go_wp2
        go_round
        case rel => exact ⟨k + 1, by omega, by go_num, congrArg (Value.int .i64) (by rw [HS.out]; split <;> omega)⟩
        case measure => simp [intOf]; omega
      · obtain rfl : k = zs.length := by omega
        go_wp2
        go_ret
        exact ⟨by rw [sizeS, HRR.out]; rfl, rfl⟩

set_option maxHeartbeats 400000 in
theorem row_count (v : Value) (zs : List Int) (w : World) (h : Ints .i64 w v zs) :
    Calls Tryz.prog 117 #[v] w fun e w' => e = .returned (.int .i64 (countS zs)) ∧ w = w' := by
  have hle := h.le
  have R := row_right v zs w h
  have HR := Lib.hid R
  obtain ⟨a, cap, b, off, rfl, -, -, -, ha, hc⟩ := h.open
  have H1 := Lib.hid ha
  have H3 := Lib.hid hc
  clear ha hc h R
  cases hr : RightS zs with
  | false =>
    rw [hr] at HR
    go_enter Tryz.func117, Tryz.ntmps117
    go_wp2_with (go_at_call 116; refine HR.out.mono ?_; rintro e w' ⟨rfl, rfl⟩)
    go_ret
    exact ⟨by simp [countS, hr], rfl⟩
  | true =>
    rw [hr] at HR
    have h64 := right_len hr
    have hal := Lib.hid (right_all hr)
    have HRR := Lib.hid hr
    clear hr
    go_enter Tryz.func117, Tryz.ntmps117
    go_wp2_with (go_at_call 116; refine HR.out.mono ?_; rintro e w' ⟨rfl, rfl⟩)
    go_loop [2, 10] (fun r i => ∃ k : Nat, k ≤ zs.length ∧ i = .int .i64 k ∧ r = .int .i64 (cntL (zs.take k))) (fun _ i => zs.length - (intOf i).toNat)
    case atStart => exact ⟨0, by omega, rfl, rfl⟩
    case round =>
      obtain ⟨k, hk, rfl, rfl⟩ := hrel
      by_cases hlt : k < zs.length
      · obtain rfl := H1.out (by omega)
        have hok := okW_iff.1 (all_get hal.out hlt)
        have hsz := cntL_le (zs.take k)
        have HS := Lib.hid (cnt_step hlt)
        rw [List.length_take, Nat.min_eq_left (by omega)] at hsz
        obtain ⟨x, hx, hcell⟩ := name_cell (H3.out k hlt)
        rw [← hx] at hok HS
        clear hx
        generalize cntL (zs.take k) = S at *
        by_cases hp : 0 < x
        all_goals
          go_wp2
          go_round
          case rel => exact ⟨k + 1, by omega, by go_num, congrArg (Value.int .i64) (by rw [HS.out]; split <;> omega)⟩
          case measure => simp [intOf]; omega
      · obtain rfl : k = zs.length := by omega
        go_wp2
        go_ret
        exact ⟨by rw [countS, HRR.out]; rfl, rfl⟩

end Go.Proofs.YtcebcncpbedkmaaGreat
namespace Go.Proofs.YtcebcncpbedkmaaGreat
open Go.RowKit

theorem info_u8 : (Tryz.prog.info? 5).map (fun i => (i.zero, i.size, i.bytes)) = some (some (.int .u8 0), 1, 1) := by kernel_rfl
theorem info_u64 : (Tryz.prog.info? 68).map (fun i => (i.zero, i.size, i.bytes)) = some (some (.int .u64 0), 1, 8) := by kernel_rfl

def shr8 (n : Int) (j : Nat) : Int := n / 256 ^ j
theorem pow8 (j : Nat) : (2 : Int) ^ (8 * j) = 256 ^ j := by rw [Int.pow_mul]; rfl
theorem run_shr8 {P : Program} (n : Int) (W k : Nat) (hk : k < W) (h0 : 0 ≤ n) (hn : n < 18446744073709551616) (wx : World) :
    Sem.run P (Op.shift .shr .u64 n .i64 (8 * ((W : Int) - 1 - k))) wx = .ok (.int .u64 (shr8 n (W - 1 - k))) wx := by
  rw [shift_shr_any _ _ _ _ (by omega)]
  have e : (8 * ((W : Int) - 1 - k)).toNat = 8 * (W - 1 - k) := by omega
  rw [e]
  unfold shr8
  rw [← pow8]
  simp only [IntKind.bits]
  show Result.ok _ _ = _
  congr 2
  rcases Nat.le_total (8 * (W - 1 - k)) 64 with h | h
  · rw [Nat.min_eq_left h]
  · rw [Nat.min_eq_right h]
    have h1 : n / 2 ^ 64 = 0 := Int.ediv_eq_zero_of_lt h0 (by omega)
    have h2 : n / 2 ^ (8 * (W - 1 - k)) = 0 := Int.ediv_eq_zero_of_lt h0 (by
      have h3 : (2 : Nat) ^ 64 ≤ 2 ^ (8 * (W - 1 - k)) := Nat.pow_le_pow_right (by omega) h
      have : ((2 ^ 64 : Nat) : Int) ≤ ((2 ^ (8 * (W - 1 - k)) : Nat) : Int) := Int.ofNat_le.2 h3
      rw [Int.natCast_pow, Int.natCast_pow] at this
      have e64 : ((2 : Nat) : Int) ^ 64 = 18446744073709551616 := by decide
      rw [e64] at this
      have e2 : ((2 : Nat) : Int) = 2 := rfl
      rw [e2] at this
      omega)
    rw [h1, h2]

theorem be_step {xs : List Int} {W k : Nat} {n : Int} (hk : k < W) : (xs ++ (be W n).take k).map (Value.int .u8) ++ [.int .u8 (shr8 n (W - 1 - k) % 256)] = (xs ++ (be W n).take (k + 1)).map (Value.int .u8) := by
  have hk' : k < (be W n).length := by rw [be_length]; exact hk
  rw [take_snoc hk', be_getD W n k hk]
  simp [shr8]

set_option maxRecDepth 100000 in
set_option maxHeartbeats 400000 in
theorem row_put1 (B : Nat) (v : Value) (xs : List Int) (n : Int) (W : Nat) (w : World) (hB : B ≤ w.heap.size) (hn0 : 0 ≤ n) (hn : Hid (n < 18446744073709551616)) (hW : W ≤ 64) (hxs : xs.length ≤ 1000000)
    (hown : w.ownsRow B 5 1 v xs.length (xs.map (Value.int .u8))) :
    Calls Tryz.prog 119 #[v, .int .u64 n, .int .i64 W] w fun e w' => ∃ v', e = .returned v' ∧ w'.ownsRow B 5 1 v' (xs.length + W) ((xs ++ be W n).map (Value.int .u8)) ∧ Below B w w' := by
  have HO := Lib.hid hown
  clear hown
  go_enter Tryz.func119, Tryz.ntmps119
  go_wp2
  go_loopw [0, 9] (fun r i wr => ∃ k : Nat, k ≤ W ∧ i = .int .i64 k ∧ Hid (wr.ownsRow B 5 1 r (xs.length + k) ((xs ++ (be W n).take k).map (Value.int .u8))) ∧ Hid (Below B w wr)) (fun _ i _ => W - (intOf i).toNat)
  case atStart => exact ⟨0, by omega, rfl, by simpa [Hid] using HO.out, Below.refl _ _⟩
  case round =>
    obtain ⟨k, hk, rfl, HR, HB⟩ := hrel
    by_cases hlt : k < W
    · have hs := run_shr8 (P := Tryz.prog) n W k hlt hn0 hn.out
      go_wp2_with (at_builtin; refine wpList_append_new rfl _ _ _ rfl B 5 (.int .u8 0) 1 1 Tryz.underlying24 info_u8 rfl (by decide) u0 (xs.length + k) _ rfl HR.out [.int .u8 (shr8 n (W - 1 - k) % 256)] rfl rfl (by simp [Value.oneCell']) (by unfold maxLen; omega) (by omega) (Nat.le_trans hB HB.out.size) ?_; intro v' w1 hown1 hgrow1; rw [be_step hlt] at hown1; have HO1 := Lib.hid hown1; have HG1 := Lib.hid hgrow1; clear hown1 hgrow1)
      go_roundw
      case rel => exact ⟨k + 1, by omega, by go_num, HO1, own_grown HB.out (Nat.le_trans hB HB.out.size) HR.out HG1.out rfl⟩
      case measure => simp [intOf]; omega
    · obtain rfl : k = W := by omega
      go_wp2
      go_ret
      refine ⟨_, rfl, ?_, HB.out⟩
      have := HR.out
      rw [List.take_of_length_le (by rw [be_length]; omega)] at this
      exact this

theorem shr8_ne {x : Int} {j : Nat} (hx : 0 ≤ x) : (shr8 x j != 0) = !decide (x < 256 ^ j) := by
  have hp := pow256_pos j
  have e : (shr8 x j = 0) ↔ x < 256 ^ j := by
    unfold shr8
    constructor
    · intro h
      exact Int.lt_of_not_ge fun hge => by
        have := Int.ediv_le_ediv hp hge
        rw [Int.ediv_self (by omega)] at this
        omega
    · intro h; exact Int.ediv_eq_zero_of_lt hx h
  by_cases h : x < 256 ^ j
  · simp [h, e.2 h]
  · have : ¬ shr8 x j = 0 := fun h' => h (e.1 h')
    simp [h, this]

theorem shrn_ne {x n : Int} (hx : 0 ≤ x) (hn : 0 ≤ n) : (x / 2 ^ (8 * n).toNat != 0) = !decide (x < 256 ^ n.toNat) := by
  have e : (8 * n).toNat = 8 * n.toNat := by omega
  rw [e, pow8]
  exact shr8_ne hx

/-- How far a row has been put. -/
def Putting (ws xs : List Int) (k : Nat) (acc rest : List Int) : Prop :=
  cntL (ws.drop k) = rest.length ∧ putL ws xs = (putL (ws.drop k) rest).map (acc ++ ·) ∧ acc.length = sizeL (ws.take k) ∧ U64 rest ∧ U8 acc
theorem Putting.start {ws xs : List Int} (h : cntL ws = xs.length) (hx : U64 xs) : Putting ws xs 0 [] xs := by
  refine ⟨by simpa using h, ?_, rfl, hx, fun z hz => by simp at hz⟩
  simp
theorem be_u8 (k : Nat) (n : Int) : U8 (be k n) := be_byte k n
theorem U8.append {a b : List Int} (ha : U8 a) (hb : U8 b) : U8 (a ++ b) := fun z hz => (List.mem_append.1 hz).elim (ha z) (hb z)
theorem Putting.neg {ws xs acc rest : List Int} {k : Nat} (h : Putting ws xs k acc rest) (hk : k < ws.length) (hn : ws.getD k 0 < 0) :
    Putting ws xs (k + 1) (acc ++ be (ws.getD k 0).natAbs 0) rest := by
  obtain ⟨h1, h2, h3, h4, h5⟩ := h
  rw [drop_cons hk] at h1 h2
  simp only [cntL, if_neg (show ¬ (0 < ws.getD k 0) by omega), Nat.zero_add] at h1
  refine ⟨h1, ?_, by rw [List.length_append, be_length, h3, size_step hk], h4, h5.append (be_u8 _ _)⟩
  rw [h2, be_zero]
  simp only [putL, if_pos hn, Option.map_map]
  congr 1
  funext l
  simp
theorem Putting.some {ws xs acc rest : List Int} {k : Nat} (h : Putting ws xs k acc rest) (hk : k < ws.length) (hn : 0 < ws.getD k 0) : 0 < rest.length := by
  obtain ⟨h1, -⟩ := h
  rw [drop_cons hk] at h1
  simp only [cntL, if_pos hn] at h1
  omega
theorem Putting.pos {ws xs acc rest : List Int} {k : Nat} (h : Putting ws xs k acc rest) (hk : k < ws.length) (hn : 0 < ws.getD k 0) (hf : fitsW (rest.getD 0 0) (ws.getD k 0) = true) :
    Putting ws xs (k + 1) (acc ++ be (ws.getD k 0).natAbs (rest.getD 0 0)) (rest.drop 1) := by
  have h0 := h.some hk hn
  obtain ⟨h1, h2, h3, h4, h5⟩ := h
  cases rest with
  | nil => simp at h0
  | cons x rest =>
    simp only [List.getD_cons_zero] at hf
    rw [drop_cons hk] at h1 h2
    simp only [cntL, if_pos hn, List.length_cons] at h1
    refine ⟨by simp only [List.drop_succ_cons, List.drop_zero]; omega, ?_, by rw [List.length_append, be_length, h3, size_step hk], fun z hz => h4 z (List.mem_cons_of_mem _ hz), h5.append (be_u8 _ _)⟩
    rw [h2]
    simp only [putL, if_neg (show ¬ ws.getD k 0 < 0 by omega), hf, if_true, Option.map_map, List.drop_succ_cons, List.drop_zero, List.getD_cons_zero]
    congr 1
    funext l
    simp
theorem Putting.bad {ws xs acc rest : List Int} {k : Nat} (h : Putting ws xs k acc rest) (hk : k < ws.length) (hn : 0 < ws.getD k 0) (hf : fitsW (rest.getD 0 0) (ws.getD k 0) = false) : putL ws xs = none := by
  have h0 := h.some hk hn
  obtain ⟨h1, h2, h3, h4, h5⟩ := h
  cases rest with
  | nil => simp at h0
  | cons x rest =>
    simp only [List.getD_cons_zero] at hf
    rw [h2, drop_cons hk]
    simp only [putL, if_neg (show ¬ ws.getD k 0 < 0 by omega), hf]
    rfl
theorem Putting.done {ws xs acc rest : List Int} (h : Putting ws xs ws.length acc rest) : putL ws xs = .some acc := by
  rw [h.2.1, List.drop_length]; simp [putL]

theorem Ints.u64 {w : World} {v : Value} {xs : List Int} (h : Ints .u64 w v xs) : U64 xs := fun x hx => by
  have := h.2 x hx
  simp [Lit.wf, IntKind.min, IntKind.max, IntKind.signed, IntKind.bits] at this
  omega

set_option maxRecDepth 100000 in
set_option maxHeartbeats 400000 in
theorem row_put (v1 v2 : Value) (ws xs : List Int) (w : World) (h1 : Ints .i64 w v1 ws) (h2 : Ints .u64 w v2 xs) :
    Calls Tryz.prog 108 #[v1, v2] w fun e w' => ∃ v', e = .returned (.tuple #[v', .bool (putS ws xs).isSome]) ∧ w'.ownsRow w.heap.size 5 1 v' ((putS ws xs).getD []).length (((putS ws xs).getD []).map (Value.int .u8)) ∧ Below w.heap.size w w' := by
  have R1 := Lib.hid (row_right v1 ws w h1)
  have R2 := Lib.hid (row_count v1 ws w h1)
  have R3 := Lib.hid (row_size v1 ws w h1)
  obtain ⟨a, cap, b, off, rfl, -, -, -, ha, hc⟩ := h1.open
  obtain ⟨a2, cap2, b2, off2, rfl, hl2, hm2, hn2, ha2, hc2⟩ := h2.open
  have H1 := Lib.hid ha
  have H3 := Lib.hid hc
  have H2 := Lib.hid h2
  clear ha hc h1 h2 ha2 hc2
  cases hr : RightS ws with
  | false =>
    rw [hr] at R1
    have hp : putS ws xs = none := by simp [putS, hr]
    rw [hp]; clear hp hr
    go_enter Tryz.func108, Tryz.ntmps108
    go_wp2_with (first | (go_at_call 116; refine R1.out.mono ?_; rintro e w' ⟨rfl, rfl⟩))
    go_ret2
    exact ⟨_, rfl, World.ownsRow_nil _ _ _ _, Below.refl _ _⟩
  | true =>
    rw [hr] at R1
    have hcs : countS ws = cntL ws := by simp [countS, hr]
    have hss : sizeS ws = sizeL ws := by simp [sizeS, hr]
    have hsz := sizeL_le (right_all hr)
    have hwl := right_len hr
    have hal := Lib.hid (right_all hr)
    rw [hcs] at R2
    rw [hss] at R3
    by_cases hcl : cntL ws = xs.length
    · have e1 : ((cntL ws : Int) != (xs.length : Int)) = false := by simp; omega
      rw [hcl] at R2 e1
      have hcl := Lib.hid hcl
      have HRW := Lib.hid hr
      clear hcs hss hr
      go_enter Tryz.func108, Tryz.ntmps108
      go_wp2_with (first | (go_at_call 116; refine R1.out.mono ?_; rintro e w' ⟨rfl, rfl⟩) | (go_at_call 117; refine R2.out.mono ?_; rintro e w' ⟨rfl, rfl⟩) | (go_at_call 118; refine R3.out.mono ?_; rintro e w' ⟨rfl, rfl⟩) | (at_make; refine wpList_make0 rfl _ _ _ rfl w.heap.size 5 (.int .u8 0) 1 1 Tryz.underlying24 info_u8 .i64 .i64 _ (sizeL ws) rfl rfl rfl (by omega) (by unfold maxLen; omega) (Nat.le_refl _) ?_; intro vb w1 hown1 hb1; have HO := Lib.hid hown1; have HB := Lib.hid hb1; clear hown1 hb1))
      go_loopw [1, 5, 6, 25] (fun nv okv bv i wr => ∃ (k : Nat) (acc rest : List Int), k ≤ ws.length ∧ i = .int .i64 k ∧ okv = .bool false ∧ Hid (Ints .u64 w nv rest) ∧ Hid (wr.ownsRow w.heap.size 5 1 bv acc.length (acc.map (Value.int .u8))) ∧ Hid (Below w.heap.size w wr) ∧ Hid (Putting ws xs k acc rest)) (fun _ _ _ i _ => ws.length - (intOf i).toNat)
      case atStart => exact ⟨0, [], xs, by omega, rfl, rfl, H2.out, HO.out, HB.out, Putting.start hcl.out H2.out.u64⟩
      case round =>
        obtain ⟨k, acc, rest, hk, rfl, rfl, HN, HA, HBB, HP⟩ := hrel
        by_cases hlt : k < ws.length
        · obtain rfl := H1.out (by omega)
          have hok := okW_iff.1 (all_get hal.out hlt)
          have hcell0 := (HBB.out.cell (p := ⟨b, off + k, none⟩) (by exact World.block_lt_of_cell? _ _ (H3.out k hlt))).trans (H3.out k hlt)
          obtain ⟨n, hx, hcell⟩ := name_cell hcell0
          clear hcell0
          have hacc : acc.length ≤ 4096 := by
            have h3 := HP.out.2.2.1
            have := sizeL_le (all_take hal.out k)
            have : (ws.take k).length ≤ 64 := by rw [List.length_take]; omega
            omega
          rcases (show n < 0 ∨ 0 < n by rw [← hx] at hok; omega) with hneg | hpos
          · obtain ⟨m, hm⟩ : ∃ m : Nat, (m : Int) = -n := ⟨n.natAbs, by omega⟩
            have hm64 : m ≤ 64 := by rw [← hx] at hok; omega
            have C := row_put1 w.heap.size u6 acc 0 m wr HBB.out.size (Int.le_refl _) (by show (0 : Int) < 18446744073709551616; omega) hm64 (by omega) HA.out
            rw [hm] at C
            have HC := Lib.hid C
            have HP1 : Hid (Putting ws xs (k + 1) (acc ++ be m 0) rest) := by
              have := HP.out.neg hlt (by rw [← hx]; exact hneg)
              rw [← hx] at this
              have e : n.natAbs = m := by omega
              rwa [e] at this
            have HM := Lib.hid hm
            have hlo : -64 ≤ n := by rw [← hx] at hok; omega
            have HX := Lib.hid hx
            clear C hm hx hok
            go_wp2_with (go_at_call 119; (with_reducible refine HC.out.mono ?_); rintro e w2 ⟨v', rfl, hown2, hb2⟩; have HO2 := Lib.hid hown2; have HB2 := Lib.hid hb2; clear hown2 hb2)
            go_roundw
            case rel => exact ⟨k + 1, acc ++ be m 0, rest, by omega, by go_num, rfl, HN.out, by rw [List.length_append, be_length]; exact HO2.out, HBB.out.trans HB2.out, HP1⟩
            case measure => simp [intOf]; omega
          · obtain ⟨a3, cap3, b3, off3, rfl, -, -, -, ha3, hc3⟩ := (HN.out.below HBB.out).open
            have h0 := HP.out.some hlt (by rw [← hx]; exact hpos)
            obtain rfl := ha3 h0
            obtain ⟨x, hxx, hcx⟩ := name_cell (hc3 0 h0)
            have hu := HP.out.2.2.2.1 _ (getD_mem h0)
            rw [← hxx] at hu
            have hn8 : n ≤ 8 := by rw [← hx] at hok; omega
            have hx0 := hu.1
            have HU := Lib.hid hu.2
            have hlen0 : (0 : Int) < rest.length := by omega
            have hlen1 : (1 : Int) ≤ rest.length := by omega
            have HX := Lib.hid hx
            have HXX := Lib.hid hxx
            clear ha3 hc3 hu hx hxx hok
            simp only [Nat.add_zero] at hcx
            cases hf : fitsW x n with
            | false =>
              have HB0 : Hid (putL ws xs = none) := HP.out.bad hlt (by rw [← HX.out]; exact hpos) (by rw [← HX.out, ← HXX.out]; exact hf)
              have hlt8 : n < 8 := by
                rcases Int.lt_or_le n 8 with h | h
                · exact h
                · simp [fitsW, h] at hf
              have hne : (x / 2 ^ (8 * n).toNat != 0) = true := by
                rw [shrn_ne hx0 (by omega)]
                simp only [fitsW, Bool.or_eq_false_iff] at hf
                rw [hf.2]; rfl
              clear hf
              go_wp2_with fail
              go_ret2
              have hps : putS ws xs = none := by rw [putS, HB0.out]; split <;> rfl
              rw [hps]
              exact ⟨_, rfl, World.ownsRow_nil _ _ _ _, HBB.out⟩
            | true =>
              have HP1 : Hid (Putting ws xs (k + 1) (acc ++ be n.natAbs x) (rest.drop 1)) := by
                have := HP.out.pos hlt (by rw [← HX.out]; exact hpos) (by rw [← HX.out, ← HXX.out]; exact hf)
                rw [← HX.out, ← HXX.out] at this
                exact this
              have C := row_put1 w.heap.size u6 acc x n.natAbs wr.drew HBB.out.size hx0 HU.out (by omega) (by omega) HA.out.drew
              rw [show (n.natAbs : Int) = n by omega] at C
              have HC := Lib.hid C
              clear C
              by_cases hlt8 : n < 8
              · have hne : (x / 2 ^ (8 * n).toNat != 0) = false := by
                  rw [shrn_ne hx0 (by omega)]
                  simp only [fitsW, Bool.or_eq_true, decide_eq_true_eq] at hf
                  rcases hf with hf | hf
                  · omega
                  · simp [hf]
                clear hf
                obtain ⟨A, hsl, hA⟩ := slice_from (P := Tryz.prog) Tryz.underlying23 info_u64 HN.out 1 1 rfl h0
                have HSA := Lib.hid hA
                clear hA
                go_wp2_with fail
                go_region_with (go_at_call 119; (with_reducible refine HC.out.mono ?_); rintro e w2 ⟨v', rfl, hown2, hb2⟩; have HO2 := Lib.hid hown2; have HB2 := Lib.hid hb2; clear hown2 hb2)
                all_goals (try go_wp2_with fail)
                all_goals
                  go_roundw
                  case rel => exact ⟨k + 1, acc ++ be n.natAbs x, rest.drop 1, by omega, by go_num, rfl, HSA.out, by rw [List.length_append, be_length]; exact HO2.out, HBB.out.trans (Below.trans ((Below.refl _ _).drew) HB2.out), HP1⟩
                  case measure => simp [intOf]; omega
              · clear hf
                obtain ⟨A, hsl, hA⟩ := slice_from (P := Tryz.prog) Tryz.underlying23 info_u64 HN.out 1 1 rfl h0
                have HSA := Lib.hid hA
                clear hA
                go_wp2_with fail
                go_region_with (go_at_call 119; (with_reducible refine HC.out.mono ?_); rintro e w2 ⟨v', rfl, hown2, hb2⟩; have HO2 := Lib.hid hown2; have HB2 := Lib.hid hb2; clear hown2 hb2)
                all_goals (try go_wp2_with fail)
                all_goals
                  go_roundw
                  case rel => exact ⟨k + 1, acc ++ be n.natAbs x, rest.drop 1, by omega, by go_num, rfl, HSA.out, by rw [List.length_append, be_length]; exact HO2.out, HBB.out.trans (Below.trans ((Below.refl _ _).drew) HB2.out), HP1⟩
                  case measure => simp [intOf]; omega
        · obtain rfl : k = ws.length := by omega
          go_wp2_with fail
          go_ret2
          have hps : putS ws xs = some acc := by
            have h3 := hcl.out
            rw [putS, HP.out.done, HRW.out, h3]
            simp
          rw [hps]
          exact ⟨_, rfl, HA.out, HBB.out⟩
    · have hne : ((cntL ws : Int) != (xs.length : Int)) = true := by simp; omega
      have hps : putS ws xs = none := by simp [putS, hcl]
      rw [hps]
      clear hcl hps hr hcs hss
      go_enter Tryz.func108, Tryz.ntmps108
      go_wp2_with (first | (go_at_call 116; refine R1.out.mono ?_; rintro e w' ⟨rfl, rfl⟩) | (go_at_call 117; refine R2.out.mono ?_; rintro e w' ⟨rfl, rfl⟩))
      go_ret2
      exact ⟨_, rfl, World.ownsRow_nil _ _ _ _, Below.refl _ _⟩
end Go.Proofs.YtcebcncpbedkmaaGreat
