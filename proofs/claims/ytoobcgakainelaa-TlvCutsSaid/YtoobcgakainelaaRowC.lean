/- The walks of the document's Bytes, Nums, Value, Fits, Num and of row.number, row.zero: each answers what the plain Lean says. Conditions: the arguments read as lists of numbers; of a value at most eight bytes. -/
import Derived.Test.YtoobcgakainelaaRowB
namespace Go.Proofs.Ytoobcgakainelaa
open Go.RowKit

theorem take_step {xs ys : List Int} {k : Nat} (h1 : k < xs.length) (h2 : k < ys.length) (h : xs.take k = ys.take k) (he : xs.getD k 0 = ys.getD k 0) : xs.take (k + 1) = ys.take (k + 1) := by
  rw [take_snoc h1, take_snoc h2, h, he]
theorem eq_of_take {xs ys : List Int} (hl : xs.length = ys.length) (h : xs.take xs.length = ys.take xs.length) : xs = ys := by
  rwa [List.take_length, hl, List.take_length] at h

set_option maxHeartbeats 400000 in
theorem ref_bytes (v1 v2 : Value) (xs ys : List Int) (w : World) (h1 : Ints .u8 w v1 xs) (h2 : Ints .u8 w v2 ys) :
    Calls Try.prog 15 #[v1, v2] w fun e w' => e = .returned (.bool (decide (xs = ys))) ∧ Below w.heap.size w w' := by
  have hle := h1.le
  obtain ⟨a, cap, b, off, rfl, -, -, -, ha, hc⟩ := h1.open
  obtain ⟨a2, cap2, b2, off2, rfl, -, -, -, ha2, hc2⟩ := h2.open
  have H1 := Lib.hid ha
  have H3 := Lib.hid hc
  have H2 := Lib.hid ha2
  have H4 := Lib.hid hc2
  clear ha hc h1 h2 ha2 hc2
  by_cases hl : xs.length = ys.length
  · have e1 : ((xs.length : Int) != (xs.length : Int)) = false := by simp
    rw [← hl]
    have HL := Lib.hid hl
    clear hl
    go_enter Try.func15, Try.ntmps15
    go_wp2
    go_loopw [4, 5] (fun r i wr => ∃ k q : Nat, k ≤ xs.length ∧ i = .int .i64 k ∧ r = .bool false ∧ wr = w.drewN q ∧ Hid (xs.take k = ys.take k)) (fun _ i _ => xs.length - (intOf i).toNat)
    case atStart => exact ⟨0, 0, by omega, rfl, rfl, rfl, rfl⟩
    case round =>
      obtain ⟨k, q, hk, rfl, rfl, rfl, HT⟩ := hrel
      by_cases hlt : k < xs.length
      · obtain rfl := H1.out (by omega)
        obtain rfl := H2.out (by have := HL.out; omega)
        obtain ⟨x, hx, hcx⟩ := name_cell (H3.out k hlt)
        obtain ⟨y, hy, hcy⟩ := name_cell (H4.out k (by have := HL.out; omega))
        have HX := Lib.hid hx
        have HY := Lib.hid hy
        clear hx hy
        have hlt' : (k : Int) < xs.length := by omega
        by_cases he : x = y
        · subst he
          go_wp2_with fail
          go_quiet (fail)
          go_wp2_with fail
          go_roundw
          case rel => exact ⟨k + 1, q + nq, by omega, by go_num, rfl, rfl, take_step hlt (by have := HL.out; omega) HT.out (HX.out.symm.trans HY.out)⟩
          case measure => simp [intOf]; omega
        · go_wp2_with fail
          go_quiet (fail)
          go_wp2_with fail
          go_ret
          have hne : decide (xs = ys) = false := by
            rw [decide_eq_false_iff_not]
            rintro rfl
            exact he (HX.out.trans HY.out.symm)
          exact ⟨by rw [hne]; rfl, below_drewN (below_drewN (Below.refl _ _) _) _⟩
      · obtain rfl : k = xs.length := by omega
        go_wp2_with fail
        go_ret
        exact ⟨by rw [decide_eq_true (eq_of_take HL.out HT.out)]; rfl, below_drewN (Below.refl _ _) _⟩
  · have hne : decide (xs = ys) = false := by
      rw [decide_eq_false_iff_not]
      rintro rfl
      exact hl rfl
    have HNE := Lib.hid hne
    have hb : ((xs.length : Int) != (ys.length : Int)) = true := by simp; omega
    clear hne
    go_enter Try.func15, Try.ntmps15
    go_wp2
    go_ret
    exact ⟨by rw [HNE.out]; rfl, Below.refl _ _⟩

theorem Ints.u8 {w : World} {v : Value} {xs : List Int} (h : Ints .u8 w v xs) : U8 xs := fun x hx => by
  have := h.2 x hx
  simp [Lit.wf, IntKind.min, IntKind.max, IntKind.signed, IntKind.bits] at this
  omega
theorem U8.wf {xs : List Int} (h : U8 xs) : ∀ z ∈ xs, (Lit.int .u8 z).wf = true := fun z hz => by
  have := h z hz
  simp [Lit.wf, IntKind.min, IntKind.max, IntKind.signed, IntKind.bits]; omega
theorem U64.wf {xs : List Int} (h : U64 xs) : ∀ z ∈ xs, (Lit.int .u64 z).wf = true := fun z hz => by
  have := h z hz
  simp [Lit.wf, IntKind.min, IntKind.max, IntKind.signed, IntKind.bits]; omega

theorem val_step {xs : List Int} {k : Nat} (hk : k < xs.length) : valL (xs.take (k + 1)) = valL (xs.take k) * 256 + xs.getD k 0 := by
  rw [take_snoc hk, valL_snoc]
theorem val_take_lt {xs : List Int} {k : Nat} (hu : U8 xs) (hk : k ≤ 7) : 0 ≤ valL (xs.take k) ∧ valL (xs.take k) ≤ 72057594037927935 := by
  have h := valL_bd (b := xs.take k) (fun z hz => hu z (List.mem_of_mem_take hz))
  refine ⟨h.1, ?_⟩
  have hl : (xs.take k).length ≤ 7 := by rw [List.length_take]; omega
  have : (256 : Int) ^ (xs.take k).length ≤ 256 ^ 7 := by
    have := Nat.pow_le_pow_right (n := 256) (by omega) hl
    have h' : ((256 ^ (xs.take k).length : Nat) : Int) ≤ ((256 ^ 7 : Nat) : Int) := Int.ofNat_le.2 this
    simpa [Int.natCast_pow] using h'
  have e7 : (256 : Int) ^ 7 = 72057594037927936 := by decide
  omega

set_option maxRecDepth 100000 in
set_option maxHeartbeats 400000 in
theorem ref_value (v : Value) (xs : List Int) (w : World) (h : Ints .u8 w v xs) (h8 : xs.length ≤ 8) :
    Calls Try.prog 46 #[v] w fun e w' => e = .returned (.int .u64 (valL xs)) ∧ w = w' := by
  have hu := Lib.hid h.u8
  obtain ⟨a, cap, b, off, rfl, -, -, -, ha, hc⟩ := h.open
  have H1 := Lib.hid ha
  have H3 := Lib.hid hc
  clear ha hc h
  go_enter Try.func46, Try.ntmps46
  go_wp2
  go_loop [3, 4] (fun r i => ∃ k : Nat, k ≤ xs.length ∧ i = .int .i64 k ∧ r = .int .u64 (valL (xs.take k))) (fun _ i => xs.length - (intOf i).toNat)
  case atStart => exact ⟨0, by omega, rfl, rfl⟩
  case round =>
    obtain ⟨k, hk, rfl, rfl⟩ := hrel
    by_cases hlt : k < xs.length
    · obtain rfl := H1.out (by omega)
      obtain ⟨x, hx, hcx⟩ := name_cell (H3.out k hlt)
      have hxb := hu.out _ (getD_mem hlt)
      rw [← hx] at hxb
      obtain ⟨hx0, hx1⟩ := hxb
      have HS := Lib.hid (val_step hlt)
      rw [← hx] at HS
      obtain ⟨hv0, hv1⟩ := val_take_lt hu.out (show k ≤ 7 by omega)
      generalize valL (xs.take k) = S at *
      clear hx
      go_wp2
      go_round
      case rel => exact ⟨k + 1, by omega, by go_num, congrArg (Value.int .u64) HS.out.symm⟩
      case measure => simp [intOf]; omega
    · obtain rfl : k = xs.length := by omega
      go_wp2
      go_ret
      exact ⟨by simp, rfl⟩

theorem or_byte {S x : Int} (h0 : 0 ≤ S) (h1 : S ≤ 72057594037927935) (h2 : 0 ≤ x) (h3 : x < 256) : bits .or .u64 (S * 256) x = S * 256 + x := by
  rw [u64_or _ _ (by omega) (by omega) h2 (by omega)]
  have := nat_join8 (S * 256).toNat x.toNat (by omega) (by omega)
  omega

set_option maxRecDepth 100000 in
set_option maxHeartbeats 400000 in
theorem row_number (v : Value) (xs : List Int) (w : World) (h : Ints .u8 w v xs) (h8 : xs.length ≤ 8) :
    Calls Try.prog 83 #[v] w fun e w' => e = .returned (.int .u64 (valL xs)) ∧ w = w' := by
  have hu := Lib.hid h.u8
  obtain ⟨a, cap, b, off, rfl, -, -, -, ha, hc⟩ := h.open
  have H1 := Lib.hid ha
  have H3 := Lib.hid hc
  clear ha hc h
  go_enter Try.func83, Try.ntmps83
  go_wp2
  go_loop [2, 7] (fun r i => ∃ k : Nat, k ≤ xs.length ∧ i = .int .i64 k ∧ r = .int .u64 (valL (xs.take k))) (fun _ i => xs.length - (intOf i).toNat)
  case atStart => exact ⟨0, by omega, rfl, rfl⟩
  case round =>
    obtain ⟨k, hk, rfl, rfl⟩ := hrel
    by_cases hlt : k < xs.length
    · obtain rfl := H1.out (by omega)
      obtain ⟨x, hx, hcx⟩ := name_cell (H3.out k hlt)
      have hxb := hu.out _ (getD_mem hlt)
      rw [← hx] at hxb
      obtain ⟨hx0, hx1⟩ := hxb
      have HS := Lib.hid (val_step hlt)
      rw [← hx] at HS
      obtain ⟨hv0, hv1⟩ := val_take_lt hu.out (show k ≤ 7 by omega)
      generalize valL (xs.take k) = S at *
      clear hx
      have HOB := Lib.hid (or_byte hv0 hv1 hx0 hx1)
      go_wp2
      go_round
      case rel => exact ⟨k + 1, by omega, by go_num, congrArg (Value.int .u64) (HOB.out.trans HS.out.symm)⟩
      case measure => simp [intOf]; omega
    · obtain rfl : k = xs.length := by omega
      go_wp2
      go_ret
      exact ⟨by simp, rfl⟩

set_option maxHeartbeats 400000 in
theorem row_zero (v : Value) (xs : List Int) (w : World) (h : Ints .u8 w v xs) :
    Calls Try.prog 84 #[v] w fun e w' => e = .returned (.bool (xs.all (· == 0))) ∧ w = w' := by
  have hle := h.le
  obtain ⟨a, cap, b, off, rfl, -, -, -, ha, hc⟩ := h.open
  have H1 := Lib.hid ha
  have H3 := Lib.hid hc
  clear ha hc h
  go_enter Try.func84, Try.ntmps84
  go_wp2
  go_loop [2, 7] (fun r i => ∃ k : Nat, k ≤ xs.length ∧ i = .int .i64 k ∧ r = .bool false ∧ Hid ((xs.take k).all (· == 0) = true)) (fun _ i => xs.length - (intOf i).toNat)
  case atStart => exact ⟨0, by omega, rfl, rfl, by simp [Hid]⟩
  case round =>
    obtain ⟨k, hk, rfl, rfl, HT⟩ := hrel
    by_cases hlt : k < xs.length
    · obtain rfl := H1.out (by omega)
      obtain ⟨x, hx, hcx⟩ := name_cell (H3.out k hlt)
      have HX := Lib.hid hx
      clear hx
      by_cases hz : x = 0
      · subst hz
        go_wp2
        go_round
        case rel => exact ⟨k + 1, by omega, by go_num, rfl, by
          have h1 := HT.out
          show (xs.take (k + 1)).all (· == 0) = true
          rw [take_snoc hlt, List.all_append, h1, ← HX.out]; rfl⟩
        case measure => simp [intOf]; omega
      · have hz' : (x != 0) = true := by simp; omega
        go_wp2
        go_ret
        have hf : xs.all (· == 0) = false := by
          rw [← Bool.not_eq_true]; intro hh
          have := List.all_eq_true.1 hh _ (getD_mem hlt)
          rw [← HX.out] at this
          exact hz (by simpa using this)
        exact ⟨by rw [hf]; rfl, rfl⟩
    · obtain rfl : k = xs.length := by omega
      have hf : xs.all (· == 0) = true := by have := HT.out; rwa [List.take_length] at this
      have HF := Lib.hid hf
      clear hf
      go_wp2
      go_ret
      exact ⟨by rw [HF.out]; rfl, rfl⟩

set_option maxRecDepth 100000 in
set_option maxHeartbeats 400000 in
theorem ref_fits (x n : Int) (w : World) (h0 : 0 < n) (h8 : n ≤ 8) :
    Calls Try.prog 81 #[.int .u64 x, .int .i64 n] w fun e w' => e = .returned (.bool (fitsW x n)) ∧ w = w' := by
  rcases (show n = 1 ∨ n = 2 ∨ n = 3 ∨ n = 4 ∨ n = 5 ∨ n = 6 ∨ n = 7 ∨ n = 8 by omega) with rfl | rfl | rfl | rfl | rfl | rfl | rfl | rfl
  all_goals
    go_enter Try.func81, Try.ntmps81
    go_wp2
    go_ret
    exact ⟨by simp [fitsW], rfl⟩

theorem rep_get {m j : Nat} (h : j < m) (rest : List Int) : ((List.replicate m 0 ++ rest).map (Value.int .u8))[j]? = some (.int .u8 0) := by
  rw [List.getElem?_map, List.getElem?_append_left (by simpa using h)]
  simp [h]
theorem rep_set {m : Nat} (h : 0 < m) (rest : List Int) (z : Int) : ((List.replicate m 0 ++ rest).map (Value.int .u8)).set (m - 1) (.int .u8 z) = (List.replicate (m - 1) 0 ++ z :: rest).map (Value.int .u8) := by
  obtain ⟨m, rfl⟩ : ∃ m', m = m' + 1 := ⟨m - 1, by omega⟩
  simp only [Nat.add_sub_cancel]
  rw [List.replicate_succ']
  simp

set_option maxRecDepth 100000 in
set_option maxHeartbeats 400000 in
theorem ref_num (n : Int) (W : Nat) (w : World) (hW : W ≤ 8) :
    Calls Try.prog 50 #[.int .u64 n, .int .i64 W] w fun e w' => ∃ v, e = .returned v ∧ w'.ownsRow w.heap.size 5 1 v W ((be W n).map (Value.int .u8)) ∧ Below w.heap.size w w' := by
  go_enter Try.func50, Try.ntmps50
  go_wp2_with (at_make; refine wpList_makeN rfl _ _ _ rfl w.heap.size 5 (.int .u8 0) 1 Try.underlying25 info_u8 rfl .i64 .i64 _ _ W rfl rfl rfl rfl (by omega) (by unfold maxLen; omega) (Nat.le_refl _) ?_; intro w1 hown1 hb1; have HO := Lib.hid hown1; have HB := Lib.hid hb1; clear hown1 hb1)
  go_loopw [6] (fun i wr => ∃ k : Nat, k ≤ W ∧ i = .int .i64 k ∧ Hid (wr.ownsRow w.heap.size 5 1 (.slice (some ⟨w.heap.size, 0, none⟩) W W) W ((List.replicate (W - k) 0 ++ be k n).map (Value.int .u8))) ∧ Hid (Below w.heap.size w wr)) (fun i _ => W - (intOf i).toNat)
  case atStart => exact ⟨0, by omega, rfl, by have := HO.out; simpa [Hid, be] using this, HB.out⟩
  case round =>
    obtain ⟨k, hk, rfl, HR, HBB⟩ := hrel
    by_cases hlt : k < W
    · have hlt' : (k : Int) < W := by omega
      have hc := (HR.out.cellAt (W - 1 - k) (by omega)).trans (rep_get (show W - 1 - k < W - k by omega) (be k n))
      have hf := HR.out.frozenAt (W - 1 - k)
      have hst := HR.out.stored (W - 1 - k) (.int .u8 (n / 2 ^ (8 * k) % 256))
      have h1 : Hid ((wr.setCell ⟨w.heap.size, W - 1 - k, none⟩ (.int .u8 (n / 2 ^ (8 * k) % 256))).ownsRow w.heap.size 5 1 (.slice (some ⟨w.heap.size, 0, none⟩) W W) W ((List.replicate (W - (k + 1)) 0 ++ be (k + 1) n).map (Value.int .u8))) := by
        have h2 := hst.1
        have e := rep_set (show 0 < W - k by omega) (be k n) (n / 256 ^ k % 256)
        rw [show W - k - 1 = W - 1 - k by omega] at e
        rw [pow8, e] at h2
        rw [pow8, show W - (k + 1) = W - 1 - k by omega]
        exact h2
      have h3 : Hid (Below w.heap.size w (wr.setCell ⟨w.heap.size, W - 1 - k, none⟩ (.int .u8 (n / 2 ^ (8 * k) % 256)))) := HBB.out.setCell (Nat.le_refl _) _
      clear hst
      go_wp2_with fail
      go_roundw
      case rel => exact ⟨k + 1, by omega, by go_num, h1, h3⟩
      case measure => simp [intOf]; omega
    · obtain rfl : k = W := by omega
      go_wp2
      go_ret
      exact ⟨_, rfl, by have := HR.out; simpa using this, HBB.out⟩

end Go.Proofs.Ytoobcgakainelaa
