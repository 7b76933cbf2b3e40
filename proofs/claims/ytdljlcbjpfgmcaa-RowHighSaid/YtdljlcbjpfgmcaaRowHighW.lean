/- 'RowHigh': the highest byte comes first; the bytes of a number, as a number, are it. Conditions: none. -/
import Derived.Test.YtdljlcbjpfgmcaaSure01
import Derived.Test.YtdljlcbjpfgmcaaTail
namespace Go.Proofs.Ytdljlcbjpfgmcaa
open Go.RowKit

theorem put_one {W n : Int} (h1 : 1 ≤ W) (h8 : W ≤ 8) : putS [W] [n] = if fitsW n W then some (be W.natAbs n) else none := by
  have hr : RightS [W] = true := by
    simp only [RightS, List.all_cons, List.all_nil, Bool.and_true, List.length_singleton]
    rw [okW_iff.2 ⟨by omega, h8, by omega⟩]; rfl
  have hc : cntL [W] = 1 := by simp [cntL, show 0 < W by omega]
  unfold putS
  rw [hr, hc]
  simp only [List.length_singleton, decide_true, Bool.and_self, if_true, putL, if_neg (show ¬ W < 0 by omega)]
  cases fitsW n W <;> simp

theorem i64_wf {z : Int} (h0 : -100 ≤ z) (h1 : z ≤ 100) : (Lit.int .i64 z).wf = true := by
  simp [Lit.wf, IntKind.min, IntKind.max, IntKind.signed, IntKind.bits]; omega

set_option maxRecDepth 100000 in
set_option maxHeartbeats 1000000 in
theorem walk_RowHigh (n d : Int) (w : World) (hwn : (Lit.int .u64 n).wf = true) (hwd : (Lit.int .u8 d).wf = true) :
    Calls Try.prog 7 #[.int .u64 n, .int .u8 d] w fun e w' => e = .returned (.bool true) ∧ Below w.heap.size w w' := by
  have hn : 0 ≤ n ∧ n < 18446744073709551616 := by
    simp [Lit.wf, IntKind.min, IntKind.max, IntKind.signed, IntKind.bits] at hwn; omega
  have hd : 0 ≤ d ∧ d < 256 := by
    simp [Lit.wf, IntKind.min, IntKind.max, IntKind.signed, IntKind.bits] at hwd; omega
  obtain ⟨hn0, hn1⟩ := hn
  obtain ⟨hd0, hd1⟩ := hd
  have HN := Lib.hid hn1
  have HWN := Lib.hid hwn
  clear hn1 hwn hwd
  go_enter Try.func7, Try.ntmps7
  go_wp2_with fail
  obtain ⟨W, hW⟩ : ∃ W, W = 1 + d % 8 := ⟨_, rfl⟩
  rw [← hW]
  have hW1 : 1 ≤ W := by omega
  have hW8 : W ≤ 8 := by omega
  clear hW
  refine (row_put_i _ _ [W] [n] _ ((Ints.lit .i64 w 3 [W] _ rfl (by simp) (by intro z hz; simp at hz; subst hz; exact i64_wf (by omega) (by omega))).alloc _) (Ints.lit .u64 _ 38 [n] _ (by simp) (by simp) (by intro z hz; simp at hz; subst hz; exact HWN.out))).mono ?_
  rintro e w1 ⟨vb, rfl, hvb, hb1⟩
  have HB1 : Hid (Below w.heap.size w w1) := below2 hb1
  have hsz1 := HB1.out.size
  rw [put_one hW1 hW8] at hvb ⊢
  clear hb1
  cases hf : fitsW n W with
  | false =>
    rw [hf] at hvb
    have hlt : W < 8 := by
      rcases Int.lt_or_le W 8 with h | h
      · exact h
      · simp [fitsW, h] at hf
    have hne : (n / 2 ^ (8 * W).toNat != 0) = true := by
      rw [shrn_ne hn0 (by omega)]
      simp only [fitsW, Bool.or_eq_false_iff] at hf
      rw [hf.2]; rfl
    clear hf hvb
    go_wp2_with (go_at_call 16; refine (sure01 _).mono ?_; rintro e w10 ⟨rfl, hb10⟩)
    go_ret
    exact ⟨rfl, HB1.out.trans (hb10.mono hsz1)⟩
  | true =>
    rw [hf] at hvb
    obtain ⟨m, hm⟩ : ∃ m : Nat, (m : Int) = W := ⟨W.toNat, by omega⟩
    have hmn : W.natAbs = m := by omega
    have HV : Hid (Ints .u8 w1 vb (be m n)) := by rw [hmn] at hvb; exact hvb
    have hlen := be_length m n
    obtain ⟨ab, cb, bb, ob, rfl, -, -, -, ha, hc⟩ := HV.out.open
    have H1 := Lib.hid ha
    have H2 := Lib.hid hc
    rw [hlen] at H1 H2 ⊢
    have hm1 : 1 ≤ m := by omega
    have hm8 : m ≤ 8 := by omega
    have hfn : (m : Int) < 8 → n < 256 ^ m := fun h => by
      simp only [fitsW, Bool.or_eq_true, decide_eq_true_eq] at hf
      rcases hf with hf | hf
      · omega
      · rwa [show W.toNat = m by omega] at hf
    have HFN := Lib.hid hfn
    have hval : valL (be m n) = n := by
      rw [valL_be]
      refine Int.emod_eq_of_lt hn0 ?_
      by_cases h8 : m < 8
      · exact hfn (by omega)
      · obtain rfl : m = 8 := by omega
        have e8 : (256 : Int) ^ 8 = 18446744073709551616 := by decide
        rw [e8]; exact HN.out
    have HVAL := Lib.hid hval
    have hu : Hid (U8 (be m n)) := be_u8 m n
    subst hm
    clear hvb hf ha hc hlen hmn hfn hval hW1 hW8
    go_wp2_with fail
    go_loop [8, 9] (fun r i => ∃ k : Nat, k ≤ m ∧ i = .int .i64 k ∧ r = .int .u64 (valL ((be m n).take k))) (fun _ i => m - (intOf i).toNat)
    case atStart => exact ⟨0, by omega, rfl, rfl⟩
    case round =>
      obtain ⟨k, hk, rfl, rfl⟩ := hrel
      by_cases hlt : k < m
      · obtain rfl := H1.out (by omega)
        obtain ⟨x, hx, hcx⟩ := name_cell (H2.out k hlt)
        have hlt2 : k < (be m n).length := by rw [be_length]; exact hlt
        have hxb := hu.out _ (getD_mem hlt2)
        rw [← hx] at hxb
        obtain ⟨hx0, hx1⟩ := hxb
        have HS := Lib.hid (val_step hlt2)
        rw [← hx] at HS
        obtain ⟨hv0, hv1⟩ := val_take_lt hu.out (show k ≤ 7 by omega)
        generalize valL ((be m n).take k) = S at *
        clear hx hlt2
        have HOB := Lib.hid (or_byte hv0 hv1 hx0 hx1)
        have hlt' : (k : Int) < m := by omega
        go_wp2_with fail
        go_round
        case rel => exact ⟨k + 1, by omega, by go_num, congrArg (Value.int .u64) (HOB.out.trans HS.out.symm)⟩
        case measure => simp [intOf]; omega
      · obtain rfl : k = m := by omega
        have hval2 : valL ((be k n).take k) = n := by rw [List.take_of_length_le (by rw [be_length]; omega)]; exact HVAL.out
        rw [hval2]
        obtain rfl := H1.out (by omega)
        have hc0 := H2.out 0 (by omega)
        rw [be_getD k n 0 (by omega), Nat.add_zero, Nat.sub_zero] at hc0
        have he : n / 256 ^ (k - 1) % 256 = n / 2 ^ (8 * ((k : Int) - 1)).toNat % 256 := by
          rw [show (8 * ((k : Int) - 1)).toNat = 8 * (k - 1) by omega, pow8]
        rw [he] at hc0
        clear hval2 he
        have hk0 : (0 : Int) < k := by omega
        by_cases h8 : k = 8
        · subst h8
          go_wp2_with fail
          refine wp_region_quiet_tail 33 (by kernel_rfl) (by kernel_rfl) ?_
          simp only [List.take_succ_cons, List.take_zero, List.drop_succ_cons, List.drop_zero]
          repeat (go_big_quiet_step (fail))
          refine wpQuiet_nil ?_
          rintro w' ⟨q, rfl⟩
          go_wp2_with (go_at_call 16; refine (sure01 _).mono ?_; rintro e w10 ⟨rfl, hb10⟩)
          go_ret
          exact ⟨rfl, HB1.out.trans ((below_drewN (Below.refl _ _) _).trans (hb10.mono hsz1))⟩
        · have h8b : ((k : Int) == 8) = false := by simp; omega
          have hsh : (n / 2 ^ (8 * (k : Int)).toNat == 0) = true := by
            rw [show (8 * (k : Int)).toNat = 8 * k by omega, pow8]
            simp [Int.ediv_eq_zero_of_lt hn0 (HFN.out (by omega))]
          have hsh2 : (n / 2 ^ (8 * k) == 0) = true := by
            rw [pow8]
            simp [Int.ediv_eq_zero_of_lt hn0 (HFN.out (by omega))]
          go_wp2_with fail
          refine wp_region_quiet_tail 33 (by kernel_rfl) (by kernel_rfl) ?_
          simp only [List.take_succ_cons, List.take_zero, List.drop_succ_cons, List.drop_zero]
          repeat (go_big_quiet_step (fail))
          refine wpQuiet_nil ?_
          rintro w' ⟨q, rfl⟩
          go_wp2_with (go_at_call 16; refine (sure01 _).mono ?_; rintro e w10 ⟨rfl, hb10⟩)
          go_ret
          exact ⟨rfl, HB1.out.trans ((below_drewN (Below.refl _ _) _).trans (hb10.mono hsz1))⟩

end Go.Proofs.Ytdljlcbjpfgmcaa
