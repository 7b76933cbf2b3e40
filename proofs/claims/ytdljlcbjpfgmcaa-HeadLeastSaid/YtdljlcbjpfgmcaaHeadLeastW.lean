/- The walk of the law 'HeadLeast': it returns true. Conditions: none. -/
import Derived.Test.YtdljlcbjpfgmcaaSure06
namespace Go.Proofs.Ytdljlcbjpfgmcaa
open Go.RowKit

theorem least_none {t : Int} (h : leastS t = 0) : answerS t = (0, false) := by
  rw [answerS]
  split
  · rename_i hh
    exfalso
    rcases hh with rfl | rfl | rfl | rfl | rfl | rfl | rfl | rfl <;> exact absurd h (by decide)
  · rfl
theorem least_range {t : Int} (h : leastS t ≠ 0) : ∃ k : Nat, k < 30 ∧ t = k := by
  rcases (show t < 0 ∨ 30 ≤ t ∨ (0 ≤ t ∧ t < 30) by omega) with h0 | h0 | h0
  · exact absurd (by rw [leastS, if_pos h0]) h
  · refine absurd ?_ h
    rw [leastS, if_neg (by omega), List.getD_eq_getElem?_getD, List.getElem?_eq_none (by simp [leasts]; omega)]; rfl
  · exact ⟨t.toNat, by omega, by omega⟩
theorem least_some : ∀ k : Nat, k < 30 → 8 ≤ leastS k ∧ leastS k ≤ 80 ∧ ((answerS k = (0, false)) ∨ (answerS k = ((k : Int) + 1, true) ∧ answerS ((k : Int) + 1) = (0, false) ∧ 8 ≤ leastS ((k : Int) + 1))) := by decide

set_option maxRecDepth 100000 in
set_option maxHeartbeats 4000000 in
theorem walk_HeadLeast (t more : Int) (w : World) (h1 : (Lit.int .i64 t).wf = true) (_h2 : (Lit.int .i64 more).wf = true) :
    Calls Try.prog 8 #[.int .i64 t, .int .i64 more] w fun e w' => e = .returned (.bool true) ∧ Below w.heap.size w w' := by
  have HL := fun w => Lib.hid (head_least t w)
  have HA := fun w => Lib.hid (head_answer t w)
  by_cases h0 : leastS t = 0
  · have HC := fun w => Lib.hid (head_check 4 t 100 0 w)
    rw [show checkS 4 t 100 = 258 by rw [checkS, h0]; rfl] at HC
    rw [h0] at HL
    rw [least_none h0] at HA
    clear h1 h0
    go_enter Try.func8, Try.ntmps8
    go_wp2_with (first
      | (go_at_call 29; (with_reducible refine (HL _).out.mono ?_); rintro e w1 ⟨rfl, hb⟩; have HB1 := Lib.hid hb; clear hb)
      | (go_at_call 30; (with_reducible refine (HA _).out.mono ?_); rintro e w2 ⟨rfl, rfl⟩)
      | (go_at_call 31; (with_reducible refine (HC _).out.mono ?_); rintro e w3 ⟨rfl, hb⟩; have HB3 := Lib.hid (HB1.out.trans (hb.mono HB1.out.size)); clear hb)
      | (go_at_call 32; (with_reducible refine (sure06 _).mono ?_); rintro e w4 ⟨rfl, hb⟩; have HB4 := Lib.hid (HB3.out.trans (hb.mono HB3.out.size)); clear hb))
    go_ret
    exact ⟨rfl, HB4.out⟩
  · obtain ⟨k, hk, rfl⟩ := least_range h0
    obtain ⟨l1, l2, l3⟩ := least_some k hk
    generalize hl : leastS (k : Int) = l at HL h0 l1 l2
    have HLl := Lib.hid hl
    clear hl
    have HC0 : ∀ n w, l ≤ n → n ≤ 65535 → Hid (Calls Try.prog 31 #[.agg #[.int .i64 4, .int .i64 k, .int .i64 n, .int .u32 0]] w fun e w' => e = .returned (.int .i64 0) ∧ Below w.heap.size w w') := fun n w a b => by
      have := head_check 4 k n 0 w
      rw [show checkS 4 k n = 0 by rw [checkS, HLl.out, checkL, if_neg (by omega), if_neg (by omega), if_neg (by omega)]] at this
      exact this
    have HC1 : ∀ n w, n < l ∨ 65535 < n → Hid (Calls Try.prog 31 #[.agg #[.int .i64 4, .int .i64 k, .int .i64 n, .int .u32 0]] w fun e w' => e = .returned (.int .i64 263) ∧ Below w.heap.size w w') := fun n w a => by
      have := head_check 4 k n 0 w
      rw [show checkS 4 k n = 263 by rw [checkS, HLl.out, checkL, if_neg (by omega), if_neg (by omega), if_pos a]] at this
      exact this
    rcases l3 with l3 | ⟨l3, l4, l5⟩
    · rw [l3] at HA
      have HA2 := fun w => Lib.hid (head_answer 0 w)
      rw [show answerS 0 = (0, false) from rfl] at HA2
      clear l3 h1
      go_enter Try.func8, Try.ntmps8
      go_wp2_with (first
        | (go_at_call 29; (with_reducible refine (HL _).out.mono ?_); rintro e w1 ⟨rfl, hb⟩; have HB1 := Lib.hid hb; clear hb)
        | (go_at_call 30; (with_reducible refine (HA _).out.mono ?_); rintro e w2 ⟨rfl, rfl⟩)
        | (go_at_call 30; (with_reducible refine (HA2 _).out.mono ?_); rintro e w2 ⟨rfl, rfl⟩)
        | (go_at_call 31; (with_reducible refine (HC0 _ _ (by omega) (by omega)).out.mono ?_); rintro e w3 ⟨rfl, hb⟩; have HB1 := Lib.hid (HB1.out.trans (hb.mono HB1.out.size)); clear hb)
        | (go_at_call 31; (with_reducible refine (HC1 _ _ (by omega)).out.mono ?_); rintro e w3 ⟨rfl, hb⟩; have HB1 := Lib.hid (HB1.out.trans (hb.mono HB1.out.size)); clear hb)
        | (go_at_call 32; (with_reducible refine (sure06 _).mono ?_); rintro e w4 ⟨rfl, hb⟩; have HB4 := Lib.hid (HB1.out.trans (hb.mono HB1.out.size)); clear hb))
      all_goals go_ret
      all_goals exact ⟨rfl, HB4.out⟩
    · rw [l3] at HA
      have HA2 := fun w => Lib.hid (head_answer ((k : Int) + 1) w)
      rw [l4] at HA2
      have HL2 := fun w => Lib.hid (head_least ((k : Int) + 1) w)
      generalize leastS ((k : Int) + 1) = l' at HL2 l5
      clear l3 l4 h1
      go_enter Try.func8, Try.ntmps8
      go_wp2_with (first
        | (go_at_call 29; (with_reducible refine (HL _).out.mono ?_); rintro e w1 ⟨rfl, hb⟩; have HB1 := Lib.hid hb; clear hb)
        | (go_at_call 29; (with_reducible refine (HL2 _).out.mono ?_); rintro e w1 ⟨rfl, hb⟩; have HB1 := Lib.hid (HB1.out.trans (hb.mono HB1.out.size)); clear hb)
        | (go_at_call 30; (with_reducible refine (HA _).out.mono ?_); rintro e w2 ⟨rfl, rfl⟩)
        | (go_at_call 30; (with_reducible refine (HA2 _).out.mono ?_); rintro e w2 ⟨rfl, rfl⟩)
        | (go_at_call 31; (with_reducible refine (HC0 _ _ (by omega) (by omega)).out.mono ?_); rintro e w3 ⟨rfl, hb⟩; have HB1 := Lib.hid (HB1.out.trans (hb.mono HB1.out.size)); clear hb)
        | (go_at_call 31; (with_reducible refine (HC1 _ _ (by omega)).out.mono ?_); rintro e w3 ⟨rfl, hb⟩; have HB1 := Lib.hid (HB1.out.trans (hb.mono HB1.out.size)); clear hb)
        | (go_at_call 32; (with_reducible refine (sure06 _).mono ?_); rintro e w4 ⟨rfl, hb⟩; have HB4 := Lib.hid (HB1.out.trans (hb.mono HB1.out.size)); clear hb))
      all_goals go_ret
      all_goals exact ⟨rfl, HB4.out⟩
end Go.Proofs.Ytdljlcbjpfgmcaa
