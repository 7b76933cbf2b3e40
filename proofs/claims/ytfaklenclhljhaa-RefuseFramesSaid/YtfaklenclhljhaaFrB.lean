/- Errors by type and code: the walks of fault.Pair, of the document's Pair, and of Why of any message. Conditions: none beyond each lemma's own. -/
import Derived.Test.YtfaklenclhljhaaFrA
import Derived.Test.YtfaklenclhljhaaBodyA
namespace Go.Proofs.Ytfaklenclhljhaa
open Go.RowKit
set_option maxRecDepth 100000
set_option maxHeartbeats 4000000

theorem go_pair (e : Int) (w : World) (he : (Lit.int .i64 e).wf = true) : Calls Try.prog 65 #[.int .i64 e] w fun r w' => r = .returned (.tuple #[.int .i64 (pairS e).1.1, .int .i64 (pairS e).1.2, .bool (pairS e).2]) ∧ w = w' := by
  have he2 : e ≤ 9223372036854775807 := by simp [Lit.wf, IntKind.min, IntKind.max, IntKind.signed, IntKind.bits] at he; omega
  by_cases h0 : e < 1
  · have hq : pairS e = ((0, 0), false) := if_neg (by omega)
    rw [hq]
    clear he he2 hq
    go_enter Try.func65, Try.ntmps65
    go_wp2
    go_ret3
    exact ⟨rfl, rfl⟩
  have x1 : IntKind.wrap .i64 (e - 1) = e - 1 := wrap_i64 (by omega) (by omega)
  have y1 : Int.tmod (e - 1) 256 = (e - 1) % 256 := Int.tmod_eq_emod_of_nonneg (by omega)
  have y2 : Int.tdiv (e - 1) 256 = (e - 1) / 256 := Int.tdiv_eq_ediv_of_nonneg (by omega)
  have x2 : IntKind.wrap .i64 ((e - 1) / 256) = (e - 1) / 256 := wrap_i64 (by omega) (by omega)
  have x3 : IntKind.wrap .i64 ((e - 1) % 256) = (e - 1) % 256 := wrap_i64 (by omega) (by omega)
  have HC := fun w => Lib.hid (go_codes ((e - 1) / 256) w)
  by_cases h1 : (e - 1) % 256 < codesS ((e - 1) / 256)
  · have hq : pairS e = (((e - 1) / 256, (e - 1) % 256), true) := if_pos ⟨by omega, h1⟩
    rw [hq]
    clear he he2 hq
    have hn : ¬ codesS ((e - 1) / 256) ≤ (e - 1) % 256 := by omega
    clear h1
    go_enter Try.func65, Try.ntmps65
    go_wp2_with (go_at_call 101; (with_reducible refine (HC _).out.mono ?_); rintro e w1 ⟨rfl, rfl⟩)
    go_ret3
    exact ⟨rfl, rfl⟩
  · have hq : pairS e = ((0, 0), false) := if_neg (by omega)
    rw [hq]
    clear he he2 hq
    have hn : codesS ((e - 1) / 256) ≤ (e - 1) % 256 := by omega
    clear h1
    go_enter Try.func65, Try.ntmps65
    go_wp2_with (go_at_call 101; (with_reducible refine (HC _).out.mono ?_); rintro e w1 ⟨rfl, rfl⟩)
    go_ret3
    exact ⟨rfl, rfl⟩

/-- Of all types below k, and of type k with codes below j, none is e. -/
def NotYet (e : Int) (k j : Nat) : Prop := (∀ t c : Int, 0 ≤ t → t < k → 0 ≤ c → c < codesS t → 256 * t + c + 1 ≠ e) ∧ (∀ c : Int, 0 ≤ c → c < j → 256 * (k : Int) + c + 1 ≠ e)

theorem ref_pair (e : Int) (w : World) : Calls Try.prog 67 #[.int .i64 e] w fun r w' => r = .returned (.tuple #[.int .i64 (pairS e).1.1, .int .i64 (pairS e).1.2, .bool (pairS e).2]) ∧ Below w.heap.size w w' := by
  go_enter Try.func67, Try.ntmps67
  go_wp2
  go_loopw [2, 3, 4, 5] (fun r1 r2 r3 i wi => ∃ (k : Nat), k ≤ 14 ∧ i = .int .i64 k ∧ r1 = .int .i64 0 ∧ r2 = .int .i64 0 ∧ r3 = .bool false ∧ Hid (Below w.heap.size w wi) ∧ Hid (NotYet e k 0)) (fun _ _ _ i _ => 14 - (intOf i).toNat)
  case atStart => exact ⟨0, by omega, rfl, rfl, rfl, rfl, Below.refl _ _, fun t c a b => by omega, fun c a b => by omega⟩
  case round =>
    obtain ⟨k, hk, rfl, rfl, rfl, rfl, HB, HN⟩ := hrel
    by_cases hlt : k < 14
    · have hlt' : (k : Int) < 14 := by omega
      go_wp2_with fail
      go_loopw [2, 3, 4, 6] (fun r1 r2 r3 i wi => ∃ (j : Nat), (j : Int) ≤ codesS k ∧ i = .int .i64 j ∧ r1 = .int .i64 0 ∧ r2 = .int .i64 0 ∧ r3 = .bool false ∧ Hid (Below w.heap.size w wi) ∧ Hid (NotYet e k j)) (fun _ _ _ i _ => 16 - (intOf i).toNat)
      case atStart => exact ⟨0, (codesS_bd _).1, rfl, rfl, rfl, rfl, HB, HN⟩
      case round =>
        obtain ⟨j, hj, rfl, rfl, rfl, rfl, HB2, HN2⟩ := hrel
        have hj16 : (j : Int) ≤ 16 := Int.le_trans hj (codesS_bd _).2
        have HC := fun w => Lib.hid (ref_codes k w)
        go_wp2_with fail
        (with_reducible refine (HC _).out.mono ?_)
        rintro e9 w1 ⟨rfl, hb⟩
        have HB3 := Lib.hid (HB2.out.trans (hb.mono HB2.out.size))
        clear hb
        by_cases hjl : (j : Int) < codesS k
        · have x1 : IntKind.wrap .i64 (256 * (k : Int)) = 256 * k := wrap_i64 (by omega) (by omega)
          have x2 : IntKind.wrap .i64 (256 * (k : Int) + j) = 256 * k + j := wrap_i64 (by omega) (by omega)
          have x3 : IntKind.wrap .i64 (256 * (k : Int) + j + 1) = 256 * k + j + 1 := wrap_i64 (by omega) (by omega)
          by_cases he : 256 * (k : Int) + j + 1 = e
          · have hq := pairS_of (Int.natCast_nonneg j) hjl he
            have hq := Lib.hid hq
            have hd : (256 * (k : Int) + j + 1 == e) = true := by simpa using he
            clear he hj hj16
            go_wp2_with fail
            go_ret3
            exact ⟨by rw [hq.out]; rfl, HB3.out⟩
          · have hd : (256 * (k : Int) + j + 1 == e) = false := by simpa using he
            have hN := Lib.hid (show NotYet e k (j + 1) from ⟨HN2.out.1, fun c a b => by
              by_cases hc : c < j
              · exact HN2.out.2 c a hc
              · have : c = j := by omega
                subst this; exact he⟩)
            have hj15 : j < 16 := by have := (codesS_bd k).2; omega
            clear he
            go_wp2_with fail
            go_roundw
            case rel => exact ⟨j + 1, by omega, by go_num, rfl, rfl, rfl, HB3, hN⟩
            case measure => simp [intOf]; omega
        · have hN := Lib.hid (show NotYet e (k + 1) 0 from ⟨fun t c a b h0 h1 => by
            by_cases hc : t < k
            · exact HN2.out.1 t c a hc h0 h1
            · have : t = k := by omega
              subst this; exact HN2.out.2 c h0 (by omega), fun c a b => by omega⟩)
          go_wp2_with fail
          go_roundw
          case rel => exact ⟨k + 1, by omega, by go_num, rfl, rfl, rfl, HB3, hN⟩
          case measure => simp [intOf]; omega
    · obtain rfl : k = 14 := by omega
      have hq := pairS_none (e := e) (fun t c a b h0 h1 => HN.out.1 t c a b h0 h1)
      have hq := Lib.hid hq
      go_wp2_with fail
      go_ret3
      exact ⟨by rw [hq.out]; rfl, HB.out⟩
end Go.Proofs.Ytfaklenclhljhaa
