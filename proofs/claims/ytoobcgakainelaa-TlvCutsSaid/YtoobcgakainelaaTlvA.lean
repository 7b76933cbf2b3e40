/- The walks of tlv.Shape's methods. Conditions: the shape's numbers fit their types; for fits and zeros, that the shape may be. -/
import Derived.Test.YtoobcgakainelaaNest
import Derived.Test.YtoobcgakainelaaFrameTlv
namespace Go.Proofs.Ytoobcgakainelaa
open Go.RowKit
set_option maxRecDepth 100000
set_option maxHeartbeats 4000000

theorem sh_may (s : Sh) (w : World) : Calls Try.prog 40 #[s.val] w fun e w' => e = .returned (.bool s.may) ∧ Below w.heap.size w w' := by
  obtain ⟨least, step, pad, bad, odd⟩ := s
  unfold Sh.val Sh.may
  go_enter Try.func40, Try.ntmps40
  go_wp2
  all_goals
    go_ret
    refine ⟨?_, below_alloc2 _⟩
    first
      | (simp_all; done)
      | (simp_all; omega)
      | (by_cases h : odd = 0 <;> simp_all)

theorem sh_zeros {s : Sh} (hm : s.may = true) (n : Nat) (hn : n ≤ 1000000) (w : World) : Calls Try.prog 43 #[s.val, .int .i64 n] w fun e w' => e = .returned (.int .i64 (s.zeros n : Nat)) ∧ Below w.heap.size w w' := by
  have hm' := Sh.may_iff.1 hm
  obtain ⟨least, step, pad, bad, odd⟩ := s
  obtain ⟨k, rfl⟩ : ∃ k : Nat, step = k := ⟨step.toNat, by have := hm'.2.2.1; simp at this; omega⟩
  have h1 : (1 : Int) ≤ k := hm'.2.2.1
  have h2 : (k : Int) ≤ 64 := hm'.2.2.2.1
  have hk0 : (k : Int) ≠ 0 := by omega
  have hk1 : (k : Int) ≠ -1 := by omega
  have hkb : ((k : Int) == 0) = false := by simpa using hk0
  clear hm hm'
  have hr : n % k < k := Nat.mod_lt _ (by omega)
  have hz : (⟨least, k, pad, bad, odd⟩ : Sh).zeros n = if pad then (k - n % k) % k else 0 := by simp [Sh.zeros]
  unfold Sh.val
  cases pad with
  | false =>
    go_enter Try.func43, Try.ntmps43
    go_wp2
    go_ret
    exact ⟨by rw [hz]; rfl, below_alloc2 _⟩
  | true =>
    go_enter Try.func43, Try.ntmps43
    go_wp2_with go_quiet (fail)
    go_ret
    refine ⟨?_, below_drewN (below_alloc2 _) _⟩
    have e : ((k - n % k : Nat) : Int) % k = -((n : Int) % k) % k := by
      rw [Int.ofNat_sub (Nat.le_of_lt hr), Int.natCast_emod, Int.sub_eq_add_neg, Int.add_comm, Int.add_emod_right]
    rw [e]
    rfl

theorem sh_fits {s : Sh} (hm : s.may = true) (n : Nat) (hn : n ≤ 1000000) (w : World) : Calls Try.prog 42 #[s.val, .int .i64 n] w fun e w' => e = .returned (.bool (s.fits n)) ∧ Below w.heap.size w w' := by
  have hm' := Sh.may_iff.1 hm
  obtain ⟨least, step, pad, bad, odd⟩ := s
  obtain ⟨k, rfl⟩ : ∃ k : Nat, step = k := ⟨step.toNat, by have := hm'.2.2.1; simp at this; omega⟩
  have h1 : (1 : Int) ≤ k := hm'.2.2.1
  have h0 : (4 : Int) ≤ least := hm'.1
  have hk0 : (k : Int) ≠ 0 := by omega
  have hkb : ((k : Int) == 0) = false := by simpa using hk0
  clear hm hm'
  unfold Sh.val
  by_cases hl : least ≤ n
  · cases pad with
    | true =>
      go_enter Try.func42, Try.ntmps42
      go_wp2
      go_ret
      refine ⟨?_, below_alloc2 _⟩
      have : least.toNat ≤ n := by omega
      simp [Sh.fits, this]
    | false =>
      go_enter Try.func42, Try.ntmps42
      go_wp2
      go_ret
      refine ⟨?_, below_alloc2 _⟩
      have : least.toNat ≤ n := by omega
      have e : ((n % k : Nat) : Int) = (n : Int) % k := Int.natCast_emod _ _
      by_cases h0 : n % k = 0
      · have : (n : Int) % k = 0 := by rw [← e, h0]; rfl
        simp_all [Sh.fits]
      · have : (n : Int) % k ≠ 0 := by rw [← e]; omega
        simp_all [Sh.fits]
  · go_enter Try.func42, Try.ntmps42
    go_wp2
    go_ret
    refine ⟨?_, below_alloc2 _⟩
    have : ¬ least.toNat ≤ n := by omega
    simp [Sh.fits, this]

end Go.Proofs.Ytoobcgakainelaa
