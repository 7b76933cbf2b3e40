/- The walks of plain.asked and of the document's (gunwaleref22.asked). Conditions: the numbers are as many as it looks at. -/
import Derived.Test.YtfaklenclhljhaaPlA
import Derived.Laws.BitsAll
namespace Go.Proofs.Ytfaklenclhljhaa
open Go.RowKit
set_option maxRecDepth 100000
set_option maxHeartbeats 4000000

def askedS (t : Int) (l : List Int) : Int :=
  if t = 8 ∨ t = 9 then (if 3 < l.getD 0 0 then 2561 else 0)
  else if t = 16 then (if l.getD 0 0 = 0 then 268 else if bits .and .u64 (l.getD 2 0) (l.getD 3 0) ≠ l.getD 2 0 then 1795 else 0)
  else if t = 22 then (if l.getD 0 0 = 0 then 268 else 0)
  else if t = 17 then (if 3 < l.getD 1 0 then 2050 else 0)
  else if t = 24 ∨ t = 25 then (if 3 < l.getD 0 0 then 2819 else 0)
  else 0
def askedOk (t : Int) (l : List Int) : Prop :=
  (t = 8 ∨ t = 9 ∨ t = 22 ∨ t = 24 ∨ t = 25 → 1 ≤ l.length) ∧ (t = 16 → 4 ≤ l.length) ∧ (t = 17 → 2 ≤ l.length)

theorem andNot_nat {a b : Nat} (ha : a < 2 ^ 64) (hb : b < 2 ^ 64) : (a &&& (2 ^ 64 - 1 - b)) = 0 ↔ (a &&& b) = a := by
  have e : ∀ i, (2 ^ 64 - 1 - b).testBit i = (decide (i < 64) && !b.testBit i) := fun i => by
    rw [show 2 ^ 64 - 1 - b = 2 ^ 64 - (b + 1) by omega]
    exact Nat.testBit_two_pow_sub_succ hb i
  have ha' : ∀ i, a.testBit i = true → i < 64 := fun i h => by
    by_cases hi : i < 64
    · exact hi
    · exfalso
      have : a < 2 ^ i := Nat.lt_of_lt_of_le ha (Nat.pow_le_pow_right (by decide) (by omega))
      rw [Nat.testBit_lt_two_pow this] at h
      cases h
  constructor
  · intro h
    apply Nat.eq_of_testBit_eq
    intro i
    have hi := congrArg (fun n => n.testBit i) h
    simp only [Nat.testBit_and, e, Nat.zero_testBit] at hi ⊢
    cases ha1 : a.testBit i
    · rfl
    · rw [ha1] at hi
      have := ha' i ha1
      simp [this] at hi
      simp [hi]
  · intro h
    apply Nat.eq_of_testBit_eq
    intro i
    have hi := congrArg (fun n => n.testBit i) h
    simp only [Nat.testBit_and, e, Nat.zero_testBit] at hi ⊢
    cases ha1 : a.testBit i
    · rfl
    · rw [ha1] at hi
      simp at hi
      simp [hi]
theorem andNot_iff {a b : Int} (h1 : 0 ≤ a) (h2 : a < 18446744073709551616) (h3 : 0 ≤ b) (h4 : b < 18446744073709551616) : bits .andNot .u64 a b = 0 ↔ bits .and .u64 a b = a := by
  rw [u64_andNot a b h1 h2 h3 h4, u64_and a b h1 h2 h3 h4]
  have := andNot_nat (a := a.toNat) (b := b.toNat) (by omega) (by omega)
  simp only [show (2 : Nat) ^ 64 - 1 = 18446744073709551615 by decide] at this
  constructor
  · intro h
    have := this.1 (by omega)
    omega
  · intro h
    have := this.2 (by omega)
    omega

theorem plain_asked (t : Int) (v : Value) (l : List Int) (w : World) (h : Ints .u64 w v l) (ho : askedOk t l) :
    Calls Try.prog 43 #[.int .i64 t, v] w fun e w' => e = .returned (.int .i64 (askedS t l)) ∧ Below w.heap.size w w' := by
  have hU := h.u64
  obtain ⟨a, cap, b, off, rfl, -, -, -, ha, hc⟩ := h.open
  obtain ⟨o1, o2, o3⟩ := ho
  clear h
  rcases (show t = 8 ∨ t = 9 ∨ t = 16 ∨ t = 22 ∨ t = 17 ∨ t = 24 ∨ t = 25 ∨ (t ≠ 8 ∧ t ≠ 9 ∧ t ≠ 16 ∧ t ≠ 22 ∧ t ≠ 17 ∧ t ≠ 24 ∧ t ≠ 25) by omega) with rfl | rfl | rfl | rfl | rfl | rfl | rfl | ⟨h8, h9, h16, h22, h17, h24, h25⟩
  · have hlen : 1 ≤ l.length := o1 (by decide)
    obtain rfl := ha (by omega)
    have d0 : w.cell? ⟨b, off + 0, none⟩ = some (.int .u64 (l.getD 0 0)) := hc 0 (by omega)
    have u0 := hU _ (getD_mem (show 0 < l.length by omega))
    have d0 : w.cell? ⟨b, off, none⟩ = some (.int .u64 (l.getD 0 0)) := d0
    have hlen' : (1 : Int) ≤ (l.length : Int) := by omega
    unfold askedS
    rw [if_pos (by decide)]
    generalize l.getD 0 0 = x0 at d0 u0 ⊢
    clear hc hU ha o1 o2 o3 hlen
    by_cases g : 3 < x0
    · rw [if_pos g]
      have e1 : decide (3 < x0) = true := decide_eq_true g
      clear g
      go_enter Try.func43, Try.ntmps43
      go_wp2_with go_quiet (fail)
      go_ret
      first | exact ⟨rfl, Below.refl _ _⟩ | exact ⟨rfl, below_drewN (Below.refl _ _) _⟩
    · rw [if_neg g]
      have e1 : decide (3 < x0) = false := decide_eq_false g
      clear g
      go_enter Try.func43, Try.ntmps43
      go_wp2_with go_quiet (fail)
      go_ret
      first | exact ⟨rfl, Below.refl _ _⟩ | exact ⟨rfl, below_drewN (Below.refl _ _) _⟩
  · have hlen : 1 ≤ l.length := o1 (by decide)
    obtain rfl := ha (by omega)
    have d0 : w.cell? ⟨b, off + 0, none⟩ = some (.int .u64 (l.getD 0 0)) := hc 0 (by omega)
    have u0 := hU _ (getD_mem (show 0 < l.length by omega))
    have d0 : w.cell? ⟨b, off, none⟩ = some (.int .u64 (l.getD 0 0)) := d0
    have hlen' : (1 : Int) ≤ (l.length : Int) := by omega
    unfold askedS
    rw [if_pos (by decide)]
    generalize l.getD 0 0 = x0 at d0 u0 ⊢
    clear hc hU ha o1 o2 o3 hlen
    by_cases g : 3 < x0
    · rw [if_pos g]
      have e1 : decide (3 < x0) = true := decide_eq_true g
      clear g
      go_enter Try.func43, Try.ntmps43
      go_wp2_with go_quiet (fail)
      go_ret
      first | exact ⟨rfl, Below.refl _ _⟩ | exact ⟨rfl, below_drewN (Below.refl _ _) _⟩
    · rw [if_neg g]
      have e1 : decide (3 < x0) = false := decide_eq_false g
      clear g
      go_enter Try.func43, Try.ntmps43
      go_wp2_with go_quiet (fail)
      go_ret
      first | exact ⟨rfl, Below.refl _ _⟩ | exact ⟨rfl, below_drewN (Below.refl _ _) _⟩
  · have hlen : 4 ≤ l.length := o2 rfl
    obtain rfl := ha (by omega)
    have d0 : w.cell? ⟨b, off + 0, none⟩ = some (.int .u64 (l.getD 0 0)) := hc 0 (by omega)
    have u0 := hU _ (getD_mem (show 0 < l.length by omega))
    have d1 : w.cell? ⟨b, off + 1, none⟩ = some (.int .u64 (l.getD 1 0)) := hc 1 (by omega)
    have u1 := hU _ (getD_mem (show 1 < l.length by omega))
    have d2 : w.cell? ⟨b, off + 2, none⟩ = some (.int .u64 (l.getD 2 0)) := hc 2 (by omega)
    have u2 := hU _ (getD_mem (show 2 < l.length by omega))
    have d3 : w.cell? ⟨b, off + 3, none⟩ = some (.int .u64 (l.getD 3 0)) := hc 3 (by omega)
    have u3 := hU _ (getD_mem (show 3 < l.length by omega))
    have d0 : w.cell? ⟨b, off, none⟩ = some (.int .u64 (l.getD 0 0)) := d0
    have hlen' : (4 : Int) ≤ (l.length : Int) := by omega
    unfold askedS
    rw [if_neg (by decide), if_pos rfl]
    have hand := andNot_iff u2.1 u2.2 u3.1 u3.2
    generalize l.getD 0 0 = x0 at d0 u0 ⊢
    generalize l.getD 1 0 = x1 at d1 u1 ⊢
    generalize l.getD 2 0 = x2 at d2 u2 hand ⊢
    generalize l.getD 3 0 = x3 at d3 u3 hand ⊢
    clear hc hU ha o1 o2 o3 hlen
    by_cases g : x0 = 0
    · rw [if_pos g]
      subst g
      clear hand
      go_enter Try.func43, Try.ntmps43
      go_wp2_with go_quiet (fail)
      go_ret
      first | exact ⟨rfl, Below.refl _ _⟩ | exact ⟨rfl, below_drewN (Below.refl _ _) _⟩
    · rw [if_neg g]
      have e1 : (x0 == 0) = false := by simpa using g
      clear g
      by_cases g2 : bits .and .u64 x2 x3 = x2
      · rw [if_neg (by simpa using g2)]
        have e2 : (bits .andNot .u64 x2 x3 != 0) = false := by simpa using hand.2 g2
        clear hand g2
        go_enter Try.func43, Try.ntmps43
        go_wp2_with go_quiet (fail)
        go_ret
        first | exact ⟨rfl, Below.refl _ _⟩ | exact ⟨rfl, below_drewN (Below.refl _ _) _⟩
      · rw [if_pos (by simpa using g2)]
        have e2 : (bits .andNot .u64 x2 x3 != 0) = true := by simpa using (fun h => g2 (hand.1 h))
        clear hand g2
        go_enter Try.func43, Try.ntmps43
        go_wp2_with go_quiet (fail)
        go_ret
        first | exact ⟨rfl, Below.refl _ _⟩ | exact ⟨rfl, below_drewN (Below.refl _ _) _⟩
  · have hlen : 1 ≤ l.length := o1 (by decide)
    obtain rfl := ha (by omega)
    have d0 : w.cell? ⟨b, off + 0, none⟩ = some (.int .u64 (l.getD 0 0)) := hc 0 (by omega)
    have u0 := hU _ (getD_mem (show 0 < l.length by omega))
    have d0 : w.cell? ⟨b, off, none⟩ = some (.int .u64 (l.getD 0 0)) := d0
    have hlen' : (1 : Int) ≤ (l.length : Int) := by omega
    unfold askedS
    rw [if_neg (by decide), if_neg (by decide), if_pos rfl]
    generalize l.getD 0 0 = x0 at d0 u0 ⊢
    clear hc hU ha o1 o2 o3 hlen
    by_cases g : x0 = 0
    · rw [if_pos g]
      subst g
      go_enter Try.func43, Try.ntmps43
      go_wp2_with go_quiet (fail)
      go_ret
      first | exact ⟨rfl, Below.refl _ _⟩ | exact ⟨rfl, below_drewN (Below.refl _ _) _⟩
    · rw [if_neg g]
      have e1 : (x0 == 0) = false := by simpa using g
      clear g
      go_enter Try.func43, Try.ntmps43
      go_wp2_with go_quiet (fail)
      go_ret
      first | exact ⟨rfl, Below.refl _ _⟩ | exact ⟨rfl, below_drewN (Below.refl _ _) _⟩
  · have hlen : 2 ≤ l.length := o3 rfl
    obtain rfl := ha (by omega)
    have d0 : w.cell? ⟨b, off + 0, none⟩ = some (.int .u64 (l.getD 0 0)) := hc 0 (by omega)
    have u0 := hU _ (getD_mem (show 0 < l.length by omega))
    have d1 : w.cell? ⟨b, off + 1, none⟩ = some (.int .u64 (l.getD 1 0)) := hc 1 (by omega)
    have u1 := hU _ (getD_mem (show 1 < l.length by omega))
    have d0 : w.cell? ⟨b, off, none⟩ = some (.int .u64 (l.getD 0 0)) := d0
    have hlen' : (2 : Int) ≤ (l.length : Int) := by omega
    unfold askedS
    rw [if_neg (by decide), if_neg (by decide), if_neg (by decide), if_pos rfl]
    generalize l.getD 0 0 = x0 at d0 u0 ⊢
    generalize l.getD 1 0 = x1 at d1 u1 ⊢
    clear hc hU ha o1 o2 o3 hlen
    by_cases g : 3 < x1
    · rw [if_pos g]
      have e1 : decide (3 < x1) = true := decide_eq_true g
      clear g
      go_enter Try.func43, Try.ntmps43
      go_wp2_with go_quiet (fail)
      go_ret
      first | exact ⟨rfl, Below.refl _ _⟩ | exact ⟨rfl, below_drewN (Below.refl _ _) _⟩
    · rw [if_neg g]
      have e1 : decide (3 < x1) = false := decide_eq_false g
      clear g
      go_enter Try.func43, Try.ntmps43
      go_wp2_with go_quiet (fail)
      go_ret
      first | exact ⟨rfl, Below.refl _ _⟩ | exact ⟨rfl, below_drewN (Below.refl _ _) _⟩
  · have hlen : 1 ≤ l.length := o1 (by decide)
    obtain rfl := ha (by omega)
    have d0 : w.cell? ⟨b, off + 0, none⟩ = some (.int .u64 (l.getD 0 0)) := hc 0 (by omega)
    have u0 := hU _ (getD_mem (show 0 < l.length by omega))
    have d0 : w.cell? ⟨b, off, none⟩ = some (.int .u64 (l.getD 0 0)) := d0
    have hlen' : (1 : Int) ≤ (l.length : Int) := by omega
    unfold askedS
    rw [if_neg (by decide), if_neg (by decide), if_neg (by decide), if_neg (by decide), if_pos (by decide)]
    generalize l.getD 0 0 = x0 at d0 u0 ⊢
    clear hc hU ha o1 o2 o3 hlen
    by_cases g : 3 < x0
    · rw [if_pos g]
      have e1 : decide (3 < x0) = true := decide_eq_true g
      clear g
      go_enter Try.func43, Try.ntmps43
      go_wp2_with go_quiet (fail)
      go_ret
      first | exact ⟨rfl, Below.refl _ _⟩ | exact ⟨rfl, below_drewN (Below.refl _ _) _⟩
    · rw [if_neg g]
      have e1 : decide (3 < x0) = false := decide_eq_false g
      clear g
      go_enter Try.func43, Try.ntmps43
      go_wp2_with go_quiet (fail)
      go_ret
      first | exact ⟨rfl, Below.refl _ _⟩ | exact ⟨rfl, below_drewN (Below.refl _ _) _⟩
  · have hlen : 1 ≤ l.length := o1 (by decide)
    obtain rfl := ha (by omega)
    have d0 : w.cell? ⟨b, off + 0, none⟩ = some (.int .u64 (l.getD 0 0)) := hc 0 (by omega)
    have u0 := hU _ (getD_mem (show 0 < l.length by omega))
    have d0 : w.cell? ⟨b, off, none⟩ = some (.int .u64 (l.getD 0 0)) := d0
    have hlen' : (1 : Int) ≤ (l.length : Int) := by omega
    unfold askedS
    rw [if_neg (by decide), if_neg (by decide), if_neg (by decide), if_neg (by decide), if_pos (by decide)]
    generalize l.getD 0 0 = x0 at d0 u0 ⊢
    clear hc hU ha o1 o2 o3 hlen
    by_cases g : 3 < x0
    · rw [if_pos g]
      have e1 : decide (3 < x0) = true := decide_eq_true g
      clear g
      go_enter Try.func43, Try.ntmps43
      go_wp2_with go_quiet (fail)
      go_ret
      first | exact ⟨rfl, Below.refl _ _⟩ | exact ⟨rfl, below_drewN (Below.refl _ _) _⟩
    · rw [if_neg g]
      have e1 : decide (3 < x0) = false := decide_eq_false g
      clear g
      go_enter Try.func43, Try.ntmps43
      go_wp2_with go_quiet (fail)
      go_ret
      first | exact ⟨rfl, Below.refl _ _⟩ | exact ⟨rfl, below_drewN (Below.refl _ _) _⟩
  · rw [show askedS t l = 0 by simp [askedS, h8, h9, h16, h22, h17, h24, h25]]
    have b8 : (t == 8) = false := by simpa using h8
    have b9 : (t == 9) = false := by simpa using h9
    have b16 : (t == 16) = false := by simpa using h16
    have b22 : (t == 22) = false := by simpa using h22
    have b17 : (t == 17) = false := by simpa using h17
    have b24 : (t == 24) = false := by simpa using h24
    have b25 : (t == 25) = false := by simpa using h25
    clear h8 h9 h16 h22 h17 h24 h25 o1 o2 o3 ha hc hU
    go_enter Try.func43, Try.ntmps43
    go_wp2_with go_quiet (fail)
    go_ret
    first | exact ⟨rfl, Below.refl _ _⟩ | exact ⟨rfl, below_drewN (Below.refl _ _) _⟩

theorem ref_asked22 (t : Int) (v : Value) (l : List Int) (w : World) (h : Ints .u64 w v l) (ho : askedOk t l) :
    Calls Try.prog 47 #[.int .i64 t, v] w fun e w' => e = .returned (.int .i64 (askedS t l)) ∧ Below w.heap.size w w' := by
  have hU := h.u64
  obtain ⟨a, cap, b, off, rfl, -, -, -, ha, hc⟩ := h.open
  obtain ⟨o1, o2, o3⟩ := ho
  clear h
  rcases (show t = 8 ∨ t = 9 ∨ t = 16 ∨ t = 22 ∨ t = 17 ∨ t = 24 ∨ t = 25 ∨ (t ≠ 8 ∧ t ≠ 9 ∧ t ≠ 16 ∧ t ≠ 22 ∧ t ≠ 17 ∧ t ≠ 24 ∧ t ≠ 25) by omega) with rfl | rfl | rfl | rfl | rfl | rfl | rfl | ⟨h8, h9, h16, h22, h17, h24, h25⟩
  · have hlen : 1 ≤ l.length := o1 (by decide)
    obtain rfl := ha (by omega)
    have d0 : w.cell? ⟨b, off + 0, none⟩ = some (.int .u64 (l.getD 0 0)) := hc 0 (by omega)
    have u0 := hU _ (getD_mem (show 0 < l.length by omega))
    have d0 : w.cell? ⟨b, off, none⟩ = some (.int .u64 (l.getD 0 0)) := d0
    have hlen' : (1 : Int) ≤ (l.length : Int) := by omega
    unfold askedS
    rw [if_pos (by decide)]
    generalize l.getD 0 0 = x0 at d0 u0 ⊢
    clear hc hU ha o1 o2 o3 hlen
    by_cases g : 3 < x0
    · rw [if_pos g]
      have e1 : decide (3 < x0) = true := decide_eq_true g
      clear g
      go_enter Try.func47, Try.ntmps47
      go_wp2_with go_quiet (fail)
      go_ret
      first | exact ⟨rfl, Below.refl _ _⟩ | exact ⟨rfl, below_drewN (Below.refl _ _) _⟩
    · rw [if_neg g]
      have e1 : decide (3 < x0) = false := decide_eq_false g
      clear g
      go_enter Try.func47, Try.ntmps47
      go_wp2_with go_quiet (fail)
      go_ret
      first | exact ⟨rfl, Below.refl _ _⟩ | exact ⟨rfl, below_drewN (Below.refl _ _) _⟩
  · have hlen : 1 ≤ l.length := o1 (by decide)
    obtain rfl := ha (by omega)
    have d0 : w.cell? ⟨b, off + 0, none⟩ = some (.int .u64 (l.getD 0 0)) := hc 0 (by omega)
    have u0 := hU _ (getD_mem (show 0 < l.length by omega))
    have d0 : w.cell? ⟨b, off, none⟩ = some (.int .u64 (l.getD 0 0)) := d0
    have hlen' : (1 : Int) ≤ (l.length : Int) := by omega
    unfold askedS
    rw [if_pos (by decide)]
    generalize l.getD 0 0 = x0 at d0 u0 ⊢
    clear hc hU ha o1 o2 o3 hlen
    by_cases g : 3 < x0
    · rw [if_pos g]
      have e1 : decide (3 < x0) = true := decide_eq_true g
      clear g
      go_enter Try.func47, Try.ntmps47
      go_wp2_with go_quiet (fail)
      go_ret
      first | exact ⟨rfl, Below.refl _ _⟩ | exact ⟨rfl, below_drewN (Below.refl _ _) _⟩
    · rw [if_neg g]
      have e1 : decide (3 < x0) = false := decide_eq_false g
      clear g
      go_enter Try.func47, Try.ntmps47
      go_wp2_with go_quiet (fail)
      go_ret
      first | exact ⟨rfl, Below.refl _ _⟩ | exact ⟨rfl, below_drewN (Below.refl _ _) _⟩
  · have hlen : 4 ≤ l.length := o2 rfl
    obtain rfl := ha (by omega)
    have d0 : w.cell? ⟨b, off + 0, none⟩ = some (.int .u64 (l.getD 0 0)) := hc 0 (by omega)
    have u0 := hU _ (getD_mem (show 0 < l.length by omega))
    have d1 : w.cell? ⟨b, off + 1, none⟩ = some (.int .u64 (l.getD 1 0)) := hc 1 (by omega)
    have u1 := hU _ (getD_mem (show 1 < l.length by omega))
    have d2 : w.cell? ⟨b, off + 2, none⟩ = some (.int .u64 (l.getD 2 0)) := hc 2 (by omega)
    have u2 := hU _ (getD_mem (show 2 < l.length by omega))
    have d3 : w.cell? ⟨b, off + 3, none⟩ = some (.int .u64 (l.getD 3 0)) := hc 3 (by omega)
    have u3 := hU _ (getD_mem (show 3 < l.length by omega))
    have d0 : w.cell? ⟨b, off, none⟩ = some (.int .u64 (l.getD 0 0)) := d0
    have hlen' : (4 : Int) ≤ (l.length : Int) := by omega
    unfold askedS
    rw [if_neg (by decide), if_pos rfl]
    have hand := andNot_iff u2.1 u2.2 u3.1 u3.2
    generalize l.getD 0 0 = x0 at d0 u0 ⊢
    generalize l.getD 1 0 = x1 at d1 u1 ⊢
    generalize l.getD 2 0 = x2 at d2 u2 hand ⊢
    generalize l.getD 3 0 = x3 at d3 u3 hand ⊢
    clear hc hU ha o1 o2 o3 hlen
    by_cases g : x0 = 0
    · rw [if_pos g]
      subst g
      clear hand
      go_enter Try.func47, Try.ntmps47
      go_wp2_with go_quiet (fail)
      go_ret
      first | exact ⟨rfl, Below.refl _ _⟩ | exact ⟨rfl, below_drewN (Below.refl _ _) _⟩
    · rw [if_neg g]
      have e1 : (x0 == 0) = false := by simpa using g
      clear g
      by_cases g2 : bits .and .u64 x2 x3 = x2
      · rw [if_neg (by simpa using g2)]
        have e2 : (bits .and .u64 x2 x3 != x2) = false := by simpa using g2
        clear hand g2
        go_enter Try.func47, Try.ntmps47
        go_wp2_with go_quiet (fail)
        go_ret
        first | exact ⟨rfl, Below.refl _ _⟩ | exact ⟨rfl, below_drewN (Below.refl _ _) _⟩
      · rw [if_pos (by simpa using g2)]
        have e2 : (bits .and .u64 x2 x3 != x2) = true := by simpa using g2
        clear hand g2
        go_enter Try.func47, Try.ntmps47
        go_wp2_with go_quiet (fail)
        go_ret
        first | exact ⟨rfl, Below.refl _ _⟩ | exact ⟨rfl, below_drewN (Below.refl _ _) _⟩
  · have hlen : 1 ≤ l.length := o1 (by decide)
    obtain rfl := ha (by omega)
    have d0 : w.cell? ⟨b, off + 0, none⟩ = some (.int .u64 (l.getD 0 0)) := hc 0 (by omega)
    have u0 := hU _ (getD_mem (show 0 < l.length by omega))
    have d0 : w.cell? ⟨b, off, none⟩ = some (.int .u64 (l.getD 0 0)) := d0
    have hlen' : (1 : Int) ≤ (l.length : Int) := by omega
    unfold askedS
    rw [if_neg (by decide), if_neg (by decide), if_pos rfl]
    generalize l.getD 0 0 = x0 at d0 u0 ⊢
    clear hc hU ha o1 o2 o3 hlen
    by_cases g : x0 = 0
    · rw [if_pos g]
      subst g
      go_enter Try.func47, Try.ntmps47
      go_wp2_with go_quiet (fail)
      go_ret
      first | exact ⟨rfl, Below.refl _ _⟩ | exact ⟨rfl, below_drewN (Below.refl _ _) _⟩
    · rw [if_neg g]
      have e1 : (x0 == 0) = false := by simpa using g
      clear g
      go_enter Try.func47, Try.ntmps47
      go_wp2_with go_quiet (fail)
      go_ret
      first | exact ⟨rfl, Below.refl _ _⟩ | exact ⟨rfl, below_drewN (Below.refl _ _) _⟩
  · have hlen : 2 ≤ l.length := o3 rfl
    obtain rfl := ha (by omega)
    have d0 : w.cell? ⟨b, off + 0, none⟩ = some (.int .u64 (l.getD 0 0)) := hc 0 (by omega)
    have u0 := hU _ (getD_mem (show 0 < l.length by omega))
    have d1 : w.cell? ⟨b, off + 1, none⟩ = some (.int .u64 (l.getD 1 0)) := hc 1 (by omega)
    have u1 := hU _ (getD_mem (show 1 < l.length by omega))
    have d0 : w.cell? ⟨b, off, none⟩ = some (.int .u64 (l.getD 0 0)) := d0
    have hlen' : (2 : Int) ≤ (l.length : Int) := by omega
    unfold askedS
    rw [if_neg (by decide), if_neg (by decide), if_neg (by decide), if_pos rfl]
    generalize l.getD 0 0 = x0 at d0 u0 ⊢
    generalize l.getD 1 0 = x1 at d1 u1 ⊢
    clear hc hU ha o1 o2 o3 hlen
    by_cases g : 3 < x1
    · rw [if_pos g]
      have e1 : decide (3 < x1) = true := decide_eq_true g
      clear g
      go_enter Try.func47, Try.ntmps47
      go_wp2_with go_quiet (fail)
      go_ret
      first | exact ⟨rfl, Below.refl _ _⟩ | exact ⟨rfl, below_drewN (Below.refl _ _) _⟩
    · rw [if_neg g]
      have e1 : decide (3 < x1) = false := decide_eq_false g
      clear g
      go_enter Try.func47, Try.ntmps47
      go_wp2_with go_quiet (fail)
      go_ret
      first | exact ⟨rfl, Below.refl _ _⟩ | exact ⟨rfl, below_drewN (Below.refl _ _) _⟩
  · have hlen : 1 ≤ l.length := o1 (by decide)
    obtain rfl := ha (by omega)
    have d0 : w.cell? ⟨b, off + 0, none⟩ = some (.int .u64 (l.getD 0 0)) := hc 0 (by omega)
    have u0 := hU _ (getD_mem (show 0 < l.length by omega))
    have d0 : w.cell? ⟨b, off, none⟩ = some (.int .u64 (l.getD 0 0)) := d0
    have hlen' : (1 : Int) ≤ (l.length : Int) := by omega
    unfold askedS
    rw [if_neg (by decide), if_neg (by decide), if_neg (by decide), if_neg (by decide), if_pos (by decide)]
    generalize l.getD 0 0 = x0 at d0 u0 ⊢
    clear hc hU ha o1 o2 o3 hlen
    by_cases g : 3 < x0
    · rw [if_pos g]
      have e1 : decide (3 < x0) = true := decide_eq_true g
      clear g
      go_enter Try.func47, Try.ntmps47
      go_wp2_with go_quiet (fail)
      go_ret
      first | exact ⟨rfl, Below.refl _ _⟩ | exact ⟨rfl, below_drewN (Below.refl _ _) _⟩
    · rw [if_neg g]
      have e1 : decide (3 < x0) = false := decide_eq_false g
      clear g
      go_enter Try.func47, Try.ntmps47
      go_wp2_with go_quiet (fail)
      go_ret
      first | exact ⟨rfl, Below.refl _ _⟩ | exact ⟨rfl, below_drewN (Below.refl _ _) _⟩
  · have hlen : 1 ≤ l.length := o1 (by decide)
    obtain rfl := ha (by omega)
    have d0 : w.cell? ⟨b, off + 0, none⟩ = some (.int .u64 (l.getD 0 0)) := hc 0 (by omega)
    have u0 := hU _ (getD_mem (show 0 < l.length by omega))
    have d0 : w.cell? ⟨b, off, none⟩ = some (.int .u64 (l.getD 0 0)) := d0
    have hlen' : (1 : Int) ≤ (l.length : Int) := by omega
    unfold askedS
    rw [if_neg (by decide), if_neg (by decide), if_neg (by decide), if_neg (by decide), if_pos (by decide)]
    generalize l.getD 0 0 = x0 at d0 u0 ⊢
    clear hc hU ha o1 o2 o3 hlen
    by_cases g : 3 < x0
    · rw [if_pos g]
      have e1 : decide (3 < x0) = true := decide_eq_true g
      clear g
      go_enter Try.func47, Try.ntmps47
      go_wp2_with go_quiet (fail)
      go_ret
      first | exact ⟨rfl, Below.refl _ _⟩ | exact ⟨rfl, below_drewN (Below.refl _ _) _⟩
    · rw [if_neg g]
      have e1 : decide (3 < x0) = false := decide_eq_false g
      clear g
      go_enter Try.func47, Try.ntmps47
      go_wp2_with go_quiet (fail)
      go_ret
      first | exact ⟨rfl, Below.refl _ _⟩ | exact ⟨rfl, below_drewN (Below.refl _ _) _⟩
  · rw [show askedS t l = 0 by simp [askedS, h8, h9, h16, h22, h17, h24, h25]]
    have b8 : (t == 8) = false := by simpa using h8
    have b9 : (t == 9) = false := by simpa using h9
    have b16 : (t == 16) = false := by simpa using h16
    have b22 : (t == 22) = false := by simpa using h22
    have b17 : (t == 17) = false := by simpa using h17
    have b24 : (t == 24) = false := by simpa using h24
    have b25 : (t == 25) = false := by simpa using h25
    clear h8 h9 h16 h22 h17 h24 h25 o1 o2 o3 ha hc hU
    go_enter Try.func47, Try.ntmps47
    go_wp2_with go_quiet (fail)
    go_ret
    first | exact ⟨rfl, Below.refl _ _⟩ | exact ⟨rfl, below_drewN (Below.refl _ _) _⟩

end Go.Proofs.Ytfaklenclhljhaa
