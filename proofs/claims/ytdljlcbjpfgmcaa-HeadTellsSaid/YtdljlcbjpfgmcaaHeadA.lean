/- The walks of head.Least, head.Answer and head.Check. Conditions: none. -/
import Derived.Test.YtdljlcbjpfgmcaaSure02
import Derived.Great.BuildSlice
namespace Go.Proofs.Ytdljlcbjpfgmcaa
open Go.RowKit
set_option maxRecDepth 100000
set_option maxHeartbeats 4000000

def leasts : List Int := [8, 12, 8, 8, 16, 8, 32, 8, 12, 12, 34, 56, 80, 24, 56, 16, 40, 16, 16, 16, 8, 8, 16, 16, 24, 24, 8, 32, 32, 16]
def leastS (t : Int) : Int := if t < 0 then 0 else leasts.getD t.toNat 0
def leastsV : Array Value := (leasts.map (Value.int .i64)).toArray

theorem alloc_setRow (w : World) (cs cs' : Array Value) (t : TypeId) : (w.alloc (.cells cs t)).setRow w.heap.size cs' = w.alloc (.cells cs' t) := by
  show ({ w with heap := (w.heap.push _).modify w.heap.size _ } : World) = { w with heap := w.heap.push _ }
  congr 1
  apply Array.ext
  · simp
  · intro i h1 h2
    rw [Array.getElem_modify]
    by_cases h : w.heap.size = i
    · subst h; simp
    · rw [if_neg h]
      have : i < w.heap.size := by simp at h2; omega
      rw [Array.getElem_push_lt this, Array.getElem_push_lt this]

theorem cell_leasts {w : World} {k : Nat} (hk : k < 30) : (w.alloc (.cells leastsV 95)).cell? ⟨w.heap.size, k, none⟩ = some (.int .i64 (leastS k)) := by
  have h1 : leastS (k : Int) = leasts.getD k 0 := by rw [leastS, if_neg (by omega)]; rfl
  rw [h1]
  simp only [World.cell?, heap_alloc_new, leastsV]
  have : k < leasts.length := hk
  simp [this]

theorem cell_new (w : World) (cs : Array Value) (t : TypeId) (i : Nat) : (w.alloc (.cells cs t)).cell? ⟨w.heap.size, i, none⟩ = cs[i]? := by
  simp only [World.cell?, heap_alloc_new]
  rfl

theorem head_least (t : Int) (w : World) :
    Calls Try.prog 29 #[.int .i64 t] w fun e w' => e = .returned (.int .i64 (leastS t)) ∧ Below w.heap.size w w' := by
  by_cases h0 : t < 0
  · go_enter Try.func29, Try.ntmps29
    go_wp2_with (first
      | (refine wpList_buildTo rfl 95 _ rfl (some 4) rfl leastsV (by kernel_rfl) ?_)
      | (refine wpList_store_rowTo rfl 95 _ _ rfl rfl w.heap.size leastsV rfl rfl _ _ (heap_alloc_new _ _) (by kernel_rfl) (by kernel_rfl) (by kernel_rfl) ?_; rw [alloc_setRow]))
    go_ret
    refine ⟨?_, below_alloc2 _⟩
    rw [leastS, if_pos h0]; rfl
  · obtain ⟨k, rfl⟩ : ∃ k : Nat, t = k := ⟨t.toNat, by omega⟩
    by_cases h1 : 30 ≤ k
    · go_enter Try.func29, Try.ntmps29
      go_wp2_with (first
        | (refine wpList_buildTo rfl 95 _ rfl (some 4) rfl leastsV (by kernel_rfl) ?_)
        | (refine wpList_store_rowTo rfl 95 _ _ rfl rfl w.heap.size leastsV rfl rfl _ _ (heap_alloc_new _ _) (by kernel_rfl) (by kernel_rfl) (by kernel_rfl) ?_; rw [alloc_setRow]))
      go_ret
      refine ⟨?_, below_alloc2 _⟩
      rw [leastS, if_neg (by omega), List.getD_eq_getElem?_getD, List.getElem?_eq_none (by simp [leasts]; omega)]; rfl
    · have HC := Lib.hid (cell_leasts (w := w) (k := k) (by omega))
      go_enter Try.func29, Try.ntmps29
      go_wp2_with (first
        | (refine wpList_buildTo rfl 95 _ rfl (some 4) rfl leastsV (by kernel_rfl) ?_)
        | (refine wpList_store_rowTo rfl 95 _ _ rfl rfl w.heap.size leastsV rfl rfl _ _ (heap_alloc_new _ _) (by kernel_rfl) (by kernel_rfl) (by kernel_rfl) ?_; rw [alloc_setRow]; have hc := HC.out; have HB : Hid (Below w.heap.size w (w.alloc (.cells leastsV 95))) := below_alloc2 _; generalize w.alloc (.cells leastsV 95) = w1 at hc HB ⊢))
      go_ret
      exact ⟨rfl, HB.out⟩

def answerS (t : Int) : Int × Bool := if t = 5 ∨ t = 7 ∨ t = 2 ∨ t = 18 ∨ t = 20 ∨ t = 22 ∨ t = 24 ∨ t = 26 then (t + 1, true) else (0, false)

theorem head_answer (t : Int) (w : World) :
    Calls Try.prog 30 #[.int .i64 t] w fun e w' => e = .returned (.tuple #[.int .i64 (answerS t).1, .bool (answerS t).2]) ∧ w = w' := by
  rcases (show t = 5 ∨ t = 7 ∨ t = 2 ∨ t = 18 ∨ t = 20 ∨ t = 22 ∨ t = 24 ∨ t = 26 ∨ (t ≠ 5 ∧ t ≠ 7 ∧ t ≠ 2 ∧ t ≠ 18 ∧ t ≠ 20 ∧ t ≠ 22 ∧ t ≠ 24 ∧ t ≠ 26) by omega) with rfl | rfl | rfl | rfl | rfl | rfl | rfl | rfl | ⟨h0, h1, h2, h3, h4, h5, h6, h7⟩
  case inr.inr.inr.inr.inr.inr.inr.inr =>
    have e0 : answerS t = (0, false) := by rw [answerS, if_neg (by omega)]
    rw [e0]
    go_enter Try.func30, Try.ntmps30
    go_wp2
    go_ret2
    exact ⟨rfl, rfl⟩
  all_goals
    go_enter Try.func30, Try.ntmps30
    go_wp2
    go_ret2
    exact ⟨rfl, rfl⟩

def checkL (v t n l : Int) : Int :=
  if v ≠ 4 ∧ ¬ (t = 0 ∧ 1 ≤ v ∧ v ≤ 255) then 257
  else if l = 0 then 258
  else if n < l ∨ 65535 < n then 263
  else 0
def checkS (v t n : Int) : Int := checkL v t n (leastS t)

theorem head_check (v t n x : Int) (w : World) :
    Calls Try.prog 31 #[.agg #[.int .i64 v, .int .i64 t, .int .i64 n, .int .u32 x]] w fun e w' => e = .returned (.int .i64 (checkS v t n)) ∧ Below w.heap.size w w' := by
  unfold checkS
  have HL := fun w => Lib.hid (head_least t w)
  generalize leastS t = l at HL ⊢
  go_enter Try.func31, Try.ntmps31
  go_wp2_with (go_at_call 29; (with_reducible refine (HL _).out.mono ?_); rintro e w1 ⟨rfl, hb⟩; have c0 : w1.cell? ⟨w.heap.size, 0, none⟩ = some (.int .i64 v) := (hb.cell (p := ⟨w.heap.size, 0, none⟩) (by simp)).trans (cell_new _ _ _ _); have c1 : w1.cell? ⟨w.heap.size, 1, none⟩ = some (.int .i64 t) := (hb.cell (p := ⟨w.heap.size, 1, none⟩) (by simp)).trans (cell_new _ _ _ _); have c2 : w1.cell? ⟨w.heap.size, 2, none⟩ = some (.int .i64 n) := (hb.cell (p := ⟨w.heap.size, 2, none⟩) (by simp)).trans (cell_new _ _ _ _); have HB : Hid (Below w.heap.size w w1) := below1 hb; clear hb)
  all_goals go_ret
  all_goals refine ⟨?_, HB.out⟩
  all_goals (unfold checkL; (repeat' split) <;> first | rfl | (exfalso; simp only [beq_iff_eq, beq_eq_false_iff_ne, bne_iff_ne, ne_eq, decide_eq_true_eq, Bool.not_eq_eq_eq_not, Bool.not_true, Bool.not_false, decide_eq_false_iff_not, bne_eq_false_iff_eq, not_true_eq_false, false_and, true_and] at * <;> omega))
end Go.Proofs.Ytdljlcbjpfgmcaa
