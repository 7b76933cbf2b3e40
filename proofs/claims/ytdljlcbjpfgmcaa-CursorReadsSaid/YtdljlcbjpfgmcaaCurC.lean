/- The walk of the cursor's Num; Err, Num and Sub of no cursor. Conditions: the receiver is a cursor that New has made, or nil. -/
import Derived.Test.YtdljlcbjpfgmcaaCurB
namespace Go.Proofs.Ytdljlcbjpfgmcaa
open Go.RowKit
set_option maxRecDepth 100000
set_option maxHeartbeats 4000000

/-- What Num hands back. -/
def GotNum (B : Nat × Nat) (w : World) (p : Nat) (s : St) (n : Int) (e : Ending) (w' : World) : Prop :=
  e = .returned (.int .u64 n) ∧ Cur B w' p s ∧ w.grownBy w' (some p)

theorem num_bad {s : St} {n : Int} (h : n < 1 ∨ 8 < n) : s.num n = (s.fail 10001, 0) := by rw [St.num, if_pos h]
theorem num_good {s : St} {n : Int} (h1 : 1 ≤ n) (h2 : n ≤ 8) : s.num n = ((s.row [n]).1, (s.row [n]).2.getD 0 0) := by rw [St.num, if_neg (by omega)]

theorem row_u64 {s : St} {ws : List Int} (h : s.ok) : U64 (s.row ws).2 := by
  have hu : U8 s.rest := fun z hz => h.2 z (List.mem_of_mem_drop hz)
  have h0 : U64 [] := fun z hz => by simp at hz
  unfold St.row
  split
  · exact h0
  · split
    · exact h0
    · split
      · exact h0
      · exact getS_u64 hu

/-- The first of what a call handed back. -/
theorem own_first {w : World} {base e : Nat} {k : IntKind} {v : Value} {x : Int} {l : List Int} (h : w.ownsRow base e 1 v (x :: l).length ((x :: l).map (Value.int k))) (hw : ∀ z ∈ x :: l, (Lit.int k z).wf = true) :
    ∃ b off cap, v = .slice (some ⟨b, off, none⟩) (x :: l).length cap ∧ w.cell? ⟨b, off, none⟩ = some (.int k x) := by
  obtain ⟨a, cap, b, off, rfl, -, -, -, h1, h2⟩ := (Ints.of_own h hw).open
  obtain rfl := h1 (by simp)
  exact ⟨b, off, cap, rfl, by have := h2 0 (by simp); simpa using this⟩

theorem cur_num {B : Nat × Nat} {p : Nat} {s : St} {w : World} (h : Cur B w p s) (n : Int) (hn : (Lit.int .i64 n).wf = true) :
    Calls Try.prog 39 #[.pointer (some ⟨p, 0, none⟩), .int .i64 n] w (GotNum B w p (s.num n).1 (s.num n).2) := by
  rcases (show n < 1 ∨ (¬ n < 1 ∧ 8 < n) ∨ (¬ n < 1 ∧ ¬ 8 < n) by omega) with h0 | ⟨h0, h1⟩ | ⟨h0, h1⟩
  · have HF := Lib.hid (cur_fail h 10001)
    clear h hn
    go_enter Try.func39, Try.ntmps39
    go_wp2_with (go_at_call 71; (with_reducible refine HF.out.mono ?_); rintro e1 w1 ⟨rfl, hc1, hg1⟩; have HC1 := Lib.hid hc1; have HG1 := Lib.hid hg1; clear hc1 hg1)
    go_ret
    rw [num_bad (.inl h0)]
    exact ⟨rfl, HC1.out, HG1.out⟩
  · have HF := Lib.hid (cur_fail h 10001)
    clear h hn
    go_enter Try.func39, Try.ntmps39
    go_wp2_with (go_at_call 71; (with_reducible refine HF.out.mono ?_); rintro e1 w1 ⟨rfl, hc1, hg1⟩; have HC1 := Lib.hid hc1; have HG1 := Lib.hid hg1; clear hc1 hg1)
    go_ret
    rw [num_bad (.inr h1)]
    exact ⟨rfl, HC1.out, HG1.out⟩
  · have hlit : Ints .i64 (w.alloc (.cells #[.int .i64 n] 3)) (.slice (some ⟨w.heap.size, 0, none⟩) 1 1) [n] :=
      Ints.lit .i64 w 3 [n] _ rfl (by simp) (by simpa using hn)
    have HR := cur_row (h.below (below_alloc2 _)) _ [n] hlit
    have hU : U64 (s.row [n]).2 := row_u64 h.ok
    have hN : s.num n = ((s.row [n]).1, (s.row [n]).2.getD 0 0) := num_good (by omega) (by omega)
    have HLt := Lib.hid h.lt
    generalize (s.row [n]).1 = s' at HR hN
    generalize (s.row [n]).2 = l at HR hN hU
    rw [hN]
    clear h hn hlit hN
    have HR := Lib.hid HR
    cases l with
    | nil =>
      clear hU
      go_enter Try.func39, Try.ntmps39
      go_wp2_with (go_at_call 67; (with_reducible refine HR.out.mono ?_); rintro e1 w1 ⟨v1, rfl, ho1, hc1, hg1⟩; obtain ⟨a1, cap1, rfl⟩ := own_slice ho1; have HO1 := Lib.hid ho1; have HC1 := Lib.hid hc1; have HG1 := Lib.hid hg1; clear ho1 hc1 hg1)
      go_ret
      exact ⟨rfl, HC1.out, grown_trans (grown_of_below (below_alloc2 _) _) HG1.out⟩
    | cons x l =>
      have HU := Lib.hid hU
      clear hU
      go_enter Try.func39, Try.ntmps39
      go_wp2_with (go_at_call 67; (with_reducible refine HR.out.mono ?_); rintro e1 w1 ⟨v1, rfl, ho1, hc1, hg1⟩; obtain ⟨b1, off1, cap1, rfl, d0⟩ := own_first ho1 HU.out.wf; have HC1 := Lib.hid hc1; have HG1 := Lib.hid hg1; clear ho1 hc1 hg1)
      go_ret
      exact ⟨rfl, HC1.out, grown_trans (grown_of_below (below_alloc2 _) _) HG1.out⟩

theorem nil_none {w : World} : Calls Try.prog 70 #[.pointer none] w fun e w' => e = .returned (.bool true) ∧ w = w' := by
  go_enter Try.func70, Try.ntmps70
  go_wp2
  go_ret
  exact ⟨rfl, rfl⟩
theorem nil_err {w : World} : Calls Try.prog 36 #[.pointer none] w fun e w' => e = .returned (.int .i64 10001) ∧ w = w' := by
  go_enter Try.func36, Try.ntmps36
  go_wp2_with ((go_at_call 70; (with_reducible refine nil_none.mono ?_); rintro e1 w1 ⟨rfl, rfl⟩))
  go_ret
  exact ⟨rfl, rfl⟩
theorem nil_fail {w : World} (x : Int) : Calls Try.prog 71 #[.pointer none, .int .i64 x] w fun e w' => e = .returned (.tuple #[]) ∧ w = w' := by
  go_enter Try.func71, Try.ntmps71
  go_wp2_with ((go_at_call 70; (with_reducible refine nil_none.mono ?_); rintro e1 w1 ⟨rfl, rfl⟩))
  go_end0
  exact ⟨rfl, rfl⟩
theorem nil_left {w : World} : Calls Try.prog 37 #[.pointer none] w fun e w' => e = .returned (.int .i64 0) ∧ w = w' := by
  go_enter Try.func37, Try.ntmps37
  go_wp2_with ((go_at_call 70; (with_reducible refine nil_none.mono ?_); rintro e1 w1 ⟨rfl, rfl⟩))
  go_ret
  exact ⟨rfl, rfl⟩
theorem nil_row {v : Value} {w : World} : Calls Try.prog 67 #[.pointer none, v] w fun e w' => e = .returned (.slice none 0 0) ∧ w = w' := by
  go_enter Try.func67, Try.ntmps67
  go_wp2_with ((go_at_call 36; (with_reducible refine nil_err.mono ?_); rintro e1 w1 ⟨rfl, rfl⟩))
  go_ret
  exact ⟨rfl, rfl⟩
theorem nil_num {w : World} : Calls Try.prog 39 #[.pointer none, .int .i64 1] w fun e w' => e = .returned (.int .u64 0) ∧ Below w.heap.size w w' := by
  go_enter Try.func39, Try.ntmps39
  go_wp2_with ((go_at_call 67; (with_reducible refine nil_row.mono ?_); rintro e1 w1 ⟨rfl, rfl⟩))
  go_ret
  exact ⟨rfl, below_alloc2 _⟩
theorem nil_take {w : World} : Calls Try.prog 69 #[.pointer none, .int .i64 0] w fun e w' => e = .returned (.tuple #[.slice none 0 0, .bool false]) ∧ w = w' := by
  go_enter Try.func69, Try.ntmps69
  go_wp2_with (first
    | (go_at_call 37; (with_reducible refine nil_left.mono ?_); rintro e1 w1 ⟨rfl, rfl⟩)
    | (go_at_call 36; (with_reducible refine nil_err.mono ?_); rintro e1 w1 ⟨rfl, rfl⟩))
  go_ret2
  exact ⟨rfl, rfl⟩
theorem nil_sub {w : World} (sh od : Int) : Calls Try.prog 35 #[.pointer none, .int .i64 0, .int .i64 sh, .int .i64 od] w fun e w' => e = .returned (.pointer none) ∧ w = w' := by
  go_enter Try.func35, Try.ntmps35
  go_wp2_with ((go_at_call 69; (with_reducible refine nil_take.mono ?_); rintro e1 w1 ⟨rfl, rfl⟩))
  go_ret
  exact ⟨rfl, rfl⟩

end Go.Proofs.Ytdljlcbjpfgmcaa
