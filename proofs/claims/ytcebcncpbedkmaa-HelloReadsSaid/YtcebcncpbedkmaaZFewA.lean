/- The walks of the document's Few of a field, an act, and lists of these: each answers something. Conditions: the argument fits its type. -/
import Derived.Test.YtcebcncpbedkmaaZFit
import Derived.Test.YtcebcncpbedkmaaZRowE
namespace Go.Proofs.Ytcebcncpbedkmaa
open Go.RowKit
set_option maxRecDepth 100000
set_option maxHeartbeats 4000000

theorem since_cell {w w' : World} {p : Addr} {v : Value} (hb : Below w.heap.size w w') (h : w.cell? p = some v) : w'.cell? p = some v :=
  (hb.cell (World.block_lt_of_cell? _ _ h)).trans h

theorem heap_cell {w : World} {g : Nat} {cs : Array Value} {t : TypeId} {fr : Nat × Nat} (h : w.heap[g]? = some (.cells cs t fr)) (i : Nat) : w.cell? ⟨g, i, none⟩ = cs[i]? := by
  simp only [World.cell?, h]
  rfl

/-- A yes or a no. -/
def YesNo (e : Ending) : Prop := ∃ b, e = .returned (.bool b)
/-- A call that answers yes or no. -/
abbrev Says (f : FuncId) (v : Value) (w : World) : Prop := Calls Try.prog f #[v] w fun e w' => YesNo e ∧ Below w.heap.size w w'

theorem few08 (u0 u1 u2 u3 u4 u5 : Value) (w : World) (h4 : Fit Try.prog w 24 u4) (h5 : Fit Try.prog w 24 u5) : Says 48 (.agg #[u0, u1, u2, u3, u4, u5]) w := by
  obtain ⟨a4, n4, c4, rfl, -⟩ := h4.slice Try.underlying24
  obtain ⟨a5, n5, c5, rfl, -⟩ := h5.slice Try.underlying24
  clear h4 h5
  go_enter Try.func48, Try.ntmps48
  go_wp2
  all_goals (go_ret; exact ⟨⟨_, rfl⟩, below_alloc2 _⟩)

theorem few12 (u0 u1 u2 u3 u4 u5 u6 u7 u8 u9 : Value) (w : World) (h7 : Fit Try.prog w 24 u7) (h8 : Fit Try.prog w 24 u8) (h9 : Fit Try.prog w 24 u9) : Says 49 (.agg #[u0, u1, u2, u3, u4, u5, u6, u7, u8, u9]) w := by
  obtain ⟨a9, n9, c9, rfl, -⟩ := h9.slice Try.underlying24
  have HF : ∀ w', Below w.heap.size w w' → Hid (Says 48 (.agg #[u3, u4, u5, u6, u7, u8]) w') := fun w' hb => few08 u3 u4 u5 u6 u7 u8 w' (h7.since hb) (h8.since hb)
  clear h7 h8 h9
  go_enter Try.func49, Try.ntmps49
  go_wp2_with (go_at_call 48; (with_reducible refine (HF _ (below_alloc2 _)).out.mono ?_); rintro e w1 ⟨⟨b, rfl⟩, hb⟩; have HB := Lib.hid (below1 hb); have HH := Lib.hid ((hb.block w.heap.size (by simp)).trans (heap_alloc_new _ _)); have C9 := heap_cell HH.out 9; clear hb; cases b)
  all_goals (go_ret; exact ⟨⟨_, rfl⟩, HB.out⟩)

theorem few09 (v : Value) (w : World) (h : Fit Try.prog w 26 v) : Says 17 v w := by
  obtain ⟨a, n, cap, b, off, u, rfl, hc1, hc2, ha, hcell, hfit⟩ := h.opens Try.underlying26 (C := 6) (by kernel_rfl) (by decide)
  have HA := Lib.hid ha
  have HC := Lib.hid hcell
  have HF := Lib.hid hfit
  clear ha hcell hfit h
  have hle : n ≤ 9223372036854775807 := by unfold maxLen at hc2; omega
  go_enter Try.func17, Try.ntmps17
  go_wp2
  go_loopw [2, 3] (fun r i wi => ∃ (k : Nat), k ≤ n ∧ i = .int .i64 k ∧ r = .bool false ∧ Hid (Below w.heap.size w wi)) (fun _ i _ => n - (intOf i).toNat)
  case atStart => exact ⟨0, Nat.zero_le _, rfl, rfl, Below.refl _ _⟩
  case round =>
    obtain ⟨k, hk, rfl, rfl, HB⟩ := hrel
    by_cases hlt : k < n
    · obtain rfl := HA.out (by omega)
      have hc := HC.out k
      have hf := HF.out k hlt
      have c0 := since_cell HB.out (hc 0 hlt (by omega))
      have c1 := since_cell HB.out (hc 1 hlt (by omega))
      have c2 := since_cell HB.out (hc 2 hlt (by omega))
      have c3 := since_cell HB.out (hc 3 hlt (by omega))
      have c4 := since_cell HB.out (hc 4 hlt (by omega))
      have c5 := since_cell HB.out (hc 5 hlt (by omega))
      rw [Nat.add_zero] at c0
      clear hc
      have f4 := (hf 4 24 (by kernel_rfl) (by kernel_rfl)).since HB.out
      have f5 := (hf 5 24 (by kernel_rfl) (by kernel_rfl)).since HB.out
      clear hf
      have hlt' : (k : Int) < n := by omega
      go_wp2_with (go_at_call 48; (with_reducible refine (few08 _ _ _ _ _ _ _ f4 f5).mono ?_); rintro e w1 ⟨⟨b, rfl⟩, hb⟩; have HB2 := Lib.hid (HB.out.trans (hb.mono HB.out.size)); clear hb; cases b)
      all_goals first
        | (go_ret; exact ⟨⟨_, rfl⟩, HB2.out⟩)
        | (go_roundw; (case rel => exact ⟨k + 1, by omega, by go_num, rfl, HB2.out⟩); (case measure => simp [intOf]; omega))
    · obtain rfl : k = n := by omega
      go_wp2_with fail
      all_goals (go_ret; exact ⟨⟨_, rfl⟩, HB.out⟩)

theorem few13 (v : Value) (w : World) (h : Fit Try.prog w 27 v) : Says 18 v w := by
  obtain ⟨a, n, cap, b, off, u, rfl, hc1, hc2, ha, hcell, hfit⟩ := h.opens Try.underlying27 (C := 10) (by kernel_rfl) (by decide)
  have HA := Lib.hid ha
  have HC := Lib.hid hcell
  have HF := Lib.hid hfit
  clear ha hcell hfit h
  have hle : n ≤ 9223372036854775807 := by unfold maxLen at hc2; omega
  go_enter Try.func18, Try.ntmps18
  go_wp2
  go_loopw [2, 3] (fun r i wi => ∃ (k : Nat), k ≤ n ∧ i = .int .i64 k ∧ r = .bool false ∧ Hid (Below w.heap.size w wi)) (fun _ i _ => n - (intOf i).toNat)
  case atStart => exact ⟨0, Nat.zero_le _, rfl, rfl, Below.refl _ _⟩
  case round =>
    obtain ⟨k, hk, rfl, rfl, HB⟩ := hrel
    by_cases hlt : k < n
    · obtain rfl := HA.out (by omega)
      have hc := HC.out k
      have hf := HF.out k hlt
      have c0 := since_cell HB.out (hc 0 hlt (by omega))
      have c1 := since_cell HB.out (hc 1 hlt (by omega))
      have c2 := since_cell HB.out (hc 2 hlt (by omega))
      have c3 := since_cell HB.out (hc 3 hlt (by omega))
      have c4 := since_cell HB.out (hc 4 hlt (by omega))
      have c5 := since_cell HB.out (hc 5 hlt (by omega))
      have c6 := since_cell HB.out (hc 6 hlt (by omega))
      have c7 := since_cell HB.out (hc 7 hlt (by omega))
      have c8 := since_cell HB.out (hc 8 hlt (by omega))
      have c9 := since_cell HB.out (hc 9 hlt (by omega))
      rw [Nat.add_zero] at c0
      clear hc
      have f7 := (hf 7 24 (by kernel_rfl) (by kernel_rfl)).since HB.out
      have f8 := (hf 8 24 (by kernel_rfl) (by kernel_rfl)).since HB.out
      have f9 := (hf 9 24 (by kernel_rfl) (by kernel_rfl)).since HB.out
      clear hf
      have hlt' : (k : Int) < n := by omega
      go_wp2_with (go_at_call 49; (with_reducible refine (few12 _ _ _ _ _ _ _ _ _ _ _ f7 f8 f9).mono ?_); rintro e w1 ⟨⟨b, rfl⟩, hb⟩; have HB2 := Lib.hid (HB.out.trans (hb.mono HB.out.size)); clear hb; cases b)
      all_goals first
        | (go_ret; exact ⟨⟨_, rfl⟩, HB2.out⟩)
        | (go_roundw; (case rel => exact ⟨k + 1, by omega, by go_num, rfl, HB2.out⟩); (case measure => simp [intOf]; omega))
    · obtain rfl : k = n := by omega
      go_wp2_with fail
      all_goals (go_ret; exact ⟨⟨_, rfl⟩, HB.out⟩)

theorem few15 (v : Value) (w : World) (h : Fit Try.prog w 28 v) : Says 19 v w := by
  obtain ⟨a, n, cap, b, off, u, rfl, hc1, hc2, ha, hcell, hfit⟩ := h.opens Try.underlying28 (C := 5) (by kernel_rfl) (by decide)
  have HA := Lib.hid ha
  have HC := Lib.hid hcell
  have HF := Lib.hid hfit
  clear ha hcell hfit h
  have hle : n ≤ 9223372036854775807 := by unfold maxLen at hc2; omega
  go_enter Try.func19, Try.ntmps19
  go_wp2
  go_loopw [2, 3] (fun r i wi => ∃ (k : Nat), k ≤ n ∧ i = .int .i64 k ∧ r = .bool false ∧ Hid (Below w.heap.size w wi)) (fun _ i _ => n - (intOf i).toNat)
  case atStart => exact ⟨0, Nat.zero_le _, rfl, rfl, Below.refl _ _⟩
  case round =>
    obtain ⟨k, hk, rfl, rfl, HB⟩ := hrel
    by_cases hlt : k < n
    · obtain rfl := HA.out (by omega)
      have hc := HC.out k
      have hf := HF.out k hlt
      have c3 := since_cell HB.out (hc 3 hlt (by omega))
      have c4 := since_cell HB.out (hc 4 hlt (by omega))
      clear hc
      have f3 := (hf 3 27 (by kernel_rfl) (by kernel_rfl)).since HB.out
      have f4 := (hf 4 24 (by kernel_rfl) (by kernel_rfl)).since HB.out
      obtain ⟨a4, n4, p4, h4, -, -⟩ := f4.slice Try.underlying24
      rw [h4] at c4
      clear f4 h4
      clear hf
      have hlt' : (k : Int) < n := by omega
      go_wp2_with (go_at_call 18; (with_reducible refine (few13 _ _ f3).mono ?_); rintro e w1 ⟨⟨b, rfl⟩, hb⟩; have HB2 := Lib.hid (HB.out.trans (hb.mono HB.out.size)); have c4 := since_cell hb c4; clear hb; cases b)
      all_goals first
        | (go_ret; exact ⟨⟨_, rfl⟩, HB2.out⟩)
        | (go_roundw; (case rel => exact ⟨k + 1, by omega, by go_num, rfl, HB2.out⟩); (case measure => simp [intOf]; omega))
    · obtain rfl : k = n := by omega
      go_wp2_with fail
      all_goals (go_ret; exact ⟨⟨_, rfl⟩, HB.out⟩)

theorem few16 (v : Value) (w : World) (h : Fit Try.prog w 29 v) : Says 20 v w := by
  obtain ⟨a, n, cap, b, off, u, rfl, hc1, hc2, ha, hcell, hfit⟩ := h.opens Try.underlying29 (C := 4) (by kernel_rfl) (by decide)
  have HA := Lib.hid ha
  have HC := Lib.hid hcell
  have HF := Lib.hid hfit
  clear ha hcell hfit h
  have hle : n ≤ 9223372036854775807 := by unfold maxLen at hc2; omega
  go_enter Try.func20, Try.ntmps20
  go_wp2
  go_loopw [2, 3] (fun r i wi => ∃ (k : Nat), k ≤ n ∧ i = .int .i64 k ∧ r = .bool false ∧ Hid (Below w.heap.size w wi)) (fun _ i _ => n - (intOf i).toNat)
  case atStart => exact ⟨0, Nat.zero_le _, rfl, rfl, Below.refl _ _⟩
  case round =>
    obtain ⟨k, hk, rfl, rfl, HB⟩ := hrel
    by_cases hlt : k < n
    · obtain rfl := HA.out (by omega)
      have hc := HC.out k
      have hf := HF.out k hlt
      have c3 := since_cell HB.out (hc 3 hlt (by omega))
      clear hc
      have f3 := (hf 3 27 (by kernel_rfl) (by kernel_rfl)).since HB.out
      clear hf
      have hlt' : (k : Int) < n := by omega
      go_wp2_with (go_at_call 18; (with_reducible refine (few13 _ _ f3).mono ?_); rintro e w1 ⟨⟨b, rfl⟩, hb⟩; have HB2 := Lib.hid (HB.out.trans (hb.mono HB.out.size)); clear hb; cases b)
      all_goals first
        | (go_ret; exact ⟨⟨_, rfl⟩, HB2.out⟩)
        | (go_roundw; (case rel => exact ⟨k + 1, by omega, by go_num, rfl, HB2.out⟩); (case measure => simp [intOf]; omega))
    · obtain rfl : k = n := by omega
      go_wp2_with fail
      all_goals (go_ret; exact ⟨⟨_, rfl⟩, HB.out⟩)

theorem few17 (v : Value) (w : World) (h : Fit Try.prog w 30 v) : Says 21 v w := by
  obtain ⟨a, n, cap, b, off, u, rfl, hc1, hc2, ha, hcell, hfit⟩ := h.opens Try.underlying30 (C := 5) (by kernel_rfl) (by decide)
  have HA := Lib.hid ha
  have HC := Lib.hid hcell
  have HF := Lib.hid hfit
  clear ha hcell hfit h
  have hle : n ≤ 9223372036854775807 := by unfold maxLen at hc2; omega
  go_enter Try.func21, Try.ntmps21
  go_wp2
  go_loopw [2, 3] (fun r i wi => ∃ (k : Nat), k ≤ n ∧ i = .int .i64 k ∧ r = .bool false ∧ Hid (Below w.heap.size w wi)) (fun _ i _ => n - (intOf i).toNat)
  case atStart => exact ⟨0, Nat.zero_le _, rfl, rfl, Below.refl _ _⟩
  case round =>
    obtain ⟨k, hk, rfl, rfl, HB⟩ := hrel
    by_cases hlt : k < n
    · obtain rfl := HA.out (by omega)
      have hc := HC.out k
      have hf := HF.out k hlt
      have c4 := since_cell HB.out (hc 4 hlt (by omega))
      clear hc
      have f4 := (hf 4 24 (by kernel_rfl) (by kernel_rfl)).since HB.out
      obtain ⟨a4, n4, p4, h4, -, -⟩ := f4.slice Try.underlying24
      rw [h4] at c4
      clear f4 h4
      clear hf
      have hlt' : (k : Int) < n := by omega
      go_wp2_with fail
      all_goals first
        | (go_ret; exact ⟨⟨_, rfl⟩, HB.out⟩)
        | (go_roundw; (case rel => exact ⟨k + 1, by omega, by go_num, rfl, HB.out⟩); (case measure => simp [intOf]; omega))
    · obtain rfl : k = n := by omega
      go_wp2_with fail
      all_goals (go_ret; exact ⟨⟨_, rfl⟩, HB.out⟩)

theorem few19 (v : Value) (w : World) (h : Fit Try.prog w 32 v) : Says 23 v w := by
  obtain ⟨a, n, cap, b, off, u, rfl, hc1, hc2, ha, hcell, hfit⟩ := h.opens Try.underlying32 (C := 11) (by kernel_rfl) (by decide)
  have HA := Lib.hid ha
  have HC := Lib.hid hcell
  have HF := Lib.hid hfit
  clear ha hcell hfit h
  have hle : n ≤ 9223372036854775807 := by unfold maxLen at hc2; omega
  go_enter Try.func23, Try.ntmps23
  go_wp2
  go_loopw [2, 3] (fun r i wi => ∃ (k : Nat), k ≤ n ∧ i = .int .i64 k ∧ r = .bool false ∧ Hid (Below w.heap.size w wi)) (fun _ i _ => n - (intOf i).toNat)
  case atStart => exact ⟨0, Nat.zero_le _, rfl, rfl, Below.refl _ _⟩
  case round =>
    obtain ⟨k, hk, rfl, rfl, HB⟩ := hrel
    by_cases hlt : k < n
    · obtain rfl := HA.out (by omega)
      have hc := HC.out k
      have hf := HF.out k hlt
      have c2 := since_cell HB.out (hc 2 hlt (by omega))
      clear hc
      have f2 := (hf 2 9 (by kernel_rfl) (by kernel_rfl)).since HB.out
      obtain ⟨s2, h2, -⟩ := f2.asText Try.underlying9
      rw [h2] at c2
      clear f2 h2
      clear hf
      have hlt' : (k : Int) < n := by omega
      go_wp2_with fail
      all_goals first
        | (go_ret; exact ⟨⟨_, rfl⟩, HB.out⟩)
        | (go_roundw; (case rel => exact ⟨k + 1, by omega, by go_num, rfl, HB.out⟩); (case measure => simp [intOf]; omega))
    · obtain rfl : k = n := by omega
      go_wp2_with fail
      all_goals (go_ret; exact ⟨⟨_, rfl⟩, HB.out⟩)
end Go.Proofs.Ytcebcncpbedkmaa
