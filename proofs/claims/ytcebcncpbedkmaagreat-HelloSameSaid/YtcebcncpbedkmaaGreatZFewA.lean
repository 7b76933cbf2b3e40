/- The walks of the document's Few of a field, an act, and lists of these: each answers something. Conditions: the argument fits its type. The walks of the document's Few of queues, of tables, of a part and of a message: each answers something; a message of which it says yes has few numbers and bytes. Conditions: the argument fits its type. -/
import Derived.Test.YtcebcncpbedkmaaGreatZFit
import Derived.Test.YtcebcncpbedkmaaGreatZRowE
namespace Go.Proofs.YtcebcncpbedkmaaGreat
open Go.RowKit
set_option maxRecDepth 100000
set_option maxHeartbeats 4000000

theorem since_cell {w w' : World} {p : Addr} {v : Value} (hb : Below w.heap.size w w') (h : w.cell? p = some v) : w'.cell? p = some v :=
  (hb.cell (World.block_lt_of_cell? _ _ h)).trans h

theorem heap_cell {w : World} {g : Nat} {cs : Array Value} {t : TypeId} {fr : Nat × Nat} (h : w.heap[g]? = some (.cells cs t fr)) (i : Nat) : w.cell? ⟨g, i, none⟩ = cs[i]? := by
  simp only [World.cell?, h]
  rfl

/-- A yes or a no. -/
def YesNo (e : Ending) : Prop := ∃ b, e = .returned (.bool b)
/-- A call that answers yes or no. -/
abbrev Says (f : FuncId) (v : Value) (w : World) : Prop := Calls Tryz.prog f #[v] w fun e w' => YesNo e ∧ Below w.heap.size w w'

theorem few08 (u0 u1 u2 u3 u4 u5 : Value) (w : World) (h4 : Fit Tryz.prog w 24 u4) (h5 : Fit Tryz.prog w 24 u5) : Says 59 (.agg #[u0, u1, u2, u3, u4, u5]) w := by
  obtain ⟨a4, n4, c4, rfl, -⟩ := h4.slice Tryz.underlying24
  obtain ⟨a5, n5, c5, rfl, -⟩ := h5.slice Tryz.underlying24
  clear h4 h5
  go_enter Tryz.func59, Tryz.ntmps59
  go_wp2
  all_goals (go_ret; exact ⟨⟨_, rfl⟩, below_alloc2 _⟩)

theorem few12 (u0 u1 u2 u3 u4 u5 u6 u7 u8 u9 : Value) (w : World) (h7 : Fit Tryz.prog w 24 u7) (h8 : Fit Tryz.prog w 24 u8) (h9 : Fit Tryz.prog w 24 u9) : Says 60 (.agg #[u0, u1, u2, u3, u4, u5, u6, u7, u8, u9]) w := by
  obtain ⟨a9, n9, c9, rfl, -⟩ := h9.slice Tryz.underlying24
  have HF : ∀ w', Below w.heap.size w w' → Hid (Says 59 (.agg #[u3, u4, u5, u6, u7, u8]) w') := fun w' hb => few08 u3 u4 u5 u6 u7 u8 w' (h7.since hb) (h8.since hb)
  clear h7 h8 h9
  go_enter Tryz.func60, Tryz.ntmps60
  go_wp2_with (go_at_call 59; (with_reducible refine (HF _ (below_alloc2 _)).out.mono ?_); rintro e w1 ⟨⟨b, rfl⟩, hb⟩; have HB := Lib.hid (below1 hb); have HH := Lib.hid ((hb.block w.heap.size (by simp)).trans (heap_alloc_new _ _)); have C9 := heap_cell HH.out 9; clear hb; cases b)
  all_goals (go_ret; exact ⟨⟨_, rfl⟩, HB.out⟩)

theorem few09 (v : Value) (w : World) (h : Fit Tryz.prog w 26 v) : Says 11 v w := by
  obtain ⟨a, n, cap, b, off, u, rfl, hc1, hc2, ha, hcell, hfit⟩ := h.opens Tryz.underlying26 (C := 6) (by kernel_rfl) (by decide)
  have HA := Lib.hid ha
  have HC := Lib.hid hcell
  have HF := Lib.hid hfit
  clear ha hcell hfit h
  have hle : n ≤ 9223372036854775807 := by unfold maxLen at hc2; omega
  go_enter Tryz.func11, Tryz.ntmps11
  go_wp2
  go_loopw [2, 3] (fun r i wi => ∃ (k : Nat), k ≤ n ∧ i = .int .i64 k ∧ r = .bool false ∧ Hid (Below w.heap.size w wi)) (fun _ i _ => n - (intOf i).toNat)
  case atStart => exact ⟨0, Nat.zero_le _, rfl, rfl, Below.refl _ _⟩
  case round =>
    obtain ⟨k, hk, rfl, rfl, HB⟩ := hrel
    by_cases hlt : k < n
    · obtain rfl := HA.out (by omega)
      have hc := HC.out k
      have hf := HF.out k hlt
      have c0 := since_cell HB.out (hc 0 hlt (by omega))
      have c1 := since_cell HB.out (hc 1 hlt (by omega))
      have c2 := since_cell HB.out (hc 2 hlt (by omega))
      have c3 := since_cell HB.out (hc 3 hlt (by omega))
      have c4 := since_cell HB.out (hc 4 hlt (by omega))
      have c5 := since_cell HB.out (hc 5 hlt (by omega))
      rw [Nat.add_zero] at c0
      clear hc
      have f4 := (hf 4 24 (by kernel_rfl) (by kernel_rfl)).since HB.out
      have f5 := (hf 5 24 (by kernel_rfl) (by kernel_rfl)).since HB.out
      clear hf
      have hlt' : (k : Int) < n := by omega
      go_wp2_with (go_at_call 59; (with_reducible refine (few08 _ _ _ _ _ _ _ f4 f5).mono ?_); rintro e w1 ⟨⟨b, rfl⟩, hb⟩; have HB2 := Lib.hid (HB.out.trans (hb.mono HB.out.size)); clear hb; cases b)
      all_goals first
        | (go_ret; exact ⟨⟨_, rfl⟩, HB2.out⟩)
        | (go_roundw; (case rel => exact ⟨k + 1, by omega, by go_num, rfl, HB2.out⟩); (case measure => simp [intOf]; omega))
    · obtain rfl : k = n := by omega
      go_wp2_with fail
      all_goals (go_ret; exact ⟨⟨_, rfl⟩, HB.out⟩)

theorem few13 (v : Value) (w : World) (h : Fit Tryz.prog w 27 v) : Says 12 v w := by
  obtain ⟨a, n, cap, b, off, u, rfl, hc1, hc2, ha, hcell, hfit⟩ := h.opens Tryz.underlying27 (C := 10) (by kernel_rfl) (by decide)
  have HA := Lib.hid ha
  have HC := Lib.hid hcell
  have HF := Lib.hid hfit
  clear ha hcell hfit h
  have hle : n ≤ 9223372036854775807 := by unfold maxLen at hc2; omega
  go_enter Tryz.func12, Tryz.ntmps12
  go_wp2
  go_loopw [2, 3] (fun r i wi => ∃ (k : Nat), k ≤ n ∧ i = .int .i64 k ∧ r = .bool false ∧ Hid (Below w.heap.size w wi)) (fun _ i _ => n - (intOf i).toNat)
  case atStart => exact ⟨0, Nat.zero_le _, rfl, rfl, Below.refl _ _⟩
  case round =>
    obtain ⟨k, hk, rfl, rfl, HB⟩ := hrel
    by_cases hlt : k < n
    · obtain rfl := HA.out (by omega)
      have hc := HC.out k
      have hf := HF.out k hlt
      have c0 := since_cell HB.out (hc 0 hlt (by omega))
      have c1 := since_cell HB.out (hc 1 hlt (by omega))
      have c2 := since_cell HB.out (hc 2 hlt (by omega))
      have c3 := since_cell HB.out (hc 3 hlt (by omega))
      have c4 := since_cell HB.out (hc 4 hlt (by omega))
      have c5 := since_cell HB.out (hc 5 hlt (by omega))
      have c6 := since_cell HB.out (hc 6 hlt (by omega))
      have c7 := since_cell HB.out (hc 7 hlt (by omega))
      have c8 := since_cell HB.out (hc 8 hlt (by omega))
      have c9 := since_cell HB.out (hc 9 hlt (by omega))
      rw [Nat.add_zero] at c0
      clear hc
      have f7 := (hf 7 24 (by kernel_rfl) (by kernel_rfl)).since HB.out
      have f8 := (hf 8 24 (by kernel_rfl) (by kernel_rfl)).since HB.out
      have f9 := (hf 9 24 (by kernel_rfl) (by kernel_rfl)).since HB.out
      clear hf
      have hlt' : (k : Int) < n := by omega
      go_wp2_with (go_at_call 60; (with_reducible refine (few12 _ _ _ _ _ _ _ _ _ _ _ f7 f8 f9).mono ?_); rintro e w1 ⟨⟨b, rfl⟩, hb⟩; have HB2 := Lib.hid (HB.out.trans (hb.mono HB.out.size)); clear hb; cases b)
      all_goals first
        | (go_ret; exact ⟨⟨_, rfl⟩, HB2.out⟩)
        | (go_roundw; (case rel => exact ⟨k + 1, by omega, by go_num, rfl, HB2.out⟩); (case measure => simp [intOf]; omega))
    · obtain rfl : k = n := by omega
      go_wp2_with fail
      all_goals (go_ret; exact ⟨⟨_, rfl⟩, HB.out⟩)

theorem few15 (v : Value) (w : World) (h : Fit Tryz.prog w 28 v) : Says 13 v w := by
  obtain ⟨a, n, cap, b, off, u, rfl, hc1, hc2, ha, hcell, hfit⟩ := h.opens Tryz.underlying28 (C := 5) (by kernel_rfl) (by decide)
  have HA := Lib.hid ha
  have HC := Lib.hid hcell
  have HF := Lib.hid hfit
  clear ha hcell hfit h
  have hle : n ≤ 9223372036854775807 := by unfold maxLen at hc2; omega
  go_enter Tryz.func13, Tryz.ntmps13
  go_wp2
  go_loopw [2, 3] (fun r i wi => ∃ (k : Nat), k ≤ n ∧ i = .int .i64 k ∧ r = .bool false ∧ Hid (Below w.heap.size w wi)) (fun _ i _ => n - (intOf i).toNat)
  case atStart => exact ⟨0, Nat.zero_le _, rfl, rfl, Below.refl _ _⟩
  case round =>
    obtain ⟨k, hk, rfl, rfl, HB⟩ := hrel
    by_cases hlt : k < n
    · obtain rfl := HA.out (by omega)
      have hc := HC.out k
      have hf := HF.out k hlt
      have c3 := since_cell HB.out (hc 3 hlt (by omega))
      have c4 := since_cell HB.out (hc 4 hlt (by omega))
      clear hc
      have f3 := (hf 3 27 (by kernel_rfl) (by kernel_rfl)).since HB.out
      have f4 := (hf 4 24 (by kernel_rfl) (by kernel_rfl)).since HB.out
      obtain ⟨a4, n4, p4, h4, -, -⟩ := f4.slice Tryz.underlying24
      rw [h4] at c4
      clear f4 h4
      clear hf
      have hlt' : (k : Int) < n := by omega
      go_wp2_with (go_at_call 12; (with_reducible refine (few13 _ _ f3).mono ?_); rintro e w1 ⟨⟨b, rfl⟩, hb⟩; have HB2 := Lib.hid (HB.out.trans (hb.mono HB.out.size)); have c4 := since_cell hb c4; clear hb; cases b)
      all_goals first
        | (go_ret; exact ⟨⟨_, rfl⟩, HB2.out⟩)
        | (go_roundw; (case rel => exact ⟨k + 1, by omega, by go_num, rfl, HB2.out⟩); (case measure => simp [intOf]; omega))
    · obtain rfl : k = n := by omega
      go_wp2_with fail
      all_goals (go_ret; exact ⟨⟨_, rfl⟩, HB.out⟩)

theorem few16 (v : Value) (w : World) (h : Fit Tryz.prog w 29 v) : Says 14 v w := by
  obtain ⟨a, n, cap, b, off, u, rfl, hc1, hc2, ha, hcell, hfit⟩ := h.opens Tryz.underlying29 (C := 4) (by kernel_rfl) (by decide)
  have HA := Lib.hid ha
  have HC := Lib.hid hcell
  have HF := Lib.hid hfit
  clear ha hcell hfit h
  have hle : n ≤ 9223372036854775807 := by unfold maxLen at hc2; omega
  go_enter Tryz.func14, Tryz.ntmps14
  go_wp2
  go_loopw [2, 3] (fun r i wi => ∃ (k : Nat), k ≤ n ∧ i = .int .i64 k ∧ r = .bool false ∧ Hid (Below w.heap.size w wi)) (fun _ i _ => n - (intOf i).toNat)
  case atStart => exact ⟨0, Nat.zero_le _, rfl, rfl, Below.refl _ _⟩
  case round =>
    obtain ⟨k, hk, rfl, rfl, HB⟩ := hrel
    by_cases hlt : k < n
    · obtain rfl := HA.out (by omega)
      have hc := HC.out k
      have hf := HF.out k hlt
      have c3 := since_cell HB.out (hc 3 hlt (by omega))
      clear hc
      have f3 := (hf 3 27 (by kernel_rfl) (by kernel_rfl)).since HB.out
      clear hf
      have hlt' : (k : Int) < n := by omega
      go_wp2_with (go_at_call 12; (with_reducible refine (few13 _ _ f3).mono ?_); rintro e w1 ⟨⟨b, rfl⟩, hb⟩; have HB2 := Lib.hid (HB.out.trans (hb.mono HB.out.size)); clear hb; cases b)
      all_goals first
        | (go_ret; exact ⟨⟨_, rfl⟩, HB2.out⟩)
        | (go_roundw; (case rel => exact ⟨k + 1, by omega, by go_num, rfl, HB2.out⟩); (case measure => simp [intOf]; omega))
    · obtain rfl : k = n := by omega
      go_wp2_with fail
      all_goals (go_ret; exact ⟨⟨_, rfl⟩, HB.out⟩)

theorem few17 (v : Value) (w : World) (h : Fit Tryz.prog w 30 v) : Says 15 v w := by
  obtain ⟨a, n, cap, b, off, u, rfl, hc1, hc2, ha, hcell, hfit⟩ := h.opens Tryz.underlying30 (C := 5) (by kernel_rfl) (by decide)
  have HA := Lib.hid ha
  have HC := Lib.hid hcell
  have HF := Lib.hid hfit
  clear ha hcell hfit h
  have hle : n ≤ 9223372036854775807 := by unfold maxLen at hc2; omega
  go_enter Tryz.func15, Tryz.ntmps15
  go_wp2
  go_loopw [2, 3] (fun r i wi => ∃ (k : Nat), k ≤ n ∧ i = .int .i64 k ∧ r = .bool false ∧ Hid (Below w.heap.size w wi)) (fun _ i _ => n - (intOf i).toNat)
  case atStart => exact ⟨0, Nat.zero_le _, rfl, rfl, Below.refl _ _⟩
  case round =>
    obtain ⟨k, hk, rfl, rfl, HB⟩ := hrel
    by_cases hlt : k < n
    · obtain rfl := HA.out (by omega)
      have hc := HC.out k
      have hf := HF.out k hlt
      have c4 := since_cell HB.out (hc 4 hlt (by omega))
      clear hc
      have f4 := (hf 4 24 (by kernel_rfl) (by kernel_rfl)).since HB.out
      obtain ⟨a4, n4, p4, h4, -, -⟩ := f4.slice Tryz.underlying24
      rw [h4] at c4
      clear f4 h4
      clear hf
      have hlt' : (k : Int) < n := by omega
      go_wp2_with fail
      all_goals first
        | (go_ret; exact ⟨⟨_, rfl⟩, HB.out⟩)
        | (go_roundw; (case rel => exact ⟨k + 1, by omega, by go_num, rfl, HB.out⟩); (case measure => simp [intOf]; omega))
    · obtain rfl : k = n := by omega
      go_wp2_with fail
      all_goals (go_ret; exact ⟨⟨_, rfl⟩, HB.out⟩)

theorem few19 (v : Value) (w : World) (h : Fit Tryz.prog w 32 v) : Says 17 v w := by
  obtain ⟨a, n, cap, b, off, u, rfl, hc1, hc2, ha, hcell, hfit⟩ := h.opens Tryz.underlying32 (C := 11) (by kernel_rfl) (by decide)
  have HA := Lib.hid ha
  have HC := Lib.hid hcell
  have HF := Lib.hid hfit
  clear ha hcell hfit h
  have hle : n ≤ 9223372036854775807 := by unfold maxLen at hc2; omega
  go_enter Tryz.func17, Tryz.ntmps17
  go_wp2
  go_loopw [2, 3] (fun r i wi => ∃ (k : Nat), k ≤ n ∧ i = .int .i64 k ∧ r = .bool false ∧ Hid (Below w.heap.size w wi)) (fun _ i _ => n - (intOf i).toNat)
  case atStart => exact ⟨0, Nat.zero_le _, rfl, rfl, Below.refl _ _⟩
  case round =>
    obtain ⟨k, hk, rfl, rfl, HB⟩ := hrel
    by_cases hlt : k < n
    · obtain rfl := HA.out (by omega)
      have hc := HC.out k
      have hf := HF.out k hlt
      have c2 := since_cell HB.out (hc 2 hlt (by omega))
      clear hc
      have f2 := (hf 2 9 (by kernel_rfl) (by kernel_rfl)).since HB.out
      obtain ⟨s2, h2, -⟩ := f2.asText Tryz.underlying9
      rw [h2] at c2
      clear f2 h2
      clear hf
      have hlt' : (k : Int) < n := by omega
      go_wp2_with fail
      all_goals first
        | (go_ret; exact ⟨⟨_, rfl⟩, HB.out⟩)
        | (go_roundw; (case rel => exact ⟨k + 1, by omega, by go_num, rfl, HB.out⟩); (case measure => simp [intOf]; omega))
    · obtain rfl : k = n := by omega
      go_wp2_with fail
      all_goals (go_ret; exact ⟨⟨_, rfl⟩, HB.out⟩)
end Go.Proofs.YtcebcncpbedkmaaGreat
namespace Go.Proofs.YtcebcncpbedkmaaGreat
open Go.RowKit
set_option maxRecDepth 100000
set_option maxHeartbeats 4000000

theorem few18 (v : Value) (w : World) (h : Fit Tryz.prog w 31 v) : Says 16 v w := by
  obtain ⟨a, n, cap, b, off, u, rfl, hc1, hc2, ha, hcell, hfit⟩ := h.opens Tryz.underlying31 (C := 3) (by kernel_rfl) (by decide)
  have HA := Lib.hid ha
  have HC := Lib.hid hcell
  have HF := Lib.hid hfit
  clear ha hcell hfit h
  have hle : n ≤ 9223372036854775807 := by unfold maxLen at hc2; omega
  go_enter Tryz.func16, Tryz.ntmps16
  go_wp2
  go_loopw [2, 3] (fun r i wi => ∃ (k : Nat), k ≤ n ∧ i = .int .i64 k ∧ r = .bool false ∧ wi = w) (fun _ i _ => n - (intOf i).toNat)
  case atStart => exact ⟨0, Nat.zero_le _, rfl, rfl, rfl⟩
  case round =>
    obtain ⟨k, hk, rfl, rfl, rfl⟩ := hrel
    by_cases hlt : k < n
    · obtain rfl := HA.out (by omega)
      have hc := HC.out k
      have hf := HF.out k hlt
      have c2 := hc 2 hlt (by omega)
      clear hc
      have f2 := hf 2 92 (by kernel_rfl) (by kernel_rfl)
      clear hf
      have hlt' : (k : Int) < n := by omega
      obtain ⟨ai, ni, capi, bi, offi, ui, hui, hi1, hi2, hia, hicell, hifit⟩ := f2.opens Tryz.underlying92 (C := 3) (by kernel_rfl) (by decide)
      rw [hui] at c2
      have IA := Lib.hid hia
      have IC := Lib.hid hicell
      have IF := Lib.hid hifit
      have hile : ni ≤ 9223372036854775807 := by unfold maxLen at hi2; omega
      clear hia hicell hifit hui f2
      go_wp2_with fail
      go_loopw [2, 4] (fun r i wi => ∃ (j : Nat), j ≤ ni ∧ i = .int .i64 j ∧ r = .bool false ∧ wi = wr) (fun _ i _ => ni - (intOf i).toNat)
      case atStart => exact ⟨0, Nat.zero_le _, rfl, rfl, rfl⟩
      case round =>
        obtain ⟨j, hj, rfl, rfl, rfl⟩ := hrel
        by_cases hjl : j < ni
        · obtain rfl := IA.out (by omega)
          have hd := IC.out j
          have hg := IF.out j hjl
          have d2 := hd 2 hjl (by omega)
          clear hd
          obtain ⟨x2, y2, z2, e2, -, -⟩ := (hg 2 24 (by kernel_rfl) (by kernel_rfl)).slice Tryz.underlying24
          rw [e2] at d2
          clear e2
          clear hg
          have hjl' : (j : Int) < ni := by omega
          go_wp2_with fail
          all_goals first
            | (go_ret; exact ⟨⟨_, rfl⟩, Below.refl _ _⟩)
            | (go_roundw; (case rel => exact ⟨j + 1, by omega, by go_num, rfl, by trivial⟩); (case measure => simp [intOf]; omega))
        · obtain rfl : j = ni := by omega
          go_wp2_with fail
          all_goals first
            | (go_ret; exact ⟨⟨_, rfl⟩, Below.refl _ _⟩)
            | (go_roundw; (case rel => exact ⟨k + 1, by omega, by go_num, rfl, by trivial⟩); (case measure => simp [intOf]; omega))
    · obtain rfl : k = n := by omega
      go_wp2_with fail
      all_goals (go_ret; exact ⟨⟨_, rfl⟩, Below.refl _ _⟩)

theorem few20 (v : Value) (w : World) (h : Fit Tryz.prog w 44 v) : Says 58 v w := by
  obtain ⟨a, n, cap, b, off, u, rfl, hc1, hc2, ha, hcell, hfit⟩ := h.opens Tryz.underlying44 (C := 7) (by kernel_rfl) (by decide)
  have HA := Lib.hid ha
  have HC := Lib.hid hcell
  have HF := Lib.hid hfit
  clear ha hcell hfit h
  have hle : n ≤ 9223372036854775807 := by unfold maxLen at hc2; omega
  go_enter Tryz.func58, Tryz.ntmps58
  go_wp2
  go_loopw [2, 3] (fun r i wi => ∃ (k : Nat), k ≤ n ∧ i = .int .i64 k ∧ r = .bool false ∧ wi = w) (fun _ i _ => n - (intOf i).toNat)
  case atStart => exact ⟨0, Nat.zero_le _, rfl, rfl, rfl⟩
  case round =>
    obtain ⟨k, hk, rfl, rfl, rfl⟩ := hrel
    by_cases hlt : k < n
    · obtain rfl := HA.out (by omega)
      have hc := HC.out k
      have hf := HF.out k hlt
      have c1 := hc 1 hlt (by omega)
      have c6 := hc 6 hlt (by omega)
      clear hc
      have f6 := hf 6 141 (by kernel_rfl) (by kernel_rfl)
      obtain ⟨s1, h1, -⟩ := (hf 1 9 (by kernel_rfl) (by kernel_rfl)).asText Tryz.underlying9
      rw [h1] at c1
      clear h1
      clear hf
      have hlt' : (k : Int) < n := by omega
      obtain ⟨ai, ni, capi, bi, offi, ui, hui, hi1, hi2, hia, hicell, hifit⟩ := f6.opens Tryz.underlying141 (C := 3) (by kernel_rfl) (by decide)
      rw [hui] at c6
      have IA := Lib.hid hia
      have IC := Lib.hid hicell
      have IF := Lib.hid hifit
      have hile : ni ≤ 9223372036854775807 := by unfold maxLen at hi2; omega
      clear hia hicell hifit hui f6
      go_wp2_with fail
      go_loopw [2, 4] (fun r i wi => ∃ (j : Nat), j ≤ ni ∧ i = .int .i64 j ∧ r = .bool false ∧ wi = wr) (fun _ i _ => ni - (intOf i).toNat)
      case atStart => exact ⟨0, Nat.zero_le _, rfl, rfl, rfl⟩
      case round =>
        obtain ⟨j, hj, rfl, rfl, rfl⟩ := hrel
        by_cases hjl : j < ni
        · obtain rfl := IA.out (by omega)
          have hd := IC.out j
          have hg := IF.out j hjl
          have d1 := hd 1 hjl (by omega)
          have d2 := hd 2 hjl (by omega)
          clear hd
          obtain ⟨x1, y1, z1, e1, -, -⟩ := (hg 1 23 (by kernel_rfl) (by kernel_rfl)).slice Tryz.underlying23
          rw [e1] at d1
          clear e1
          obtain ⟨x2, y2, z2, e2, -, -⟩ := (hg 2 24 (by kernel_rfl) (by kernel_rfl)).slice Tryz.underlying24
          rw [e2] at d2
          clear e2
          clear hg
          have hjl' : (j : Int) < ni := by omega
          go_wp2_with fail
          all_goals first
            | (go_ret; exact ⟨⟨_, rfl⟩, Below.refl _ _⟩)
            | (go_roundw; (case rel => exact ⟨j + 1, by omega, by go_num, rfl, by trivial⟩); (case measure => simp [intOf]; omega))
        · obtain rfl : j = ni := by omega
          go_wp2_with fail
          all_goals first
            | (go_ret; exact ⟨⟨_, rfl⟩, Below.refl _ _⟩)
            | (go_roundw; (case rel => exact ⟨k + 1, by omega, by go_num, rfl, by trivial⟩); (case measure => simp [intOf]; omega))
    · obtain rfl : k = n := by omega
      go_wp2_with fail
      all_goals (go_ret; exact ⟨⟨_, rfl⟩, Below.refl _ _⟩)

theorem fewPart (m0 m1 m2 m3 m4 m5 m6 m7 m8 m9 : Value) (w : World) (h0 : Fit Tryz.prog w 23 m0) (h1 : Fit Tryz.prog w 42 m1) (h2 : Fit Tryz.prog w 26 m2) (h3 : Fit Tryz.prog w 28 m3) (h4 : Fit Tryz.prog w 29 m4) (h5 : Fit Tryz.prog w 30 m5) (h6 : Fit Tryz.prog w 43 m6) (h7 : Fit Tryz.prog w 32 m7) (h8 : Fit Tryz.prog w 44 m8) (h9 : Fit Tryz.prog w 24 m9) : Says 10 (.agg #[m0, m1, m2, m3, m4, m5, m6, m7, m8, m9]) w := by
  obtain ⟨a0, n0, c0, rfl, -, -⟩ := h0.slice Tryz.underlying23
  obtain ⟨a1, n1, c1, b1, off1, q1, rfl, hl1, hm1, ha1, hcell1, hfit1⟩ := h1.opens Tryz.underlying42 (C := 1) (by kernel_rfl) (by decide)
  obtain ⟨a6, n6, c6, b6, off6, q6, rfl, hl6, hm6, ha6, hcell6, hfit6⟩ := h6.opens Tryz.underlying43 (C := 1) (by kernel_rfl) (by decide)
  obtain ⟨a9, n9, c9, rfl, -, -⟩ := h9.slice Tryz.underlying24
  have F2 := Lib.hid h2
  have F3 := Lib.hid h3
  have F4 := Lib.hid h4
  have F5 := Lib.hid h5
  have F7 := Lib.hid h7
  have F8 := Lib.hid h8
  have HB0 : Hid (Below w.heap.size w (w.alloc (.cells #[.slice a0 n0 c0, .slice a1 n1 c1, m2, m3, m4, m5, .slice a6 n6 c6, m7, m8, .slice a9 n9 c9] 46))) := below_alloc2 _
  have HH0 : Hid ((w.alloc (.cells #[.slice a0 n0 c0, .slice a1 n1 c1, m2, m3, m4, m5, .slice a6 n6 c6, m7, m8, .slice a9 n9 c9] 46)).heap[w.heap.size]? = some (.cells #[.slice a0 n0 c0, .slice a1 n1 c1, m2, m3, m4, m5, .slice a6 n6 c6, m7, m8, .slice a9 n9 c9] 46 (0, 0))) := heap_alloc_new _ _
  have A1 := Lib.hid ha1
  have C1 : Hid (∀ i, i < n1 → (w.alloc (.cells #[.slice a0 n0 c0, .slice a1 n1 c1, m2, m3, m4, m5, .slice a6 n6 c6, m7, m8, .slice a9 n9 c9] 46)).cell? ⟨b1, off1 + i, none⟩ = some (q1 i 0)) := fun i hi => by
    have := since_cell HB0.out (hcell1 i 0 hi (by omega))
    rwa [Nat.mul_one, Nat.add_zero] at this
  have G1 := Lib.hid hfit1
  have A6 := Lib.hid ha6
  have C6 : Hid (∀ i, i < n6 → (w.alloc (.cells #[.slice a0 n0 c0, .slice a1 n1 c1, m2, m3, m4, m5, .slice a6 n6 c6, m7, m8, .slice a9 n9 c9] 46)).cell? ⟨b6, off6 + i, none⟩ = some (q6 i 0)) := fun i hi => by
    have := since_cell HB0.out (hcell6 i 0 hi (by omega))
    rwa [Nat.mul_one, Nat.add_zero] at this
  have G6 := Lib.hid hfit6
  have hle1 : n1 ≤ 9223372036854775807 := by unfold maxLen at hm1; omega
  have hle6 : n6 ≤ 9223372036854775807 := by unfold maxLen at hm6; omega
  clear ha1 hcell1 hfit1 ha6 hcell6 hfit6 h0 h1 h2 h3 h4 h5 h6 h7 h8 h9
  go_enter Tryz.func10, Tryz.ntmps10
  go_wp2
  go_loopw [2, 3] (fun r i wi => ∃ (k : Nat), k ≤ n1 ∧ i = .int .i64 k ∧ r = .bool false ∧ wi = w.alloc (.cells #[.slice a0 n0 c0, .slice a1 n1 c1, m2, m3, m4, m5, .slice a6 n6 c6, m7, m8, .slice a9 n9 c9] 46)) (fun _ i _ => n1 - (intOf i).toNat)
  case atStart => exact ⟨0, Nat.zero_le _, rfl, rfl, rfl⟩
  case round =>
    obtain ⟨k, hk, rfl, rfl, rfl⟩ := hrel
    by_cases hlt : k < n1
    · obtain rfl := A1.out (by omega)
      have hc := C1.out k hlt
      obtain ⟨s1, e1, -⟩ := (G1.out k hlt 0 9 (by kernel_rfl) (by kernel_rfl)).asText Tryz.underlying9
      rw [e1] at hc
      have hlt' : (k : Int) < n1 := by omega
      go_wp2_with fail
      all_goals first
        | (go_ret; exact ⟨⟨_, rfl⟩, HB0.out⟩)
        | (go_roundw; (case rel => exact ⟨k + 1, by omega, by go_num, rfl, by trivial⟩); (case measure => simp [intOf]; omega))
    · obtain rfl : n1 = k := by omega
      go_wp2_with fail
      go_loopw [2, 4] (fun r i wi => ∃ (j : Nat), j ≤ n6 ∧ i = .int .i64 j ∧ r = .bool false ∧ wi = w.alloc (.cells #[.slice a0 n0 c0, .slice a1 n1 c1, m2, m3, m4, m5, .slice a6 n6 c6, m7, m8, .slice a9 n9 c9] 46)) (fun _ i _ => n6 - (intOf i).toNat)
      case atStart => exact ⟨0, Nat.zero_le _, rfl, rfl, rfl⟩
      case round =>
        obtain ⟨j, hj, rfl, rfl, rfl⟩ := hrel
        by_cases hjl : j < n6
        · obtain rfl := A6.out (by omega)
          have hc := C6.out j hjl
          obtain ⟨x6, y6, z6, e6, -, -⟩ := (G6.out j hjl 0 23 (by kernel_rfl) (by kernel_rfl)).slice Tryz.underlying23
          rw [e6] at hc
          have hjl' : (j : Int) < n6 := by omega
          go_wp2_with fail
          all_goals first
            | (go_ret; exact ⟨⟨_, rfl⟩, HB0.out⟩)
            | (go_roundw; (case rel => exact ⟨j + 1, by omega, by go_num, rfl, by trivial⟩); (case measure => simp [intOf]; omega))
        · obtain rfl : n6 = j := by omega
          go_wp2_with (first
            | (go_at_call 11; (with_reducible refine (few09 _ _ (F2.out.since HB0.out)).mono ?_); rintro e wc0 ⟨⟨bb, rfl⟩, hb⟩; have HBc0 := Lib.hid (HB0.out.trans (hb.mono HB0.out.size)); have HHc0 := Lib.hid ((hb.block w.heap.size ((Array.getElem?_eq_some_iff.1 HH0.out).1)).trans HH0.out); have g3x0 := heap_cell HHc0.out 3; have g4x0 := heap_cell HHc0.out 4; have g5x0 := heap_cell HHc0.out 5; have g7x0 := heap_cell HHc0.out 7; have g8x0 := heap_cell HHc0.out 8; clear hb; cases bb)
            | (go_at_call 13; (with_reducible refine (few15 _ _ (F3.out.since HBc0.out)).mono ?_); rintro e wc1 ⟨⟨bb, rfl⟩, hb⟩; have HBc1 := Lib.hid (HBc0.out.trans (hb.mono HBc0.out.size)); have HHc1 := Lib.hid ((hb.block w.heap.size ((Array.getElem?_eq_some_iff.1 HHc0.out).1)).trans HHc0.out); have g4x1 := heap_cell HHc1.out 4; have g5x1 := heap_cell HHc1.out 5; have g7x1 := heap_cell HHc1.out 7; have g8x1 := heap_cell HHc1.out 8; clear hb; cases bb)
            | (go_at_call 14; (with_reducible refine (few16 _ _ (F4.out.since HBc1.out)).mono ?_); rintro e wc2 ⟨⟨bb, rfl⟩, hb⟩; have HBc2 := Lib.hid (HBc1.out.trans (hb.mono HBc1.out.size)); have HHc2 := Lib.hid ((hb.block w.heap.size ((Array.getElem?_eq_some_iff.1 HHc1.out).1)).trans HHc1.out); have g5x2 := heap_cell HHc2.out 5; have g7x2 := heap_cell HHc2.out 7; have g8x2 := heap_cell HHc2.out 8; clear hb; cases bb)
            | (go_at_call 15; (with_reducible refine (few17 _ _ (F5.out.since HBc2.out)).mono ?_); rintro e wc3 ⟨⟨bb, rfl⟩, hb⟩; have HBc3 := Lib.hid (HBc2.out.trans (hb.mono HBc2.out.size)); have HHc3 := Lib.hid ((hb.block w.heap.size ((Array.getElem?_eq_some_iff.1 HHc2.out).1)).trans HHc2.out); have g7x3 := heap_cell HHc3.out 7; have g8x3 := heap_cell HHc3.out 8; clear hb; cases bb)
            | (go_at_call 17; (with_reducible refine (few19 _ _ (F7.out.since HBc3.out)).mono ?_); rintro e wc4 ⟨⟨bb, rfl⟩, hb⟩; have HBc4 := Lib.hid (HBc3.out.trans (hb.mono HBc3.out.size)); have HHc4 := Lib.hid ((hb.block w.heap.size ((Array.getElem?_eq_some_iff.1 HHc3.out).1)).trans HHc3.out); have g8x4 := heap_cell HHc4.out 8; clear hb; cases bb)
            | (go_at_call 58; (with_reducible refine (few20 _ _ (F8.out.since HBc4.out)).mono ?_); rintro e wc5 ⟨⟨bb, rfl⟩, hb⟩; have HBc5 := Lib.hid (HBc4.out.trans (hb.mono HBc4.out.size)); have HHc5 := Lib.hid ((hb.block w.heap.size ((Array.getElem?_eq_some_iff.1 HHc4.out).1)).trans HHc4.out); clear hb; cases bb))
          all_goals (go_ret; first | exact ⟨⟨_, rfl⟩, HB0.out⟩ | exact ⟨⟨_, rfl⟩, HBc0.out⟩ | exact ⟨⟨_, rfl⟩, HBc1.out⟩ | exact ⟨⟨_, rfl⟩, HBc2.out⟩ | exact ⟨⟨_, rfl⟩, HBc3.out⟩ | exact ⟨⟨_, rfl⟩, HBc4.out⟩ | exact ⟨⟨_, rfl⟩, HBc5.out⟩)
end Go.Proofs.YtcebcncpbedkmaaGreat
