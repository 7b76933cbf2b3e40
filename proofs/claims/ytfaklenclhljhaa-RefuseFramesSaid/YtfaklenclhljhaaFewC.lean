/- The walk of the document's Few of a message: it answers something; of which it says yes has few numbers and bytes. Conditions: the argument fits its type. -/
import Derived.Test.YtfaklenclhljhaaFewB
namespace Go.Proofs.Ytfaklenclhljhaa
open Go.RowKit
set_option maxRecDepth 100000
set_option maxHeartbeats 4000000

/-- A yes, of few numbers and bytes, or a no. -/
def YesFew (n d : Nat) (e : Ending) : Prop := ∃ b, e = .returned (.bool b) ∧ (b = true → n ≤ 60 ∧ d ≤ 3000)

theorem few21 (m0 m1 m5 m6 m7 m8 m9 m10 m11 m12 m13 m4 m14 : Value) (a2 a3 : Option Addr) (n2 c2 n3 c3 : Nat) (w : World) (h4 : Fit Try.prog w 25 m4) (h5 : Fit Try.prog w 26 m5) (h6 : Fit Try.prog w 27 m6) (h7 : Fit Try.prog w 28 m7) (h8 : Fit Try.prog w 29 m8) (h9 : Fit Try.prog w 30 m9) (h10 : Fit Try.prog w 31 m10) (h11 : Fit Try.prog w 32 m11) (h14 : Fit Try.prog w 33 m14) :
    Calls Try.prog 10 #[.agg #[m0, m1, .slice a2 n2 c2, .slice a3 n3 c3, m4, m5, m6, m7, m8, m9, m10, m11, m12, m13, m14]] w fun e w' => YesFew n2 n3 e ∧ Below w.heap.size w w' := by
  obtain ⟨a4, n4, c4, b4, off4, q4, rfl, hl4, hm4, ha4, hcell4, hfit4⟩ := h4.opens Try.underlying25 (C := 2) (by kernel_rfl) (by decide)
  obtain ⟨a14, n14, c14, b14, off14, q14, rfl, hl14, hm14, ha14, hcell14, hfit14⟩ := h14.opens Try.underlying33 (C := 10) (by kernel_rfl) (by decide)
  have F5 := Lib.hid h5
  have F6 := Lib.hid h6
  have F7 := Lib.hid h7
  have F8 := Lib.hid h8
  have F9 := Lib.hid h9
  have F10 := Lib.hid h10
  have F11 := Lib.hid h11
  have HB0 : Hid (Below w.heap.size w (w.alloc (.cells #[m0, m1, .slice a2 n2 c2, .slice a3 n3 c3, .slice a4 n4 c4, m5, m6, m7, m8, m9, m10, m11, m12, m13, .slice a14 n14 c14] 35))) := below_alloc2 _
  have HH0 : Hid ((w.alloc (.cells #[m0, m1, .slice a2 n2 c2, .slice a3 n3 c3, .slice a4 n4 c4, m5, m6, m7, m8, m9, m10, m11, m12, m13, .slice a14 n14 c14] 35)).heap[w.heap.size]? = some (.cells #[m0, m1, .slice a2 n2 c2, .slice a3 n3 c3, .slice a4 n4 c4, m5, m6, m7, m8, m9, m10, m11, m12, m13, .slice a14 n14 c14] 35 (0, 0))) := heap_alloc_new _ _
  have A4 := Lib.hid ha4
  have C4 : Hid (∀ i, i < n4 → (w.alloc (.cells #[m0, m1, .slice a2 n2 c2, .slice a3 n3 c3, .slice a4 n4 c4, m5, m6, m7, m8, m9, m10, m11, m12, m13, .slice a14 n14 c14] 35)).cell? ⟨b4, off4 + i * 2 + 1, none⟩ = some (q4 i 1)) := fun i hi => since_cell HB0.out (hcell4 i 1 hi (by omega))
  have G4 := Lib.hid hfit4
  have A14 := Lib.hid ha14
  have C14 := Lib.hid hcell14
  have G14 := Lib.hid hfit14
  have hle4 : n4 ≤ 9223372036854775807 := by unfold maxLen at hm4; omega
  have hle14 : n14 ≤ 9223372036854775807 := by unfold maxLen at hm14; omega
  clear ha4 hcell4 hfit4 ha14 hcell14 hfit14 h4 h5 h6 h7 h8 h9 h10 h11 h14
  go_enter Try.func10, Try.ntmps10
  go_wp2
  go_loopw [2, 3] (fun r i wi => ∃ (k : Nat), k ≤ n4 ∧ i = .int .i64 k ∧ r = .bool false ∧ wi = w.alloc (.cells #[m0, m1, .slice a2 n2 c2, .slice a3 n3 c3, .slice a4 n4 c4, m5, m6, m7, m8, m9, m10, m11, m12, m13, .slice a14 n14 c14] 35)) (fun _ i _ => n4 - (intOf i).toNat)
  case atStart => exact ⟨0, Nat.zero_le _, rfl, rfl, rfl⟩
  case round =>
    obtain ⟨k, hk, rfl, rfl, rfl⟩ := hrel
    by_cases hlt : k < n4
    · obtain rfl := A4.out (by omega)
      have hc := C4.out k hlt
      obtain ⟨x1, y1, z1, e1, -, -⟩ := (G4.out k hlt 1 24 (by kernel_rfl) (by kernel_rfl)).slice Try.underlying24
      rw [e1] at hc
      have hlt' : (k : Int) < n4 := by omega
      go_wp2_with fail
      all_goals first
        | (go_ret; exact ⟨⟨_, rfl, fun h => by cases h⟩, HB0.out⟩)
        | (go_roundw; (case rel => exact ⟨k + 1, by omega, by go_num, rfl, by trivial⟩); (case measure => simp [intOf]; omega))
    · obtain rfl : n4 = k := by omega
      go_wp2_with fail
      go_loopw [2, 4] (fun r i wi => ∃ (j : Nat), j ≤ n14 ∧ i = .int .i64 j ∧ r = .bool false ∧ Hid (Below w.heap.size w wi) ∧ Hid (wi.heap[w.heap.size]? = some (.cells #[m0, m1, .slice a2 n2 c2, .slice a3 n3 c3, .slice a4 n4 c4, m5, m6, m7, m8, m9, m10, m11, m12, m13, .slice a14 n14 c14] 35 (0, 0)))) (fun _ i _ => n14 - (intOf i).toNat)
      case atStart => exact ⟨0, Nat.zero_le _, rfl, rfl, HB0, HH0⟩
      case round =>
        obtain ⟨j, hj, rfl, rfl, HB, HH⟩ := hrel
        have g14 := heap_cell HH.out 14
        by_cases hjl : j < n14
        · obtain rfl := A14.out (by omega)
          have hc := C14.out j
          have d0 := since_cell HB.out (hc 0 hjl (by omega))
          have d1 := since_cell HB.out (hc 1 hjl (by omega))
          have d2 := since_cell HB.out (hc 2 hjl (by omega))
          have d3 := since_cell HB.out (hc 3 hjl (by omega))
          have d4 := since_cell HB.out (hc 4 hjl (by omega))
          have d5 := since_cell HB.out (hc 5 hjl (by omega))
          have d6 := since_cell HB.out (hc 6 hjl (by omega))
          have d7 := since_cell HB.out (hc 7 hjl (by omega))
          have d8 := since_cell HB.out (hc 8 hjl (by omega))
          have d9 := since_cell HB.out (hc 9 hjl (by omega))
          rw [Nat.add_zero] at d0
          clear hc
          have hf := G14.out j hjl
          have HP := fun w' (hb : Below w.heap.size w w') => Lib.hid (fewPart (q14 j 0) (q14 j 1) (q14 j 2) (q14 j 3) (q14 j 4) (q14 j 5) (q14 j 6) (q14 j 7) (q14 j 8) (q14 j 9) w' ((hf 0 23 (by kernel_rfl) (by kernel_rfl)).since hb) ((hf 1 64 (by kernel_rfl) (by kernel_rfl)).since hb) ((hf 2 26 (by kernel_rfl) (by kernel_rfl)).since hb) ((hf 3 28 (by kernel_rfl) (by kernel_rfl)).since hb) ((hf 4 29 (by kernel_rfl) (by kernel_rfl)).since hb) ((hf 5 30 (by kernel_rfl) (by kernel_rfl)).since hb) ((hf 6 65 (by kernel_rfl) (by kernel_rfl)).since hb) ((hf 7 32 (by kernel_rfl) (by kernel_rfl)).since hb) ((hf 8 66 (by kernel_rfl) (by kernel_rfl)).since hb) ((hf 9 24 (by kernel_rfl) (by kernel_rfl)).since hb))
          clear hf
          have hjl' : (j : Int) < n14 := by omega
          go_wp2_with (go_at_call 31; (with_reducible refine (HP _ HB.out).out.mono ?_); rintro e wp ⟨⟨bb, rfl⟩, hb⟩; have HBp := Lib.hid (HB.out.trans (hb.mono HB.out.size)); have HHp := Lib.hid ((hb.block w.heap.size ((Array.getElem?_eq_some_iff.1 HH.out).1)).trans HH.out); clear hb; cases bb)
          all_goals first
            | (go_ret; exact ⟨⟨_, rfl, fun h => by cases h⟩, HBp.out⟩)
            | (go_roundw; (case rel => exact ⟨j + 1, by omega, by go_num, rfl, HBp, HHp⟩); (case measure => simp [intOf]; omega))
        · obtain rfl : n14 = j := by omega
          have g2 := heap_cell HH.out 2
          have g3 := heap_cell HH.out 3
          have g4 := heap_cell HH.out 4
          have g5 := heap_cell HH.out 5
          have g6 := heap_cell HH.out 6
          have g7 := heap_cell HH.out 7
          have g8 := heap_cell HH.out 8
          have g9 := heap_cell HH.out 9
          have g10 := heap_cell HH.out 10
          have g11 := heap_cell HH.out 11
          by_cases k2 : n2 ≤ 60
          case pos =>
            by_cases k3 : n3 ≤ 3000
            case pos =>
              go_wp2_with (first
                | (go_at_call 32; (with_reducible refine (few09 _ _ (F5.out.since HB.out)).mono ?_); rintro e wc0 ⟨⟨bb, rfl⟩, hb⟩; have HBc0 := Lib.hid (HB.out.trans (hb.mono HB.out.size)); have HHc0 := Lib.hid ((hb.block w.heap.size ((Array.getElem?_eq_some_iff.1 HH.out).1)).trans HH.out); have g6x0 := heap_cell HHc0.out 6; have g7x0 := heap_cell HHc0.out 7; have g8x0 := heap_cell HHc0.out 8; have g9x0 := heap_cell HHc0.out 9; have g10x0 := heap_cell HHc0.out 10; have g11x0 := heap_cell HHc0.out 11; clear hb; cases bb)
                | (go_at_call 33; (with_reducible refine (few13 _ _ (F6.out.since HBc0.out)).mono ?_); rintro e wc1 ⟨⟨bb, rfl⟩, hb⟩; have HBc1 := Lib.hid (HBc0.out.trans (hb.mono HBc0.out.size)); have HHc1 := Lib.hid ((hb.block w.heap.size ((Array.getElem?_eq_some_iff.1 HHc0.out).1)).trans HHc0.out); have g7x1 := heap_cell HHc1.out 7; have g8x1 := heap_cell HHc1.out 8; have g9x1 := heap_cell HHc1.out 9; have g10x1 := heap_cell HHc1.out 10; have g11x1 := heap_cell HHc1.out 11; clear hb; cases bb)
                | (go_at_call 34; (with_reducible refine (few15 _ _ (F7.out.since HBc1.out)).mono ?_); rintro e wc2 ⟨⟨bb, rfl⟩, hb⟩; have HBc2 := Lib.hid (HBc1.out.trans (hb.mono HBc1.out.size)); have HHc2 := Lib.hid ((hb.block w.heap.size ((Array.getElem?_eq_some_iff.1 HHc1.out).1)).trans HHc1.out); have g8x2 := heap_cell HHc2.out 8; have g9x2 := heap_cell HHc2.out 9; have g10x2 := heap_cell HHc2.out 10; have g11x2 := heap_cell HHc2.out 11; clear hb; cases bb)
                | (go_at_call 35; (with_reducible refine (few16 _ _ (F8.out.since HBc2.out)).mono ?_); rintro e wc3 ⟨⟨bb, rfl⟩, hb⟩; have HBc3 := Lib.hid (HBc2.out.trans (hb.mono HBc2.out.size)); have HHc3 := Lib.hid ((hb.block w.heap.size ((Array.getElem?_eq_some_iff.1 HHc2.out).1)).trans HHc2.out); have g9x3 := heap_cell HHc3.out 9; have g10x3 := heap_cell HHc3.out 10; have g11x3 := heap_cell HHc3.out 11; clear hb; cases bb)
                | (go_at_call 36; (with_reducible refine (few17 _ _ (F9.out.since HBc3.out)).mono ?_); rintro e wc4 ⟨⟨bb, rfl⟩, hb⟩; have HBc4 := Lib.hid (HBc3.out.trans (hb.mono HBc3.out.size)); have HHc4 := Lib.hid ((hb.block w.heap.size ((Array.getElem?_eq_some_iff.1 HHc3.out).1)).trans HHc3.out); have g10x4 := heap_cell HHc4.out 10; have g11x4 := heap_cell HHc4.out 11; clear hb; cases bb)
                | (go_at_call 37; (with_reducible refine (few18 _ _ (F10.out.since HBc4.out)).mono ?_); rintro e wc5 ⟨⟨bb, rfl⟩, hb⟩; have HBc5 := Lib.hid (HBc4.out.trans (hb.mono HBc4.out.size)); have HHc5 := Lib.hid ((hb.block w.heap.size ((Array.getElem?_eq_some_iff.1 HHc4.out).1)).trans HHc4.out); have g11x5 := heap_cell HHc5.out 11; clear hb; cases bb)
                | (go_at_call 38; (with_reducible refine (few19 _ _ (F11.out.since HBc5.out)).mono ?_); rintro e wc6 ⟨⟨bb, rfl⟩, hb⟩; have HBc6 := Lib.hid (HBc5.out.trans (hb.mono HBc5.out.size)); have HHc6 := Lib.hid ((hb.block w.heap.size ((Array.getElem?_eq_some_iff.1 HHc5.out).1)).trans HHc5.out); clear hb; cases bb))
              all_goals (go_ret; first | exact ⟨⟨_, rfl, fun _ => ⟨k2, k3⟩⟩, HB.out⟩ | exact ⟨⟨_, rfl, fun _ => ⟨k2, k3⟩⟩, HBc0.out⟩ | exact ⟨⟨_, rfl, fun _ => ⟨k2, k3⟩⟩, HBc1.out⟩ | exact ⟨⟨_, rfl, fun _ => ⟨k2, k3⟩⟩, HBc2.out⟩ | exact ⟨⟨_, rfl, fun _ => ⟨k2, k3⟩⟩, HBc3.out⟩ | exact ⟨⟨_, rfl, fun _ => ⟨k2, k3⟩⟩, HBc4.out⟩ | exact ⟨⟨_, rfl, fun _ => ⟨k2, k3⟩⟩, HBc5.out⟩ | exact ⟨⟨_, rfl, fun _ => ⟨k2, k3⟩⟩, HBc6.out⟩)
            case neg =>
              go_wp2_with fail
              all_goals (go_ret; exact ⟨⟨_, rfl, fun h => by cases h⟩, HB.out⟩)
          case neg =>
            go_wp2_with fail
            all_goals (go_ret; exact ⟨⟨_, rfl, fun h => by cases h⟩, HB.out⟩)
end Go.Proofs.Ytfaklenclhljhaa
