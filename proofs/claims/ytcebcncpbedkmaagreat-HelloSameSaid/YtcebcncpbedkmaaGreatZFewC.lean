/- The walk of the document's Few of a message: it answers something; of which it says yes has few numbers and bytes. Conditions: the argument fits its type. -/
import Derived.Test.YtcebcncpbedkmaaGreatZFewA
import Derived.Test.YtcebcncpbedkmaaGreatZHelP
import Derived.Test.YtcebcncpbedkmaaGreatZCurA
import Derived.Test.YtcebcncpbedkmaaGreatZTlvE
namespace Go.Proofs.YtcebcncpbedkmaaGreat
open Go.RowKit
set_option maxRecDepth 100000
set_option maxHeartbeats 4000000

/-- A yes, of few numbers and bytes, or a no. -/
def YesFew (n d : Nat) (els : List Elt) (e : Ending) : Prop := ∃ b, e = .returned (.bool b) ∧ (b = true → (n ≤ 60 ∧ d ≤ 3000) ∧ els.length ≤ 20 ∧ ∀ x ∈ els, x.2.length ≤ 500)

theorem few21 (m0 m1 m5 m6 m7 m8 m9 m10 m11 m12 m13 m4 m14 : Value) (a2 a3 : Option Addr) (n2 c2 n3 c3 : Nat) (w : World) {els : List Elt} (h4 : RowsOf ItemR 2 w m4 els) (h5 : Fit Tryz.prog w 26 m5) (h6 : Fit Tryz.prog w 27 m6) (h7 : Fit Tryz.prog w 28 m7) (h8 : Fit Tryz.prog w 29 m8) (h9 : Fit Tryz.prog w 30 m9) (h10 : Fit Tryz.prog w 31 m10) (h11 : Fit Tryz.prog w 32 m11) (h14 : Fit Tryz.prog w 33 m14) :
    Calls Tryz.prog 4 #[.agg #[m0, m1, .slice a2 n2 c2, .slice a3 n3 c3, m4, m5, m6, m7, m8, m9, m10, m11, m12, m13, m14]] w fun e w' => YesFew n2 n3 els e ∧ Below w.heap.size w w' := by
  obtain ⟨a4, c4, b4, off4, rfl, hl4, hm4, -, ha4, hit4⟩ := items_open h4
  obtain ⟨a14, n14, c14, b14, off14, q14, rfl, hl14, hm14, ha14, hcell14, hfit14⟩ := h14.opens Tryz.underlying33 (C := 10) (by kernel_rfl) (by decide)
  have F5 := Lib.hid h5
  have F6 := Lib.hid h6
  have F7 := Lib.hid h7
  have F8 := Lib.hid h8
  have F9 := Lib.hid h9
  have F10 := Lib.hid h10
  have F11 := Lib.hid h11
  have HB0 : Hid (Below w.heap.size w (w.alloc (.cells #[m0, m1, .slice a2 n2 c2, .slice a3 n3 c3, .slice a4 els.length c4, m5, m6, m7, m8, m9, m10, m11, m12, m13, .slice a14 n14 c14] 35))) := below_alloc2 _
  have HH0 : Hid ((w.alloc (.cells #[m0, m1, .slice a2 n2 c2, .slice a3 n3 c3, .slice a4 els.length c4, m5, m6, m7, m8, m9, m10, m11, m12, m13, .slice a14 n14 c14] 35)).heap[w.heap.size]? = some (.cells #[m0, m1, .slice a2 n2 c2, .slice a3 n3 c3, .slice a4 els.length c4, m5, m6, m7, m8, m9, m10, m11, m12, m13, .slice a14 n14 c14] 35 (0, 0))) := heap_alloc_new _ _
  have A4 := Lib.hid ha4
  have C4 := Lib.hid hit4
  have A14 := Lib.hid ha14
  have C14 := Lib.hid hcell14
  have G14 := Lib.hid hfit14
  have hle4 : els.length ≤ 9223372036854775807 := by unfold maxLen at hm4; omega
  have hle14 : n14 ≤ 9223372036854775807 := by unfold maxLen at hm14; omega
  clear ha4 hit4 ha14 hcell14 hfit14 h4 h5 h6 h7 h8 h9 h10 h11 h14
  go_enter Tryz.func4, Tryz.ntmps4
  go_wp2
  go_loopw [2, 3] (fun r i wi => ∃ (k : Nat), k ≤ els.length ∧ i = .int .i64 k ∧ r = .bool false ∧ Hid (∀ x ∈ els.take k, x.2.length ≤ 500) ∧ wi = w.alloc (.cells #[m0, m1, .slice a2 n2 c2, .slice a3 n3 c3, .slice a4 els.length c4, m5, m6, m7, m8, m9, m10, m11, m12, m13, .slice a14 n14 c14] 35)) (fun _ i _ => els.length - (intOf i).toNat)
  case atStart => exact ⟨0, Nat.zero_le _, rfl, rfl, fun x hx => by simp at hx, rfl⟩
  case round =>
    obtain ⟨k, hk, rfl, rfl, HE, rfl⟩ := hrel
    by_cases hlt : k < els.length
    · obtain rfl := A4.out (by omega)
      obtain ⟨⟨t, zs⟩, hx⟩ : ∃ x, els[k]? = some x := ⟨_, List.getElem?_eq_getElem hlt⟩
      obtain ⟨bv, -, hc, hbv, -⟩ := C4.out k t zs hx
      have hc := since_cell HB0.out hc
      obtain ⟨x1, z1, bb1, oo1, rfl, -⟩ := hbv.open
      have hbl := hbv.le
      have hlt' : (k : Int) < els.length := by omega
      have HX := Lib.hid hx
      clear hx hbv
      by_cases hb : zs.length ≤ 500
      · have e5 : ¬ (500 : Int) < (zs.length : Int) := by omega
        have HE2 : Hid (∀ x ∈ els.take (k + 1), x.2.length ≤ 500) := by
          show ∀ x ∈ _, _
          rw [take_snoc' HX.out]
          intro x hx
          rcases List.mem_append.1 hx with hx | hx
          · exact HE.out x hx
          · simp at hx; subst hx; exact hb
        clear hb
        go_wp2_with fail
        go_roundw
        case rel => exact ⟨k + 1, by omega, by go_num, rfl, HE2.out, by trivial⟩
        case measure => simp [intOf]; omega
      · have e5 : (500 : Int) < (zs.length : Int) := by omega
        clear hb
        go_wp2_with fail
        go_ret
        exact ⟨⟨_, rfl, fun h => by cases h⟩, HB0.out⟩
    · obtain rfl : k = els.length := by omega
      rw [List.take_length] at HE
      have e5 : ¬ ((els.length : Nat) : Int) < (els.length : Int) := by omega
      go_wp2_with fail
      go_loopw [2, 4] (fun r i wi => ∃ (j : Nat), j ≤ n14 ∧ i = .int .i64 j ∧ r = .bool false ∧ Hid (Below w.heap.size w wi) ∧ Hid (wi.heap[w.heap.size]? = some (.cells #[m0, m1, .slice a2 n2 c2, .slice a3 n3 c3, .slice a4 els.length c4, m5, m6, m7, m8, m9, m10, m11, m12, m13, .slice a14 n14 c14] 35 (0, 0)))) (fun _ i _ => n14 - (intOf i).toNat)
      case atStart => exact ⟨0, Nat.zero_le _, rfl, rfl, HB0, HH0⟩
      case round =>
        obtain ⟨j, hj, rfl, rfl, HB, HH⟩ := hrel
        have g14 := heap_cell HH.out 14
        by_cases hjl : j < n14
        · obtain rfl := A14.out (by omega)
          have hc := C14.out j
          have d0 := since_cell HB.out (hc 0 hjl (by omega))
          have d1 := since_cell HB.out (hc 1 hjl (by omega))
          have d2 := since_cell HB.out (hc 2 hjl (by omega))
          have d3 := since_cell HB.out (hc 3 hjl (by omega))
          have d4 := since_cell HB.out (hc 4 hjl (by omega))
          have d5 := since_cell HB.out (hc 5 hjl (by omega))
          have d6 := since_cell HB.out (hc 6 hjl (by omega))
          have d7 := since_cell HB.out (hc 7 hjl (by omega))
          have d8 := since_cell HB.out (hc 8 hjl (by omega))
          have d9 := since_cell HB.out (hc 9 hjl (by omega))
          rw [Nat.add_zero] at d0
          clear hc
          have hf := G14.out j hjl
          have HP := fun w' (hb : Below w.heap.size w w') => Lib.hid (fewPart (q14 j 0) (q14 j 1) (q14 j 2) (q14 j 3) (q14 j 4) (q14 j 5) (q14 j 6) (q14 j 7) (q14 j 8) (q14 j 9) w' ((hf 0 23 (by kernel_rfl) (by kernel_rfl)).since hb) ((hf 1 42 (by kernel_rfl) (by kernel_rfl)).since hb) ((hf 2 26 (by kernel_rfl) (by kernel_rfl)).since hb) ((hf 3 28 (by kernel_rfl) (by kernel_rfl)).since hb) ((hf 4 29 (by kernel_rfl) (by kernel_rfl)).since hb) ((hf 5 30 (by kernel_rfl) (by kernel_rfl)).since hb) ((hf 6 43 (by kernel_rfl) (by kernel_rfl)).since hb) ((hf 7 32 (by kernel_rfl) (by kernel_rfl)).since hb) ((hf 8 44 (by kernel_rfl) (by kernel_rfl)).since hb) ((hf 9 24 (by kernel_rfl) (by kernel_rfl)).since hb))
          clear hf
          have hjl' : (j : Int) < n14 := by omega
          go_wp2_with (go_at_call 10; (with_reducible refine (HP _ HB.out).out.mono ?_); rintro e wp ⟨⟨bb, rfl⟩, hb⟩; have HBp := Lib.hid (HB.out.trans (hb.mono HB.out.size)); have HHp := Lib.hid ((hb.block w.heap.size ((Array.getElem?_eq_some_iff.1 HH.out).1)).trans HH.out); clear hb; cases bb)
          all_goals first
            | (go_ret; exact ⟨⟨_, rfl, fun h => by cases h⟩, HBp.out⟩)
            | (go_roundw; (case rel => exact ⟨j + 1, by omega, by go_num, rfl, HBp, HHp⟩); (case measure => simp [intOf]; omega))
        · obtain rfl : n14 = j := by omega
          have g2 := heap_cell HH.out 2
          have g3 := heap_cell HH.out 3
          have g4 := heap_cell HH.out 4
          have g5 := heap_cell HH.out 5
          have g6 := heap_cell HH.out 6
          have g7 := heap_cell HH.out 7
          have g8 := heap_cell HH.out 8
          have g9 := heap_cell HH.out 9
          have g10 := heap_cell HH.out 10
          have g11 := heap_cell HH.out 11
          by_cases k2 : n2 ≤ 60
          case pos =>
            by_cases k3 : n3 ≤ 3000 ∧ els.length ≤ 20
            case pos =>
              obtain ⟨k3, k4⟩ := k3
              go_wp2_with (first
                | (go_at_call 11; (with_reducible refine (few09 _ _ (F5.out.since HB.out)).mono ?_); rintro e wc0 ⟨⟨bb, rfl⟩, hb⟩; have HBc0 := Lib.hid (HB.out.trans (hb.mono HB.out.size)); have HHc0 := Lib.hid ((hb.block w.heap.size ((Array.getElem?_eq_some_iff.1 HH.out).1)).trans HH.out); have g6x0 := heap_cell HHc0.out 6; have g7x0 := heap_cell HHc0.out 7; have g8x0 := heap_cell HHc0.out 8; have g9x0 := heap_cell HHc0.out 9; have g10x0 := heap_cell HHc0.out 10; have g11x0 := heap_cell HHc0.out 11; clear hb; cases bb)
                | (go_at_call 12; (with_reducible refine (few13 _ _ (F6.out.since HBc0.out)).mono ?_); rintro e wc1 ⟨⟨bb, rfl⟩, hb⟩; have HBc1 := Lib.hid (HBc0.out.trans (hb.mono HBc0.out.size)); have HHc1 := Lib.hid ((hb.block w.heap.size ((Array.getElem?_eq_some_iff.1 HHc0.out).1)).trans HHc0.out); have g7x1 := heap_cell HHc1.out 7; have g8x1 := heap_cell HHc1.out 8; have g9x1 := heap_cell HHc1.out 9; have g10x1 := heap_cell HHc1.out 10; have g11x1 := heap_cell HHc1.out 11; clear hb; cases bb)
                | (go_at_call 13; (with_reducible refine (few15 _ _ (F7.out.since HBc1.out)).mono ?_); rintro e wc2 ⟨⟨bb, rfl⟩, hb⟩; have HBc2 := Lib.hid (HBc1.out.trans (hb.mono HBc1.out.size)); have HHc2 := Lib.hid ((hb.block w.heap.size ((Array.getElem?_eq_some_iff.1 HHc1.out).1)).trans HHc1.out); have g8x2 := heap_cell HHc2.out 8; have g9x2 := heap_cell HHc2.out 9; have g10x2 := heap_cell HHc2.out 10; have g11x2 := heap_cell HHc2.out 11; clear hb; cases bb)
                | (go_at_call 14; (with_reducible refine (few16 _ _ (F8.out.since HBc2.out)).mono ?_); rintro e wc3 ⟨⟨bb, rfl⟩, hb⟩; have HBc3 := Lib.hid (HBc2.out.trans (hb.mono HBc2.out.size)); have HHc3 := Lib.hid ((hb.block w.heap.size ((Array.getElem?_eq_some_iff.1 HHc2.out).1)).trans HHc2.out); have g9x3 := heap_cell HHc3.out 9; have g10x3 := heap_cell HHc3.out 10; have g11x3 := heap_cell HHc3.out 11; clear hb; cases bb)
                | (go_at_call 15; (with_reducible refine (few17 _ _ (F9.out.since HBc3.out)).mono ?_); rintro e wc4 ⟨⟨bb, rfl⟩, hb⟩; have HBc4 := Lib.hid (HBc3.out.trans (hb.mono HBc3.out.size)); have HHc4 := Lib.hid ((hb.block w.heap.size ((Array.getElem?_eq_some_iff.1 HHc3.out).1)).trans HHc3.out); have g10x4 := heap_cell HHc4.out 10; have g11x4 := heap_cell HHc4.out 11; clear hb; cases bb)
                | (go_at_call 16; (with_reducible refine (few18 _ _ (F10.out.since HBc4.out)).mono ?_); rintro e wc5 ⟨⟨bb, rfl⟩, hb⟩; have HBc5 := Lib.hid (HBc4.out.trans (hb.mono HBc4.out.size)); have HHc5 := Lib.hid ((hb.block w.heap.size ((Array.getElem?_eq_some_iff.1 HHc4.out).1)).trans HHc4.out); have g11x5 := heap_cell HHc5.out 11; clear hb; cases bb)
                | (go_at_call 17; (with_reducible refine (few19 _ _ (F11.out.since HBc5.out)).mono ?_); rintro e wc6 ⟨⟨bb, rfl⟩, hb⟩; have HBc6 := Lib.hid (HBc5.out.trans (hb.mono HBc5.out.size)); have HHc6 := Lib.hid ((hb.block w.heap.size ((Array.getElem?_eq_some_iff.1 HHc5.out).1)).trans HHc5.out); clear hb; cases bb))
              all_goals (go_ret; first | exact ⟨⟨_, rfl, fun _ => ⟨⟨k2, k3⟩, k4, HE.out⟩⟩, HB.out⟩ | exact ⟨⟨_, rfl, fun _ => ⟨⟨k2, k3⟩, k4, HE.out⟩⟩, HBc0.out⟩ | exact ⟨⟨_, rfl, fun _ => ⟨⟨k2, k3⟩, k4, HE.out⟩⟩, HBc1.out⟩ | exact ⟨⟨_, rfl, fun _ => ⟨⟨k2, k3⟩, k4, HE.out⟩⟩, HBc2.out⟩ | exact ⟨⟨_, rfl, fun _ => ⟨⟨k2, k3⟩, k4, HE.out⟩⟩, HBc3.out⟩ | exact ⟨⟨_, rfl, fun _ => ⟨⟨k2, k3⟩, k4, HE.out⟩⟩, HBc4.out⟩ | exact ⟨⟨_, rfl, fun _ => ⟨⟨k2, k3⟩, k4, HE.out⟩⟩, HBc5.out⟩ | exact ⟨⟨_, rfl, fun _ => ⟨⟨k2, k3⟩, k4, HE.out⟩⟩, HBc6.out⟩)
            case neg =>
              have k3 : ¬ n3 ≤ 3000 ∨ (n3 ≤ 3000 ∧ ¬ els.length ≤ 20) := by omega
              rcases k3 with k3 | ⟨k3, k4⟩
              all_goals go_wp2_with fail
              all_goals (go_ret; exact ⟨⟨_, rfl, fun h => by cases h⟩, HB.out⟩)
          case neg =>
            go_wp2_with fail
            all_goals (go_ret; exact ⟨⟨_, rfl, fun h => by cases h⟩, HB.out⟩)
end Go.Proofs.YtcebcncpbedkmaaGreat
