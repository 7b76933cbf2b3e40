/- The fixed calls of the sixth chapter's statements come out true. Conditions: none. -/
import Derived.Test.YtdljlcbjpfgmcaaHeadB
namespace Go.Proofs.Ytdljlcbjpfgmcaa
open Go.RowKit
set_option maxRecDepth 100000
set_option maxHeartbeats 4000000

theorem sure06 (w : World) : Calls Try.prog 32 #[] w fun e w' => e = .returned (.bool true) ∧ Below w.heap.size w w' := by
  go_enter Try.func32, Try.ntmps32
  go_wp2_with fail
  refine (head_get (Ints.lit .u8 w 5 [4, 2, 0, 8, 0, 0, 0, 9] _ rfl (by decide) (by decide)) (by decide)).mono ?_
  rintro e w1 ⟨rfl, hb⟩
  rw [show hdOf [4, 2, 0, 8, 0, 0, 0, 9] = (⟨4, 2, 8, 9⟩, 0) by rfl, show (Hd.mk 4 2 8 9).val = .agg #[.int .i64 4, .int .i64 2, .int .i64 8, .int .u32 9] from rfl]
  have HB1 := Lib.hid (below1 hb)
  clear hb
  go_wp2_with fail
  refine (head_get (Ints.lit .u8 (w1.alloc _) 5 [4, 2, 0, 8, 0, 0, 0] _ (by simp) (by decide) (by decide)) (by decide)).mono ?_
  rintro e w2 ⟨rfl, hb⟩
  rw [show hdOf [4, 2, 0, 8, 0, 0, 0] = (⟨0, 0, 0, 0⟩, 10002) by rfl, show (Hd.mk 0 0 0 0).val = .agg #[.int .i64 0, .int .i64 0, .int .i64 0, .int .u32 0] from rfl]
  have HH2 : w2.heap[w1.heap.size]? = some (.cells #[.int .i64 4, .int .i64 2, .int .i64 8, .int .u32 9] 48 (0, 0)) := ((below1 hb).block _ (by simp)).trans (heap_alloc_new _ _)
  have HB2 := Lib.hid (HB1.out.trans ((below2 hb).mono HB1.out.size))
  have HS2 : Hid (w1.heap.size < w2.heap.size) := by have := (below1 hb).size; show _ < _; simp at this; omega
  have HH2 := Lib.hid HH2
  clear hb
  have HA := fun w => Lib.hid (head_answer 18 w)
  have HC1 := fun w => Lib.hid (head_check 4 2 8 9 w)
  have HC2 := fun w => Lib.hid (head_check 1 0 0 0 w)
  have HL := fun w => Lib.hid (head_least 29 w)
  rw [show answerS 18 = (19, true) from rfl] at HA
  rw [show checkS 4 2 8 = 0 from rfl] at HC1
  rw [show checkS 1 0 0 = 263 from rfl] at HC2
  rw [show leastS 29 = 16 from rfl] at HL
  go_wp2_with fail
  (with_reducible refine (HA _).out.mono ?_)
  rintro e w3 ⟨rfl, hw⟩
  have HB3 : Hid (Below w.heap.size w w3) := by subst hw; exact HB2.out.alloc HB2.out.size _
  have HH3 : w3.heap[w1.heap.size]? = some (.cells #[.int .i64 4, .int .i64 2, .int .i64 8, .int .u32 9] 48 (0, 0)) := by subst hw; exact ((below_alloc2 _).block _ HS2.out).trans HH2.out
  clear hw
  have c0 := cell_heap HH3 0
  have c1 := cell_heap HH3 1
  have c2 := cell_heap HH3 2
  have c3 := cell_heap HH3 3
  clear HH3
  go_wp2_with (first
    | (go_at_call 31; (with_reducible refine (HC1 _).out.mono ?_); rintro e w4 ⟨rfl, hb⟩; have HB4 := Lib.hid (HB3.out.trans (hb.mono HB3.out.size)); clear hb)
    | (go_at_call 31; (with_reducible refine (HC2 _).out.mono ?_); rintro e w6 ⟨rfl, hb⟩; have HB6 := Lib.hid (HB5.out.trans (hb.mono HB5.out.size)); clear hb)
    | (go_at_call 29; (with_reducible refine (HL _).out.mono ?_); rintro e w5 ⟨rfl, hb⟩; have HB5 := Lib.hid (HB4.out.trans (hb.mono HB4.out.size)); clear hb))
  go_ret
  exact ⟨rfl, HB6.out⟩
end Go.Proofs.Ytdljlcbjpfgmcaa
