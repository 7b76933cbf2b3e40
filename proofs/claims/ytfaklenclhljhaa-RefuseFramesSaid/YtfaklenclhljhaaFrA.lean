/- Errors by type and code: the walks of fault.Codes, Make, Pair, and of the document's. Conditions: none beyond each lemma's own. -/
import Derived.Test.YtfaklenclhljhaaRfC
namespace Go.Proofs.Ytfaklenclhljhaa
open Go.RowKit
set_option maxRecDepth 100000
set_option maxHeartbeats 4000000

/-- How many codes a type has. -/
def codesS (t : Int) : Int :=
  if t = 0 then 2 else
  if t = 1 then 14 else
  if t = 2 then 16 else
  if t = 3 then 10 else
  if t = 4 then 12 else
  if t = 5 then 8 else
  if t = 6 then 15 else
  if t = 7 then 5 else
  if t = 8 then 3 else
  if t = 9 then 3 else
  if t = 10 then 3 else
  if t = 11 then 3 else
  if t = 12 then 12 else
  if t = 13 then 6 else
  0

theorem codesS_cases (t : Int) : (t = 0 ∧ codesS t = 2) ∨ (t = 1 ∧ codesS t = 14) ∨ (t = 2 ∧ codesS t = 16) ∨ (t = 3 ∧ codesS t = 10) ∨ (t = 4 ∧ codesS t = 12) ∨ (t = 5 ∧ codesS t = 8) ∨ (t = 6 ∧ codesS t = 15) ∨ (t = 7 ∧ codesS t = 5) ∨ (t = 8 ∧ codesS t = 3) ∨ (t = 9 ∧ codesS t = 3) ∨ (t = 10 ∧ codesS t = 3) ∨ (t = 11 ∧ codesS t = 3) ∨ (t = 12 ∧ codesS t = 12) ∨ (t = 13 ∧ codesS t = 6) ∨ ((t ≠ 0 ∧ t ≠ 1 ∧ t ≠ 2 ∧ t ≠ 3 ∧ t ≠ 4 ∧ t ≠ 5 ∧ t ≠ 6 ∧ t ≠ 7 ∧ t ≠ 8 ∧ t ≠ 9 ∧ t ≠ 10 ∧ t ≠ 11 ∧ t ≠ 12 ∧ t ≠ 13) ∧ codesS t = 0) := by
  rcases (show t = 0 ∨ t = 1 ∨ t = 2 ∨ t = 3 ∨ t = 4 ∨ t = 5 ∨ t = 6 ∨ t = 7 ∨ t = 8 ∨ t = 9 ∨ t = 10 ∨ t = 11 ∨ t = 12 ∨ t = 13 ∨ (t ≠ 0 ∧ t ≠ 1 ∧ t ≠ 2 ∧ t ≠ 3 ∧ t ≠ 4 ∧ t ≠ 5 ∧ t ≠ 6 ∧ t ≠ 7 ∧ t ≠ 8 ∧ t ≠ 9 ∧ t ≠ 10 ∧ t ≠ 11 ∧ t ≠ 12 ∧ t ≠ 13) by omega) with rfl | rfl | rfl | rfl | rfl | rfl | rfl | rfl | rfl | rfl | rfl | rfl | rfl | rfl | h
  · exact .inl ⟨rfl, rfl⟩
  · exact .inr (.inl ⟨rfl, rfl⟩)
  · exact .inr (.inr (.inl ⟨rfl, rfl⟩))
  · exact .inr (.inr (.inr (.inl ⟨rfl, rfl⟩)))
  · exact .inr (.inr (.inr (.inr (.inl ⟨rfl, rfl⟩))))
  · exact .inr (.inr (.inr (.inr (.inr (.inl ⟨rfl, rfl⟩)))))
  · exact .inr (.inr (.inr (.inr (.inr (.inr (.inl ⟨rfl, rfl⟩))))))
  · exact .inr (.inr (.inr (.inr (.inr (.inr (.inr (.inl ⟨rfl, rfl⟩)))))))
  · exact .inr (.inr (.inr (.inr (.inr (.inr (.inr (.inr (.inl ⟨rfl, rfl⟩))))))))
  · exact .inr (.inr (.inr (.inr (.inr (.inr (.inr (.inr (.inr (.inl ⟨rfl, rfl⟩)))))))))
  · exact .inr (.inr (.inr (.inr (.inr (.inr (.inr (.inr (.inr (.inr (.inl ⟨rfl, rfl⟩))))))))))
  · exact .inr (.inr (.inr (.inr (.inr (.inr (.inr (.inr (.inr (.inr (.inr (.inl ⟨rfl, rfl⟩)))))))))))
  · exact .inr (.inr (.inr (.inr (.inr (.inr (.inr (.inr (.inr (.inr (.inr (.inr (.inl ⟨rfl, rfl⟩))))))))))))
  · exact .inr (.inr (.inr (.inr (.inr (.inr (.inr (.inr (.inr (.inr (.inr (.inr (.inr (.inl ⟨rfl, rfl⟩)))))))))))))
  · refine .inr (.inr (.inr (.inr (.inr (.inr (.inr (.inr (.inr (.inr (.inr (.inr (.inr (.inr (⟨h, ?_⟩))))))))))))))
    obtain ⟨h0, h1, h2, h3, h4, h5, h6, h7, h8, h9, h10, h11, h12, h13⟩ := h
    simp [codesS, h0, h1, h2, h3, h4, h5, h6, h7, h8, h9, h10, h11, h12, h13]

theorem codesS_range {t c : Int} (h0 : 0 ≤ c) (h : c < codesS t) : 0 ≤ t ∧ t < 14 ∧ c < 16 := by
  rcases codesS_cases t with ⟨rfl, h1⟩ | ⟨rfl, h1⟩ | ⟨rfl, h1⟩ | ⟨rfl, h1⟩ | ⟨rfl, h1⟩ | ⟨rfl, h1⟩ | ⟨rfl, h1⟩ | ⟨rfl, h1⟩ | ⟨rfl, h1⟩ | ⟨rfl, h1⟩ | ⟨rfl, h1⟩ | ⟨rfl, h1⟩ | ⟨rfl, h1⟩ | ⟨rfl, h1⟩ | ⟨-, h1⟩ <;> (rw [h1] at h; omega)
theorem codesS_bd (t : Int) : 0 ≤ codesS t ∧ codesS t ≤ 16 := by
  rcases codesS_cases t with ⟨rfl, h1⟩ | ⟨rfl, h1⟩ | ⟨rfl, h1⟩ | ⟨rfl, h1⟩ | ⟨rfl, h1⟩ | ⟨rfl, h1⟩ | ⟨rfl, h1⟩ | ⟨rfl, h1⟩ | ⟨rfl, h1⟩ | ⟨rfl, h1⟩ | ⟨rfl, h1⟩ | ⟨rfl, h1⟩ | ⟨rfl, h1⟩ | ⟨rfl, h1⟩ | ⟨-, h1⟩ <;> (rw [h1]; decide)

/-- The error of a type and a code. -/
def makeS (t c : Int) : Int × Bool := if 0 ≤ c ∧ c < codesS t then (256 * t + c + 1, true) else (0, false)
/-- An error's type and code. -/
def pairS (e : Int) : (Int × Int) × Bool := if 1 ≤ e ∧ (e - 1) % 256 < codesS ((e - 1) / 256) then (((e - 1) / 256, (e - 1) % 256), true) else ((0, 0), false)

theorem pair_make {e : Int} (h : (pairS e).2 = true) : makeS (pairS e).1.1 (pairS e).1.2 = (e, true) := by
  unfold pairS at h ⊢
  split at h
  · rename_i h1
    rw [if_pos h1]
    have := Int.emod_add_mul_ediv (e - 1) 256
    unfold makeS
    rw [if_pos ⟨Int.emod_nonneg _ (by decide), h1.2⟩]
    dsimp only
    congr 1
    omega
  · simp at h
theorem pairS_of {e t c : Int} (h0 : 0 ≤ c) (h : c < codesS t) (he : 256 * t + c + 1 = e) : pairS e = ((t, c), true) := by
  obtain ⟨h1, h2, h3⟩ := codesS_range h0 h
  have e1 : (e - 1) / 256 = t := by omega
  have e2 : (e - 1) % 256 = c := by omega
  unfold pairS
  rw [e1, e2, if_pos ⟨by omega, h⟩]
theorem pairS_none {e : Int} (h : ∀ t c : Int, 0 ≤ t → t < 14 → 0 ≤ c → c < codesS t → 256 * t + c + 1 ≠ e) : pairS e = ((0, 0), false) := by
  unfold pairS
  refine if_neg fun h1 => ?_
  have hc : 0 ≤ (e - 1) % 256 := Int.emod_nonneg _ (by decide)
  obtain ⟨a, b, -⟩ := codesS_range hc h1.2
  exact h _ _ a b hc h1.2 (by omega)
theorem pairS_bd {e : Int} (h : (pairS e).2 = true) : 0 ≤ (pairS e).1.1 ∧ (pairS e).1.1 < 14 ∧ 0 ≤ (pairS e).1.2 ∧ (pairS e).1.2 < 16 := by
  unfold pairS at h ⊢
  split at h
  · rename_i h1
    rw [if_pos h1]
    have hc : 0 ≤ (e - 1) % 256 := Int.emod_nonneg _ (by decide)
    obtain ⟨a, b, c⟩ := codesS_range hc h1.2
    exact ⟨a, b, hc, c⟩
  · simp at h

theorem go_codes (t : Int) (w : World) : Calls Try.prog 101 #[.int .i64 t] w fun e w' => e = .returned (.int .i64 (codesS t)) ∧ w = w' := by
  rcases codesS_cases t with ⟨rfl, hr⟩ | ⟨rfl, hr⟩ | ⟨rfl, hr⟩ | ⟨rfl, hr⟩ | ⟨rfl, hr⟩ | ⟨rfl, hr⟩ | ⟨rfl, hr⟩ | ⟨rfl, hr⟩ | ⟨rfl, hr⟩ | ⟨rfl, hr⟩ | ⟨rfl, hr⟩ | ⟨rfl, hr⟩ | ⟨rfl, hr⟩ | ⟨rfl, hr⟩ | ⟨⟨h0, h1, h2, h3, h4, h5, h6, h7, h8, h9, h10, h11, h12, h13⟩, hr⟩
  · rw [hr]
    clear hr
    go_enter Try.func101, Try.ntmps101
    go_wp2
    go_ret
    exact ⟨rfl, rfl⟩
  · rw [hr]
    clear hr
    go_enter Try.func101, Try.ntmps101
    go_wp2
    go_ret
    exact ⟨rfl, rfl⟩
  · rw [hr]
    clear hr
    go_enter Try.func101, Try.ntmps101
    go_wp2
    go_ret
    exact ⟨rfl, rfl⟩
  · rw [hr]
    clear hr
    go_enter Try.func101, Try.ntmps101
    go_wp2
    go_ret
    exact ⟨rfl, rfl⟩
  · rw [hr]
    clear hr
    go_enter Try.func101, Try.ntmps101
    go_wp2
    go_ret
    exact ⟨rfl, rfl⟩
  · rw [hr]
    clear hr
    go_enter Try.func101, Try.ntmps101
    go_wp2
    go_ret
    exact ⟨rfl, rfl⟩
  · rw [hr]
    clear hr
    go_enter Try.func101, Try.ntmps101
    go_wp2
    go_ret
    exact ⟨rfl, rfl⟩
  · rw [hr]
    clear hr
    go_enter Try.func101, Try.ntmps101
    go_wp2
    go_ret
    exact ⟨rfl, rfl⟩
  · rw [hr]
    clear hr
    go_enter Try.func101, Try.ntmps101
    go_wp2
    go_ret
    exact ⟨rfl, rfl⟩
  · rw [hr]
    clear hr
    go_enter Try.func101, Try.ntmps101
    go_wp2
    go_ret
    exact ⟨rfl, rfl⟩
  · rw [hr]
    clear hr
    go_enter Try.func101, Try.ntmps101
    go_wp2
    go_ret
    exact ⟨rfl, rfl⟩
  · rw [hr]
    clear hr
    go_enter Try.func101, Try.ntmps101
    go_wp2
    go_ret
    exact ⟨rfl, rfl⟩
  · rw [hr]
    clear hr
    go_enter Try.func101, Try.ntmps101
    go_wp2
    go_ret
    exact ⟨rfl, rfl⟩
  · rw [hr]
    clear hr
    go_enter Try.func101, Try.ntmps101
    go_wp2
    go_ret
    exact ⟨rfl, rfl⟩
  · rw [hr]
    clear hr
    have b0 : (t == 0) = false := by simpa using h0
    have b1 : (t == 1) = false := by simpa using h1
    have b2 : (t == 2) = false := by simpa using h2
    have b3 : (t == 3) = false := by simpa using h3
    have b4 : (t == 4) = false := by simpa using h4
    have b5 : (t == 5) = false := by simpa using h5
    have b6 : (t == 6) = false := by simpa using h6
    have b7 : (t == 7) = false := by simpa using h7
    have b8 : (t == 8) = false := by simpa using h8
    have b9 : (t == 9) = false := by simpa using h9
    have b10 : (t == 10) = false := by simpa using h10
    have b11 : (t == 11) = false := by simpa using h11
    have b12 : (t == 12) = false := by simpa using h12
    have b13 : (t == 13) = false := by simpa using h13
    clear h0 h1 h2 h3 h4 h5 h6 h7 h8 h9 h10 h11 h12 h13
    go_enter Try.func101, Try.ntmps101
    go_wp2
    go_ret
    exact ⟨rfl, rfl⟩

abbrev typesV : Array Value := #[.string ⟨#[104, 101, 108, 108, 111]⟩, .int .i64 2, .string ⟨#[114, 101, 113, 117, 101, 115, 116]⟩, .int .i64 14, .string ⟨#[97, 99, 116, 105, 111, 110]⟩, .int .i64 16, .string ⟨#[105, 110, 115, 116, 114, 117, 99, 116, 105, 111, 110]⟩, .int .i64 10, .string ⟨#[109, 97, 116, 99, 104]⟩, .int .i64 12, .string ⟨#[102, 108, 111, 119]⟩, .int .i64 8, .string ⟨#[103, 114, 111, 117, 112]⟩, .int .i64 15, .string ⟨#[112, 111, 114, 116]⟩, .int .i64 5, .string ⟨#[116, 97, 98, 108, 101]⟩, .int .i64 3, .string ⟨#[113, 117, 101, 117, 101]⟩, .int .i64 3, .string ⟨#[99, 111, 110, 102, 105, 103]⟩, .int .i64 3, .string ⟨#[114, 111, 108, 101]⟩, .int .i64 3, .string ⟨#[109, 101, 116, 101, 114]⟩, .int .i64 12, .string ⟨#[102, 101, 97, 116, 117, 114, 101, 115]⟩, .int .i64 6]

theorem ref_types (w : World) : Calls Try.prog 109 #[] w fun e w' => e = .returned (.slice (some ⟨w.heap.size, 0, none⟩) 14 14) ∧ w' = w.alloc (.cells typesV 162) := by
  go_enter Try.func109, Try.ntmps109
  go_wp2
  go_ret
  exact ⟨rfl, rfl⟩

theorem ref_codes (t : Int) (w : World) : Calls Try.prog 102 #[.int .i64 t] w fun e w' => e = .returned (.int .i64 (codesS t)) ∧ Below w.heap.size w w' := by
  have HB := Lib.hid (below_alloc2 (w := w) (.cells typesV 162))
  have HH := heap_alloc_new w (.cells typesV 162)
  have HT := Lib.hid (ref_types w)
  by_cases hr : t < 0 ∨ 14 ≤ t
  · have hc : codesS t = 0 := by
      rcases codesS_cases t with ⟨rfl, h1⟩ | ⟨rfl, h1⟩ | ⟨rfl, h1⟩ | ⟨rfl, h1⟩ | ⟨rfl, h1⟩ | ⟨rfl, h1⟩ | ⟨rfl, h1⟩ | ⟨rfl, h1⟩ | ⟨rfl, h1⟩ | ⟨rfl, h1⟩ | ⟨rfl, h1⟩ | ⟨rfl, h1⟩ | ⟨rfl, h1⟩ | ⟨rfl, h1⟩ | ⟨-, h1⟩
      all_goals first | exact h1 | (exfalso; omega)
    rw [hc]
    clear HH hc
    rcases hr with hr | hr
    · go_enter Try.func102, Try.ntmps102
      go_wp2_with fail
      (with_reducible refine HT.out.mono ?_)
      rintro e w1 ⟨rfl, rfl⟩
      have hd : decide (t < 0) = true := decide_eq_true hr
      go_wp2
      go_ret
      exact ⟨rfl, HB.out⟩
    · have hd : ¬ t < 0 := by omega
      go_enter Try.func102, Try.ntmps102
      go_wp2_with fail
      (with_reducible refine HT.out.mono ?_)
      rintro e w1 ⟨rfl, rfl⟩
      go_wp2
      go_ret
      exact ⟨rfl, HB.out⟩
  · rcases codesS_cases t with ⟨rfl, h1⟩ | ⟨rfl, h1⟩ | ⟨rfl, h1⟩ | ⟨rfl, h1⟩ | ⟨rfl, h1⟩ | ⟨rfl, h1⟩ | ⟨rfl, h1⟩ | ⟨rfl, h1⟩ | ⟨rfl, h1⟩ | ⟨rfl, h1⟩ | ⟨rfl, h1⟩ | ⟨rfl, h1⟩ | ⟨rfl, h1⟩ | ⟨rfl, h1⟩ | ⟨⟨h0, h1, h2, h3, h4, h5, h6, h7, h8, h9, h10, h11, h12, h13⟩, -⟩
    · rw [h1]
      clear h1 hr
      have c := cell_heap HH 1
      clear HH
      go_enter Try.func102, Try.ntmps102
      go_wp2_with fail
      (with_reducible refine HT.out.mono ?_)
      rintro e w1 ⟨rfl, rfl⟩
      go_wp2
      go_ret
      exact ⟨rfl, HB.out⟩
    · rw [h1]
      clear h1 hr
      have c := cell_heap HH 3
      clear HH
      go_enter Try.func102, Try.ntmps102
      go_wp2_with fail
      (with_reducible refine HT.out.mono ?_)
      rintro e w1 ⟨rfl, rfl⟩
      go_wp2
      go_ret
      exact ⟨rfl, HB.out⟩
    · rw [h1]
      clear h1 hr
      have c := cell_heap HH 5
      clear HH
      go_enter Try.func102, Try.ntmps102
      go_wp2_with fail
      (with_reducible refine HT.out.mono ?_)
      rintro e w1 ⟨rfl, rfl⟩
      go_wp2
      go_ret
      exact ⟨rfl, HB.out⟩
    · rw [h1]
      clear h1 hr
      have c := cell_heap HH 7
      clear HH
      go_enter Try.func102, Try.ntmps102
      go_wp2_with fail
      (with_reducible refine HT.out.mono ?_)
      rintro e w1 ⟨rfl, rfl⟩
      go_wp2
      go_ret
      exact ⟨rfl, HB.out⟩
    · rw [h1]
      clear h1 hr
      have c := cell_heap HH 9
      clear HH
      go_enter Try.func102, Try.ntmps102
      go_wp2_with fail
      (with_reducible refine HT.out.mono ?_)
      rintro e w1 ⟨rfl, rfl⟩
      go_wp2
      go_ret
      exact ⟨rfl, HB.out⟩
    · rw [h1]
      clear h1 hr
      have c := cell_heap HH 11
      clear HH
      go_enter Try.func102, Try.ntmps102
      go_wp2_with fail
      (with_reducible refine HT.out.mono ?_)
      rintro e w1 ⟨rfl, rfl⟩
      go_wp2
      go_ret
      exact ⟨rfl, HB.out⟩
    · rw [h1]
      clear h1 hr
      have c := cell_heap HH 13
      clear HH
      go_enter Try.func102, Try.ntmps102
      go_wp2_with fail
      (with_reducible refine HT.out.mono ?_)
      rintro e w1 ⟨rfl, rfl⟩
      go_wp2
      go_ret
      exact ⟨rfl, HB.out⟩
    · rw [h1]
      clear h1 hr
      have c := cell_heap HH 15
      clear HH
      go_enter Try.func102, Try.ntmps102
      go_wp2_with fail
      (with_reducible refine HT.out.mono ?_)
      rintro e w1 ⟨rfl, rfl⟩
      go_wp2
      go_ret
      exact ⟨rfl, HB.out⟩
    · rw [h1]
      clear h1 hr
      have c := cell_heap HH 17
      clear HH
      go_enter Try.func102, Try.ntmps102
      go_wp2_with fail
      (with_reducible refine HT.out.mono ?_)
      rintro e w1 ⟨rfl, rfl⟩
      go_wp2
      go_ret
      exact ⟨rfl, HB.out⟩
    · rw [h1]
      clear h1 hr
      have c := cell_heap HH 19
      clear HH
      go_enter Try.func102, Try.ntmps102
      go_wp2_with fail
      (with_reducible refine HT.out.mono ?_)
      rintro e w1 ⟨rfl, rfl⟩
      go_wp2
      go_ret
      exact ⟨rfl, HB.out⟩
    · rw [h1]
      clear h1 hr
      have c := cell_heap HH 21
      clear HH
      go_enter Try.func102, Try.ntmps102
      go_wp2_with fail
      (with_reducible refine HT.out.mono ?_)
      rintro e w1 ⟨rfl, rfl⟩
      go_wp2
      go_ret
      exact ⟨rfl, HB.out⟩
    · rw [h1]
      clear h1 hr
      have c := cell_heap HH 23
      clear HH
      go_enter Try.func102, Try.ntmps102
      go_wp2_with fail
      (with_reducible refine HT.out.mono ?_)
      rintro e w1 ⟨rfl, rfl⟩
      go_wp2
      go_ret
      exact ⟨rfl, HB.out⟩
    · rw [h1]
      clear h1 hr
      have c := cell_heap HH 25
      clear HH
      go_enter Try.func102, Try.ntmps102
      go_wp2_with fail
      (with_reducible refine HT.out.mono ?_)
      rintro e w1 ⟨rfl, rfl⟩
      go_wp2
      go_ret
      exact ⟨rfl, HB.out⟩
    · rw [h1]
      clear h1 hr
      have c := cell_heap HH 27
      clear HH
      go_enter Try.func102, Try.ntmps102
      go_wp2_with fail
      (with_reducible refine HT.out.mono ?_)
      rintro e w1 ⟨rfl, rfl⟩
      go_wp2
      go_ret
      exact ⟨rfl, HB.out⟩
    · exfalso; omega

theorem wrap_i64 {n : Int} (h1 : -9223372036854775808 ≤ n) (h2 : n ≤ 9223372036854775807) : IntKind.wrap .i64 n = n := by
  simp [IntKind.wrap, IntKind.signed, IntKind.bits]; omega

theorem go_make (t c : Int) (w : World) (_ht : (Lit.int .i64 t).wf = true) (_hc : (Lit.int .i64 c).wf = true) : Calls Try.prog 69 #[.int .i64 t, .int .i64 c] w fun e w' => e = .returned (.tuple #[.int .i64 (makeS t c).1, .bool (makeS t c).2]) ∧ w = w' := by
  by_cases h0 : c < 0
  · have hq : makeS t c = (0, false) := if_neg (by omega)
    rw [hq]
    go_enter Try.func69, Try.ntmps69
    go_wp2
    go_ret2
    exact ⟨rfl, rfl⟩
  by_cases h1 : codesS t ≤ c
  · have hq : makeS t c = (0, false) := if_neg (by omega)
    rw [hq]
    go_enter Try.func69, Try.ntmps69
    go_wp2_with (go_at_call 101; (with_reducible refine (go_codes t _).mono ?_); rintro e w1 ⟨rfl, rfl⟩)
    go_ret2
    exact ⟨rfl, rfl⟩
  · have hq : makeS t c = (256 * t + c + 1, true) := if_pos (by omega)
    obtain ⟨a1, a2, a3⟩ := codesS_range (t := t) (c := c) (by omega) (by omega)
    have x1 : IntKind.wrap .i64 (256 * t) = 256 * t := wrap_i64 (by omega) (by omega)
    have x2 : IntKind.wrap .i64 (256 * t + c) = 256 * t + c := wrap_i64 (by omega) (by omega)
    have x3 : IntKind.wrap .i64 (256 * t + c + 1) = 256 * t + c + 1 := wrap_i64 (by omega) (by omega)
    rw [hq]
    go_enter Try.func69, Try.ntmps69
    go_wp2_with (go_at_call 101; (with_reducible refine (go_codes t _).mono ?_); rintro e w1 ⟨rfl, rfl⟩)
    go_ret2
    exact ⟨rfl, rfl⟩

theorem ref_make (t c : Int) (w : World) (_ht : (Lit.int .i64 t).wf = true) (_hc : (Lit.int .i64 c).wf = true) : Calls Try.prog 70 #[.int .i64 t, .int .i64 c] w fun e w' => e = .returned (.tuple #[.int .i64 (makeS t c).1, .bool (makeS t c).2]) ∧ Below w.heap.size w w' := by
  by_cases h0 : c < 0
  · have hq : makeS t c = (0, false) := if_neg (by omega)
    rw [hq]
    go_enter Try.func70, Try.ntmps70
    go_wp2
    go_ret2
    exact ⟨rfl, Below.refl _ _⟩
  by_cases h1 : codesS t ≤ c
  · have hq : makeS t c = (0, false) := if_neg (by omega)
    rw [hq]
    go_enter Try.func70, Try.ntmps70
    go_wp2_with (go_at_call 102; (with_reducible refine (ref_codes t _).mono ?_); rintro e w1 ⟨rfl, hb⟩; have HB := Lib.hid hb; clear hb)
    go_ret2
    exact ⟨rfl, HB.out⟩
  · have hq : makeS t c = (256 * t + c + 1, true) := if_pos (by omega)
    obtain ⟨a1, a2, a3⟩ := codesS_range (t := t) (c := c) (by omega) (by omega)
    have x1 : IntKind.wrap .i64 (256 * t) = 256 * t := wrap_i64 (by omega) (by omega)
    have x2 : IntKind.wrap .i64 (256 * t + c) = 256 * t + c := wrap_i64 (by omega) (by omega)
    have x3 : IntKind.wrap .i64 (256 * t + c + 1) = 256 * t + c + 1 := wrap_i64 (by omega) (by omega)
    rw [hq]
    go_enter Try.func70, Try.ntmps70
    go_wp2_with (go_at_call 102; (with_reducible refine (ref_codes t _).mono ?_); rintro e w1 ⟨rfl, hb⟩; have HB := Lib.hid hb; clear hb)
    go_ret2
    exact ⟨rfl, HB.out⟩

end Go.Proofs.Ytfaklenclhljhaa
