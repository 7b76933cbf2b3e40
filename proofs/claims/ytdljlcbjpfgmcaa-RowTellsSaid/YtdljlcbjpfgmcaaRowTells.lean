/- 'RowTells': for every list of widths the call returns true: whether the widths are a row, its size and its count are told as the document tells them. Conditions: none. -/
import Derived.Test.YtdljlcbjpfgmcaaSure01
import Derived.Test.YtdljlcbjpfgmcaaFrame
namespace Go.Proofs.Ytdljlcbjpfgmcaa
open Go.RowKit

set_option maxRecDepth 100000 in
set_option maxHeartbeats 400000 in
theorem walk_RowTells (v : Value) (zs : List Int) (w : World) (h : Ints .i64 w v zs) :
    Calls Try.prog 3 #[v] w fun e w' => e = .returned (.bool true) ∧ Below w.heap.size w w' := by
  have hle := h.le
  have R1 := Lib.hid (row_right v zs w h)
  have R2 := Lib.hid (ref_right v zs w h)
  have R3 := Lib.hid (row_size v zs w h)
  have R4 := Lib.hid (ref_size v zs w h)
  have R5 := Lib.hid (row_count v zs w h)
  have R6 := Lib.hid (ref_count v zs w h)
  obtain ⟨a, cap, b, off, rfl, -⟩ := h.open
  clear h
  generalize RightS zs = A at *
  generalize sizeS zs = B at *
  generalize countS zs = C at *
  by_cases h500 : 500 < zs.length
  · go_enter Try.func3, Try.ntmps3
    go_wp2_with (go_at_call 16; refine (sure01 _).mono ?_; rintro e w' ⟨rfl, hb⟩)
    go_ret
    exact ⟨rfl, hb⟩
  · go_enter Try.func3, Try.ntmps3
    go_wp2_with (first | (go_at_call 17; refine R1.out.mono ?_; rintro e w' ⟨rfl, rfl⟩) | (go_at_call 18; refine R2.out.mono ?_; rintro e w' ⟨rfl, rfl⟩) | (go_at_call 19; refine R3.out.mono ?_; rintro e w' ⟨rfl, rfl⟩) | (go_at_call 20; refine R4.out.mono ?_; rintro e w' ⟨rfl, rfl⟩) | (go_at_call 21; refine R5.out.mono ?_; rintro e w' ⟨rfl, rfl⟩) | (go_at_call 22; refine R6.out.mono ?_; rintro e w' ⟨rfl, rfl⟩) | (go_at_call 16; refine (sure01 _).mono ?_; rintro e w' ⟨rfl, hb⟩))
    go_ret
    exact ⟨rfl, hb⟩

section
open Go.ChangeShapes Go.WideShapes Go.ChangeAt Go.RowKit
set_option maxRecDepth 100000 in
theorem lifted_RowTells (os : Os) (started : os.Started) (H : Type) (enc : TypeId × Value → H) :
    ReturnsInHanded {} Try.checked os 3 .any (Rows.rowTellsSpec.pre6 enc Try.prog Try.f3 Rows.rowTellsRow.domain false) (Rows.rowTellsSpec.post enc Try.prog Try.f3 false true false false) := by
  refine returnsInHanded_of_change (C := Try.checked) frame_own started (by kernel_rfl) Try.func3
    (ChangeSpec.witness6 (enc := enc) (C := Try.checked) false ⟨#[], #[.slice none 0 0], []⟩ 8 (by kernel_rfl) (by kernel_rfl) (by kernel_rfl) (by kernel_rfl)) ?_
  intro W base args ds gs before hval0 hW hcnd _
  have hval : ∀ (j : Nat) t v, Try.f3.params[j]? = some t → args[j]? = some v → Value.okWide Try.prog W .any base t v := hval0
  have hW' := hW
  obtain ⟨p, q, hA0, hV, rfl, hfz, hnd⟩ := hW
  have hA : DataW.TrodAll enc Try.prog W 0 (fun _ => true) true Try.f3.params.toList args.toList ds p := hA0
  rw [Try.params3] at hA hval
  obtain ⟨v0, vs0, d0, ds0, p0, q0, hargs, rfl, rfl, h0, r0⟩ := trodAll_cons hA
  obtain ⟨rfl, rfl, rfl⟩ := trodAll_nil r0
  obtain rfl : args = #[v0] := by cases args; simp_all
  obtain ⟨rfl, rfl⟩ := trodVars_none hV
  obtain ⟨a0, len0, cap0, rfl⟩ := okWide_slice Try.underlying22 (hval 0 22 v0 rfl rfl)
  have k0 := h0
  have lt0 : ∀ x ∈ p0, x.block < W.heap.size := by obtain ⟨m, hm⟩ := k0; exact DataW.trod_lt m _ _ _ hm
  obtain ⟨z0, w0⟩ := arg_ints (k := .i64) Try.underlying22 Try.underlying3 (by kernel_rfl) h0 (fun _ => rfl)
  clear hA0 hval0
  refine (walk_RowTells _ z0 W w0).mono fun e W' ⟨he, bel⟩ => ?_
  subst he
  exact ⟨_, rfl, _, _, _, [], _, [], hW', trodAll_mk1 (shut_bool Try.underlying4 _), (trodAll_cons_mk (Below.trod frame_laidOut (by kernel_rfl) (of_decide_eq_true (by kernel_rfl)) k0 bel lt0) trodAll_mk0), rfl, bel.frame _, fun h => by cases h⟩

theorem RowTells_over : Rows.rowTellsRow.holds Try.pinned (OpenSpec.ofChange Rows.rowTellsSpec) :=
  OpenClaim.holds_of_wide 3 Try.f3 rfl rfl rfl rfl rfl rfl rfl ⟨rfl, rfl, rfl, rfl, rfl⟩ rfl rfl rfl rfl rfl (by kernel_rfl) Try.func3 (by kernel_rfl)
    (of_decide_eq_true (by kernel_rfl)) (by unfold Func.isWrapper; first | (rw [if_pos (by decide +kernel)]; kernel_rfl) | (rw [if_neg (by decide +kernel)]; exact ⟨rfl, rfl⟩))
    (fun os started H enc _ => lifted_RowTells os started H enc)

/-- The statement. -/
theorem RowTells_holds : Rows.RowTellsSaid := RowTells_over
end


end Go.Proofs.Ytdljlcbjpfgmcaa
