/- 'RowGets': any bytes by any widths come out as the same numbers, or with the same reason, from the program and from the document. Conditions: none. -/
import Derived.Test.YtdljlcbjpfgmcaaSure01
import Derived.Test.YtdljlcbjpfgmcaaFrame
namespace Go.Proofs.Ytdljlcbjpfgmcaa
open Go.RowKit

set_option maxRecDepth 100000 in
set_option maxHeartbeats 400000 in
theorem walk_RowGets (v1 : Value) (ws : List Int) (v2 : Value) (xs : List Int) (w : World) (h1 : Ints .i64 w v1 ws) (h2 : Ints .u8 w v2 xs) :
    Calls Try.prog 5 #[v1, v2] w fun e w' => e = .returned (.bool true) ∧ Below w.heap.size w w' := by
  have hle1 := h1.le
  have hle2 := h2.le
  have H1 := Lib.hid h1
  have H2 := Lib.hid h2
  obtain ⟨a, cap, b, off, rfl, -⟩ := h1.open
  obtain ⟨a2, cap2, b2, off2, rfl, -⟩ := h2.open
  clear h1 h2
  by_cases g1 : 500 < ws.length
  · go_enter Try.func5, Try.ntmps5
    go_wp2_with (go_at_call 16; refine (sure01 _).mono ?_; rintro e w' ⟨rfl, hb⟩)
    go_ret
    exact ⟨rfl, hb⟩
  · by_cases g2 : 5000 < xs.length
    · go_enter Try.func5, Try.ntmps5
      go_wp2_with (go_at_call 16; refine (sure01 _).mono ?_; rintro e w' ⟨rfl, hb⟩)
      go_ret
      exact ⟨rfl, hb⟩
    · go_enter Try.func5, Try.ntmps5
      go_wp2_with fail
      refine (row_get_i _ _ ws xs _ H1.out H2.out).mono ?_
      rintro e w1 ⟨vb, rfl, hv, hb⟩
      have HV := Lib.hid hv
      have HB := Lib.hid hb
      clear hv hb
      go_wp2_with fail
      refine (ref_get_i _ _ ws xs _ (H1.out.below HB.out) (H2.out.below HB.out)).mono ?_
      rintro e w2 ⟨vc, rfl, hv, hb⟩
      have HV2 := Lib.hid hv
      have HB2 := Lib.hid hb
      clear hv hb
      generalize (getS ws xs).2 = S at *
      generalize (getS ws xs).1 = bs at *
      go_wp2_with fail
      refine (ref_nums _ _ bs bs _ (HV.out.below HB2.out) HV2.out).mono ?_
      rintro e w3 ⟨rfl, hb⟩
      have HB3 := Lib.hid hb
      clear hb
      rw [decide_eq_true rfl]
      go_wp2_with (go_at_call 16; refine (sure01 _).mono ?_; rintro e w4 ⟨rfl, hb4⟩)
      go_ret
      have s1 := HB.out.size
      have s2 := HB2.out.size
      have s3 := HB3.out.size
      exact ⟨rfl, ((HB.out.trans (HB2.out.mono s1)).trans (HB3.out.mono (by omega))).trans (hb4.mono (by omega))⟩

section
open Go.ChangeShapes Go.WideShapes Go.ChangeAt Go.RowKit
set_option maxRecDepth 100000 in
theorem lifted_RowGets (os : Os) (started : os.Started) (H : Type) (enc : TypeId × Value → H) :
    ReturnsInHanded {} Try.checked os 5 .any (Rows.rowGetsSpec.pre6 enc Try.prog Try.f5 Rows.rowGetsRow.domain false) (Rows.rowGetsSpec.post enc Try.prog Try.f5 false true false false) := by
  refine returnsInHanded_of_change (C := Try.checked) frame_own started (by kernel_rfl) Try.func5
    (ChangeSpec.witness6 (enc := enc) (C := Try.checked) false ⟨#[], #[.slice none 0 0, .slice none 0 0], []⟩ 8 (by kernel_rfl) (by kernel_rfl) (by kernel_rfl) (by kernel_rfl)) ?_
  intro W base args ds gs before hval0 hW hcnd _
  have hval : ∀ (j : Nat) t v, Try.f5.params[j]? = some t → args[j]? = some v → Value.okWide Try.prog W .any base t v := hval0
  have hW' := hW
  obtain ⟨p, q, hA0, hV, rfl, hfz, hnd⟩ := hW
  have hA : DataW.TrodAll enc Try.prog W 0 (fun _ => true) true Try.f5.params.toList args.toList ds p := hA0
  rw [Try.params5] at hA hval
  obtain ⟨v0, vs0, d0, ds0, p0, q0, hargs, rfl, rfl, h0, r0⟩ := trodAll_cons hA
  obtain ⟨v1, vs1, d1, ds1, p1, q1, rfl, rfl, rfl, h1, r1⟩ := trodAll_cons r0
  obtain ⟨rfl, rfl, rfl⟩ := trodAll_nil r1
  obtain rfl : args = #[v0, v1] := by cases args; simp_all
  obtain ⟨rfl, rfl⟩ := trodVars_none hV
  obtain ⟨a0, len0, cap0, rfl⟩ := okWide_slice Try.underlying22 (hval 0 22 v0 rfl rfl)
  have k0 := h0
  have lt0 : ∀ x ∈ p0, x.block < W.heap.size := by obtain ⟨m, hm⟩ := k0; exact DataW.trod_lt m _ _ _ hm
  obtain ⟨z0, w0⟩ := arg_ints (k := .i64) Try.underlying22 Try.underlying3 (by kernel_rfl) h0 (fun _ => rfl)
  obtain ⟨a1, len1, cap1, rfl⟩ := okWide_slice Try.underlying28 (hval 1 28 v1 rfl rfl)
  have k1 := h1
  have lt1 : ∀ x ∈ p1, x.block < W.heap.size := by obtain ⟨m, hm⟩ := k1; exact DataW.trod_lt m _ _ _ hm
  obtain ⟨z1, w1⟩ := arg_ints (k := .u8) Try.underlying28 Try.underlying5 (by kernel_rfl) h1 (fun _ => rfl)
  clear hA0 hval0
  refine (walk_RowGets _ z0 _ z1 W w0 w1).mono fun e W' ⟨he, bel⟩ => ?_
  subst he
  exact ⟨_, rfl, _, _, _, [], _, [], hW', trodAll_mk1 (shut_bool Try.underlying4 _), (trodAll_cons_mk (Below.trod frame_laidOut (by kernel_rfl) (of_decide_eq_true (by kernel_rfl)) k0 bel lt0) (trodAll_cons_mk (Below.trod frame_laidOut (by kernel_rfl) (of_decide_eq_true (by kernel_rfl)) k1 bel lt1) trodAll_mk0)), rfl, bel.frame _, fun h => by cases h⟩

theorem RowGets_over : Rows.rowGetsRow.holds Try.pinned (OpenSpec.ofChange Rows.rowGetsSpec) :=
  OpenClaim.holds_of_wide 5 Try.f5 rfl rfl rfl rfl rfl rfl rfl ⟨rfl, rfl, rfl, rfl, rfl⟩ rfl rfl rfl rfl rfl (by kernel_rfl) Try.func5 (by kernel_rfl)
    (of_decide_eq_true (by kernel_rfl)) (by unfold Func.isWrapper; first | (rw [if_pos (by decide +kernel)]; kernel_rfl) | (rw [if_neg (by decide +kernel)]; exact ⟨rfl, rfl⟩))
    (fun os started H enc _ => lifted_RowGets os started H enc)

/-- The statement. -/
theorem RowGets_holds : Rows.RowGetsSaid := RowGets_over
end


end Go.Proofs.Ytdljlcbjpfgmcaa
