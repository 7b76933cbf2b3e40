/- The walk of TlvJoins. Conditions: the arguments read as a shape and things. -/
import Derived.Test.YtoobcgakainelaaRefTD
import Derived.Test.YtoobcgakainelaaSure04
import Derived.Test.YtoobcgakainelaaTlvBackP
namespace Go.Proofs.Ytoobcgakainelaa
open Go.RowKit
set_option maxRecDepth 100000
set_option maxHeartbeats 4000000

theorem joins_sure (s : Sh) (v1 : Value) (l : List (Int × List Int)) (w : World) (h1 : RowsOf ItemR 2 w v1 l) (h : fewT l = false) :
    Calls Try.prog 4 #[s.val, v1] w fun e w' => e = .returned (.bool true) ∧ Below w.heap.size w w' := by
  have hf := law_few (h1.below ItemR.lasts (below_alloc2 (.cells #[.int .i64 s.least, .int .i64 s.step, .bool s.pad, .int .i64 s.bad, .int .i64 s.odd] 24)))
  have HS := Lib.hid (sure04 (w.alloc (.cells #[.int .i64 s.least, .int .i64 s.step, .bool s.pad, .int .i64 s.bad, .int .i64 s.odd] 24)))
  rw [h] at hf
  have HF := Lib.hid hf
  clear h hf h1
  simp only [Sh.val]
  go_enter Try.func4, Try.ntmps4
  go_wp2_with (first
    | (go_at_call 18; (with_reducible refine HF.out.mono ?_); rintro e w1 ⟨rfl, rfl⟩)
    | (go_at_call 9; (with_reducible refine HS.out.mono ?_); rintro e w1 ⟨rfl, hb⟩; have HB := Lib.hid hb; clear hb))
  go_ret
  exact ⟨rfl, below1 HB.out⟩

theorem joins_main (s : Sh) (v1 : Value) (l : List (Int × List Int)) (w : World) (h1 : RowsOf ItemR 2 w v1 l) (hf : fewT l = true) :
    Calls Try.prog 4 #[s.val, v1] w fun e w' => e = .returned (.bool true) ∧ Below w.heap.size w w' := by
  obtain ⟨hfl, hfb⟩ := few_bodies hf
  have hfe := law_few (h1.below ItemR.lasts (below_alloc2 (.cells #[.int .i64 s.least, .int .i64 s.step, .bool s.pad, .int .i64 s.bad, .int .i64 s.odd] 24)))
  rw [hf] at hfe
  have HF := Lib.hid hfe
  have H0 := Lib.hid (Sh1.start w s)
  have HI1 := Lib.hid h1
  have HFb := Lib.hid hfb
  obtain ⟨a, cap, b, off, rfl, -⟩ := items_open h1
  have hj := tlv_join (s := s) (h1.below ItemR.lasts (below_alloc2 (.cells #[.int .i64 s.least, .int .i64 s.step, .bool s.pad, .int .i64 s.bad, .int .i64 s.odd] 24))) (by omega) (fun x hx => by have := hfb x hx; omega)
  clear h1 hf hfe hfb
  simp only [Sh.val]
  go_enter Try.func4, Try.ntmps4
  go_wp2_with (go_at_call 18; (with_reducible refine HF.out.mono ?_); rintro e w1 ⟨rfl, rfl⟩)
  refine hj.mono ?_
  clear hj
  rintro e w2 ⟨vx, rfl, hox, hux, hb⟩
  have H2 := Lib.hid (H0.out.cell _ hb)
  have HX2 := Lib.hid (Ints.of_own hox hux.wf)
  obtain ⟨ax, capx, rfl⟩ := own_slice hox
  obtain ⟨c0, c1, c2, c3, c4⟩ := H2.out.cells
  clear hox hux hb
  go_wp2_with fail
  refine (law_plain s w2).mono ?_
  rintro e w3 ⟨rfl, hb⟩
  have H3 := Lib.hid (H2.out.cell _ hb)
  have HX3 := Lib.hid (HX2.out.below hb)
  clear hb c0 c1 c2 c3 c4
  simp only [Sh.val]
  go_wp2_with fail
  refine (law_items (HI1.out.below ItemR.lasts H3.out.below) (by omega)).mono ?_
  rintro e w4 ⟨r4, rfl, hr4, hb⟩
  have H4 := Lib.hid (H3.out.cell _ hb)
  have HX4 := Lib.hid (HX3.out.below hb)
  have hrj := ref_join (s := s) hr4 (by omega) (fun x hx => by have := HFb.out x hx; omega)
  simp only [Sh.val] at hrj
  have HRJ := Lib.hid hrj
  obtain ⟨a4, cap4, -, -, rfl, -⟩ := items_open hr4
  clear hb hr4 hrj
  go_wp2_with fail
  refine HRJ.out.mono ?_
  rintro e w5 ⟨vy, rfl, hoy, huy, hb⟩
  have H5 := Lib.hid (H4.out.cell _ hb)
  have hby := ref_bytes_q _ _ _ _ w5 (HX4.out.below hb) (Ints.of_own hoy huy.wf)
  rw [decide_eq_true rfl] at hby
  have HBy := Lib.hid hby
  obtain ⟨ay, capy, rfl⟩ := own_slice hoy
  clear hb hoy huy hby
  generalize (s.join l).2 = er
  generalize (s.join l).1 = xs at HBy ⊢
  have e1 : (er == er) = true := by simp
  go_wp2_with fail
  refine HBy.out.mono ?_
  rintro e w6 ⟨rfl, q, rfl⟩
  go_wp2_with fail
  refine (sure04 _).mono ?_
  rintro e w7 ⟨rfl, hb⟩
  have HB9 := Lib.hid ((below_drewN H5.out.below q).trans (hb.mono (by exact H5.out.below.size)))
  clear hb
  go_wp2_with fail
  go_ret
  exact ⟨rfl, HB9.out⟩

theorem walk_TlvJoins (v0 : Value) (s : Sh) (v1 : Value) (l : List (Int × List Int)) (w : World) (h0 : ShOk w v0 s) (h1 : RowsOf ItemR 2 w v1 l) :
    Calls Try.prog 4 #[v0, v1] w fun e w' => e = .returned (.bool true) ∧ Below w.heap.size w w' := by
  obtain ⟨rfl, -⟩ := h0
  cases hf : fewT l with
  | false => exact joins_sure s v1 l w h1 hf
  | true => exact joins_main s v1 l w h1 hf
end Go.Proofs.Ytoobcgakainelaa
