/- The walk of TlvCuts. Conditions: the arguments read as a shape and bytes. -/
import Derived.Test.YtoobcgakainelaaRefTG
import Derived.Test.YtoobcgakainelaaRefTD
import Derived.Test.YtoobcgakainelaaSure04
import Derived.Test.YtoobcgakainelaaTlvBackP
namespace Go.Proofs.Ytoobcgakainelaa
open Go.RowKit
set_option maxRecDepth 100000
set_option maxHeartbeats 4000000

theorem Sh.cut_len {s : Sh} {bs : List Int} (hu : U8 bs) : (s.cut bs).1.length ≤ bs.length := by
  by_cases he : (s.cut bs).2 = 0
  · obtain ⟨q1, q2, q3, q4⟩ := cut_ok hu he
    have hml := Sh.all_ge (s := s) (s.cut bs).1
    rw [q3] at hml
    omega
  · rw [Sh.cut_err he]
    exact Nat.zero_le _

theorem row_below {w w' : World} {g : Nat} {o : Obj} (hb : Below w.heap.size w w') (h : w.heap[g]? = some o) : w'.heap[g]? = some o :=
  (hb.block g (Array.getElem?_eq_some_iff.1 h).1).trans h

theorem cuts_sure (s : Sh) (v1 : Value) (bs : List Int) (w : World) (h1 : Ints .u8 w v1 bs) (hl : 3000 < bs.length) :
    Calls Try.prog 3 #[s.val, v1] w fun e w' => e = .returned (.bool true) ∧ Below w.heap.size w w' := by
  obtain ⟨a2, cap2, b2, off2, rfl, -⟩ := h1.open
  have HS := Lib.hid (sure04 (w.alloc (.cells #[.int .i64 s.least, .int .i64 s.step, .bool s.pad, .int .i64 s.bad, .int .i64 s.odd] 24)))
  have e1 : decide ((3000 : Int) < (bs.length : Int)) = true := decide_eq_true (by omega)
  clear h1 hl
  simp only [Sh.val]
  go_enter Try.func3, Try.ntmps3
  go_wp2_with (go_at_call 9; (with_reducible refine HS.out.mono ?_); rintro e w1 ⟨rfl, hb⟩; have HB := Lib.hid hb; clear hb)
  go_ret
  exact ⟨rfl, below1 HB.out⟩

theorem cuts_main (s : Sh) (v1 : Value) (bs : List Int) (w : World) (h1 : Ints .u8 w v1 bs) (hl : bs.length ≤ 3000) :
    Calls Try.prog 3 #[s.val, v1] w fun e w' => e = .returned (.bool true) ∧ Below w.heap.size w w' := by
  have H0 := Lib.hid (Sh1.start w s)
  have HI1 := Lib.hid h1
  have hcl := Sh.cut_len (s := s) h1.u8
  obtain ⟨a2, cap2, b2, off2, rfl, -⟩ := h1.open
  have e1 : decide ((3000 : Int) < (bs.length : Int)) = false := decide_eq_false (by omega)
  clear h1
  obtain ⟨c0, c1, c2, c3, c4⟩ := H0.out.cells
  simp only [Sh.val]
  go_enter Try.func3, Try.ntmps3
  go_wp2_with fail
  refine (tlv_one (s := s) (HI1.out.below H0.out.below) (by omega)).mono ?_
  rintro e w2 ⟨vx, rfl, hox, hux, hb⟩
  have H2 := Lib.hid (H0.out.cell _ hb)
  have HX2 := Lib.hid (Ints.of_own hox hux.wf)
  obtain ⟨ax, capx, rfl⟩ := own_slice hox
  clear hox hux hb c0 c1 c2 c3 c4
  have H3 := Lib.hid (H2.out.cell _ (below_alloc2 (w := w2) (.cells #[.int .i64 (s.one bs).1.1, .slice ax (s.one bs).1.2.length capx] 28)))
  obtain ⟨c0, c1, c2, c3, c4⟩ := H3.out.cells
  go_wp2_with fail
  refine (law_plain s _).mono ?_
  rintro e w4 ⟨rfl, hb⟩
  have R4 := Lib.hid ((hb.block w2.heap.size (by simp)).trans (heap_alloc_new w2 (.cells #[.int .i64 (s.one bs).1.1, .slice ax (s.one bs).1.2.length capx] 28)))
  have hbx := (below_alloc2 (w := w2) (.cells #[.int .i64 (s.one bs).1.1, .slice ax (s.one bs).1.2.length capx] 28)).trans (hb.mono (by simp))
  have H4 := Lib.hid (H2.out.cell _ hbx)
  have HX4 := Lib.hid (HX2.out.below hbx)
  generalize w2.heap.size = gx at R4 ⊢
  clear hb hbx c0 c1 c2 c3 c4 H3 HX2 H2 H0
  have ho4 := ref_one (s := s) (HI1.out.below H4.out.below) (by omega)
  simp only [Sh.val] at ho4
  go_wp2_with fail
  refine ho4.mono ?_
  clear ho4
  rintro e w5 ⟨vy, rfl, hoy, huy, hb⟩
  have H5 := Lib.hid (H4.out.cell _ hb)
  have HX5 := Lib.hid (HX4.out.below hb)
  have HY5 := Lib.hid (Ints.of_own hoy huy.wf)
  have R5 := Lib.hid (row_below hb R4.out)
  obtain ⟨ay, capy, rfl⟩ := own_slice hoy
  clear hb hoy huy R4 HX4 H4
  have H6 := Lib.hid (H5.out.cell _ (below_alloc2 (w := w5) (.cells #[.int .i64 (s.one bs).1.1, .slice ay (s.one bs).1.2.length capy] 31)))
  obtain ⟨c0, c1, c2, c3, c4⟩ := H6.out.cells
  go_wp2_with fail
  refine (tlv_cut (s := s) (HI1.out.below H6.out.below) (by omega)).mono ?_
  rintro e w7 ⟨vm, rfl, ho, hb⟩
  have hb5 := (below_alloc2 (w := w5) (.cells #[.int .i64 (s.one bs).1.1, .slice ay (s.one bs).1.2.length capy] 31)).trans (hb.mono (by simp))
  have S7 := Lib.hid ((hb.block w5.heap.size (by simp)).trans (heap_alloc_new w5 (.cells #[.int .i64 (s.one bs).1.1, .slice ay (s.one bs).1.2.length capy] 31)))
  have R7 := Lib.hid (row_below hb5 R5.out)
  have H7 := Lib.hid (H5.out.cell _ hb5)
  have HX7 := Lib.hid (HX5.out.below hb5)
  have HY7 := Lib.hid (HY5.out.below hb5)
  have HC7 := Lib.hid ho.rows
  obtain ⟨am, capm, rfl⟩ := ho.slice
  generalize w5.heap.size = gy at S7 ⊢
  clear ho hb hb5 c0 c1 c2 c3 c4 H6 H5 R5 HX5 HY5
  obtain ⟨c0, c1, c2, c3, c4⟩ := H7.out.cells
  simp only [Sh.val]
  go_wp2_with fail
  refine (law_plain s _).mono ?_
  rintro e w8 ⟨rfl, hb⟩
  have S8 := Lib.hid (row_below hb S7.out)
  have R8 := Lib.hid (row_below hb R7.out)
  have H8 := Lib.hid (H7.out.cell _ hb)
  have HX8 := Lib.hid (HX7.out.below hb)
  have HY8 := Lib.hid (HY7.out.below hb)
  have HC8 := Lib.hid (HC7.out.below ItemR.lasts hb)
  clear hb c0 c1 c2 c3 c4 S7 R7 H7 HX7 HY7 HC7
  have ho8 := ref_cut (s := s) (HI1.out.below H8.out.below) (by omega)
  simp only [Sh.val] at ho8 ⊢
  go_wp2_with fail
  refine ho8.mono ?_
  clear ho8
  rintro e w9 ⟨vn, rfl, ho, hb⟩
  have S9 := Lib.hid (row_below hb S8.out)
  have R9 := Lib.hid (row_below hb R8.out)
  have H9 := Lib.hid (H8.out.cell _ hb)
  have HX9 := Lib.hid (HX8.out.below hb)
  have HY9 := Lib.hid (HY8.out.below hb)
  have HC9 := Lib.hid (HC8.out.below ItemR.lasts hb)
  have HD9 := Lib.hid ho.rows
  obtain ⟨an, capn, rfl⟩ := ho.slice
  clear ho hb S8 R8 H8 HX8 HY8 HC8
  have x0 := cell_row R9.out 0
  have x1 := cell_row R9.out 1
  have y0 := cell_row S9.out 0
  have y1 := cell_row S9.out 1
  have hby := ref_bytes_q _ _ _ _ w9 HX9.out HY9.out
  rw [decide_eq_true rfl] at hby
  have HBy := Lib.hid hby
  clear hby
  have HCL := Lib.hid hcl
  clear hcl
  generalize s.cut bs = cu at HC9 HD9 HCL ⊢
  generalize s.one bs = one at x0 x1 y0 y1 HX9 HY9 HBy R9 S9 ⊢
  obtain ⟨⟨t, zs⟩, n, er⟩ := one
  obtain ⟨m, ec⟩ := cu
  simp only at *
  have e1 : (t == t) = true := by simp
  have e2 : ((n : Int) == (n : Int)) = true := by simp
  have e3 : (er == er) = true := by simp
  have e4 : (ec == ec) = true := by simp
  go_wp2_with fail
  refine HBy.out.mono ?_
  rintro e w10 ⟨rfl, q, rfl⟩
  have hb := below_drewN (Below.refl w9.heap.size w9) q
  have H10 := Lib.hid (H9.out.cell _ hb)
  have HC10 := Lib.hid (HC9.out.below ItemR.lasts hb)
  have HD10 := Lib.hid (HD9.out.below ItemR.lasts hb)
  clear hb HBy x0 x1 y0 y1 HC9 HD9 H9 S9 R9 HX9 HY9
  generalize w9.drewN q = w10 at *
  go_wp2_with fail
  refine (law_items HC10.out (by have := HCL.out; omega)).mono ?_
  rintro e w11 ⟨r11, rfl, hr, hb⟩
  have H11 := Lib.hid (H10.out.cell _ hb)
  have hsm := ref_same hr (HD10.out.below ItemR.lasts hb)
  rw [decide_eq_true rfl] at hsm
  have HSm := Lib.hid hsm
  obtain ⟨a4, cap4, -, -, rfl, -⟩ := items_open hr
  clear hsm hr hb HC10 HD10 H10
  go_wp2_with fail
  refine HSm.out.mono ?_
  rintro e w12 ⟨rfl, q, rfl⟩
  have hb := below_drewN (Below.refl w11.heap.size w11) q
  have H12 := Lib.hid (H11.out.cell _ hb)
  clear hb HSm H11
  go_wp2_with fail
  refine (sure04 _).mono ?_
  rintro e w13 ⟨rfl, hb⟩
  have HB9 := Lib.hid (H12.out.below.trans (hb.mono (by exact H12.out.below.size)))
  clear hb
  go_wp2_with fail
  go_ret
  exact ⟨rfl, HB9.out⟩

theorem walk_TlvCuts (v0 : Value) (s : Sh) (v1 : Value) (bs : List Int) (w : World) (h0 : ShOk w v0 s) (h1 : Ints .u8 w v1 bs) :
    Calls Try.prog 3 #[v0, v1] w fun e w' => e = .returned (.bool true) ∧ Below w.heap.size w w' := by
  obtain ⟨rfl, -⟩ := h0
  by_cases hl : 3000 < bs.length
  · exact cuts_sure s v1 bs w h1 hl
  · exact cuts_main s v1 bs w h1 (by omega)
end Go.Proofs.Ytoobcgakainelaa
