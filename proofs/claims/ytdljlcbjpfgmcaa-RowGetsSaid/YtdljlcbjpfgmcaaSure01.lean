/- The fixed calls of the first chapter's statements come out true. -/
import Derived.Test.YtdljlcbjpfgmcaaRowG
namespace Go.Proofs.Ytdljlcbjpfgmcaa
open Go.RowKit

set_option maxRecDepth 100000 in
set_option maxHeartbeats 400000 in
theorem sure01 (w : World) : Calls Try.prog 16 #[] w fun e w' => e = .returned (.bool true) ∧ Below w.heap.size w w' := by
  go_enter Try.func16, Try.ntmps16
  go_wp2_with fail
  refine (row_put_i _ _ [2, -1, 1] [258, 3] _ ((Ints.lit .i64 w 3 [2, -1, 1] _ rfl (by decide) (by decide)).alloc _) (Ints.lit .u64 _ 38 [258, 3] _ (by simp) (by decide) (by decide))).mono ?_
  rintro e w1 ⟨vb, rfl, hvb, hb1⟩
  rw [show putS [2, -1, 1] [258, 3] = some [1, 2, 0, 3] by decide] at hvb ⊢
  have HV : Hid (Ints .u8 w1 vb [1, 2, 0, 3]) := hvb
  have HB1 : Hid (Below w.heap.size w w1) := below2 hb1
  clear hvb hb1
  go_wp2_with fail
  refine (row_get_i _ _ [2, -1, 1] [1, 2, 1, 3] _ ((Ints.lit .i64 w1 3 [2, -1, 1] _ rfl (by decide) (by decide)).alloc _) (Ints.lit .u8 _ 5 [1, 2, 1, 3] _ (by simp) (by decide) (by decide))).mono ?_
  rintro e w2 ⟨vl, rfl, hvl, hb2⟩
  rw [show getS [2, -1, 1] [1, 2, 1, 3] = ([], 2) by decide] at hvl ⊢
  have HB2 : Hid (Below w1.heap.size w1 w2) := below2 hb2
  obtain ⟨al, cl, bl, ol, rfl, -⟩ := hvl.open
  clear hvl hb2
  go_wp2_with fail
  refine (row_get_i _ _ [2] [1, 2, 3] _ ((Ints.lit .i64 w2 3 [2] _ rfl (by decide) (by decide)).alloc _) (Ints.lit .u8 _ 5 [1, 2, 3] _ (by simp) (by decide) (by decide))).mono ?_
  rintro e w3 ⟨vm, rfl, hvm, hb3⟩
  rw [show getS [2] [1, 2, 3] = ([258], 0) by decide] at hvm ⊢
  have HB3 : Hid (Below w2.heap.size w2 w3) := below2 hb3
  have HM : Hid (Ints .u64 w3 vm [258]) := hvm
  clear hvm hb3
  go_wp2_with fail
  have HV3 : Hid (Ints .u8 w3 vb [1, 2, 0, 3]) := (HV.out.below HB2.out).below HB3.out
  refine (ref_bytes _ _ [1, 2, 0, 3] [1, 2, 0, 3] _ (HV3.out.alloc _) (Ints.lit .u8 _ 5 [1, 2, 0, 3] _ rfl (by decide) (by decide))).mono ?_
  rintro e w4 ⟨rfl, hb4⟩
  have HB4 : Hid (Below w3.heap.size w3 w4) := below1 hb4
  clear hb4
  rw [show decide (([1, 2, 0, 3] : List Int) = [1, 2, 0, 3]) = true by decide]
  go_wp2_with fail
  refine (ref_nums _ _ [258] [258] _ ((HM.out.below HB4.out).alloc _) (Ints.lit .u64 _ 38 [258] _ rfl (by decide) (by decide))).mono ?_
  rintro e w5 ⟨rfl, hb5⟩
  have HB5 : Hid (Below w4.heap.size w4 w5) := below1 hb5
  clear hb5
  rw [show decide (([258] : List Int) = [258]) = true by decide]
  go_wp2_with fail
  refine (row_size _ [2, -1, 1] _ (Ints.lit .i64 _ 3 [2, -1, 1] _ rfl (by decide) (by decide))).mono ?_
  rintro e w6 ⟨rfl, rfl⟩
  rw [show sizeS [2, -1, 1] = 4 by decide]
  go_wp2_with fail
  go_ret
  have h1 := HB1.out.size
  have h2 := HB2.out.size
  have h3 := HB3.out.size
  have h4 := HB4.out.size
  have h5 := HB5.out.size
  exact ⟨rfl, (((((HB1.out.trans (HB2.out.mono h1)).trans (HB3.out.mono (by omega))).trans (HB4.out.mono (by omega))).trans (HB5.out.mono (by omega))).alloc (by omega) _)⟩

end Go.Proofs.Ytdljlcbjpfgmcaa
