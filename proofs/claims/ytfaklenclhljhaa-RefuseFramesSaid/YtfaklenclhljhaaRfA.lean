/- The walks of refuse.rows, refuse.Has, refuse.Read and the document's (gunwaleref26.row, Read): both hand back the same message. Conditions: the argument reads as bytes, at most 2500. -/
import Derived.Test.YtfaklenclhljhaaPlE
namespace Go.Proofs.Ytfaklenclhljhaa
open Go.RowKit
set_option maxRecDepth 100000
set_option maxHeartbeats 4000000

def rowR (t : Int) : List Int × Bool :=
  if t = 1 then ([2, 2], true) else
  if t = 4 then ([4, 4], true) else
  if t = 2 ∨ t = 3 then ([], true) else
  ([], false)

theorem rowR_cases (t : Int) : (t = 1 ∧ rowR t = ([2, 2], true)) ∨ (t = 2 ∧ rowR t = ([], true)) ∨ (t = 3 ∧ rowR t = ([], true)) ∨ (t = 4 ∧ rowR t = ([4, 4], true)) ∨ ((t ≠ 1 ∧ t ≠ 2 ∧ t ≠ 3 ∧ t ≠ 4) ∧ rowR t = ([], false)) := by
  rcases (show t = 1 ∨ t = 2 ∨ t = 3 ∨ t = 4 ∨ (t ≠ 1 ∧ t ≠ 2 ∧ t ≠ 3 ∧ t ≠ 4) by omega) with rfl | rfl | rfl | rfl | h
  · exact .inl ⟨rfl, rfl⟩
  · exact .inr (.inl ⟨rfl, rfl⟩)
  · exact .inr (.inr (.inl ⟨rfl, rfl⟩))
  · exact .inr (.inr (.inr (.inl ⟨rfl, rfl⟩)))
  · refine .inr (.inr (.inr (.inr (⟨h, ?_⟩))))
    obtain ⟨h1, h2, h3, h4⟩ := h
    simp [rowR, h1, h2, h3, h4]

theorem refuse_rows (t : Int) (w : World) :
    Calls Try.prog 63 #[.int .i64 t] w fun e w' => ∃ v, e = .returned (.tuple #[v, .bool (rowR t).2]) ∧ Ints .i64 w' v (rowR t).1 ∧ Below w.heap.size w w' := by
  rcases rowR_cases t with ⟨rfl, hr⟩ | ⟨rfl, hr⟩ | ⟨rfl, hr⟩ | ⟨rfl, hr⟩ | ⟨⟨h1, h2, h3, h4⟩, hr⟩
  · rw [hr]
    clear hr
    go_enter Try.func63, Try.ntmps63
    go_wp2
    go_ret2
    exact ⟨_, rfl, Ints.lit .i64 w 3 [2, 2] _ rfl (by decide) (by decide), below_alloc2 _⟩
  · rw [hr]
    clear hr
    go_enter Try.func63, Try.ntmps63
    go_wp2
    go_ret2
    exact ⟨_, rfl, Ints.nil _ _, Below.refl _ _⟩
  · rw [hr]
    clear hr
    go_enter Try.func63, Try.ntmps63
    go_wp2
    go_ret2
    exact ⟨_, rfl, Ints.nil _ _, Below.refl _ _⟩
  · rw [hr]
    clear hr
    go_enter Try.func63, Try.ntmps63
    go_wp2
    go_ret2
    exact ⟨_, rfl, Ints.lit .i64 w 3 [4, 4] _ rfl (by decide) (by decide), below_alloc2 _⟩
  · rw [hr]
    clear hr
    have b1 : (t == 1) = false := by simpa using h1
    have b2 : (t == 2) = false := by simpa using h2
    have b3 : (t == 3) = false := by simpa using h3
    have b4 : (t == 4) = false := by simpa using h4
    clear h1 h2 h3 h4
    go_enter Try.func63, Try.ntmps63
    go_wp2
    go_ret2
    exact ⟨_, rfl, Ints.nil _ _, Below.refl _ _⟩

theorem ref_row26 (t : Int) (w : World) :
    Calls Try.prog 64 #[.int .i64 t] w fun e w' => ∃ v, e = .returned (.tuple #[v, .bool (rowR t).2]) ∧ Ints .i64 w' v (rowR t).1 ∧ Below w.heap.size w w' := by
  rcases rowR_cases t with ⟨rfl, hr⟩ | ⟨rfl, hr⟩ | ⟨rfl, hr⟩ | ⟨rfl, hr⟩ | ⟨⟨h1, h2, h3, h4⟩, hr⟩
  · rw [hr]
    clear hr
    go_enter Try.func64, Try.ntmps64
    go_wp2
    go_ret2
    exact ⟨_, rfl, Ints.lit .i64 w 3 [2, 2] _ rfl (by decide) (by decide), below_alloc2 _⟩
  · rw [hr]
    clear hr
    go_enter Try.func64, Try.ntmps64
    go_wp2
    go_ret2
    exact ⟨_, rfl, Ints.nil _ _, Below.refl _ _⟩
  · rw [hr]
    clear hr
    go_enter Try.func64, Try.ntmps64
    go_wp2
    go_ret2
    exact ⟨_, rfl, Ints.nil _ _, Below.refl _ _⟩
  · rw [hr]
    clear hr
    go_enter Try.func64, Try.ntmps64
    go_wp2
    go_ret2
    exact ⟨_, rfl, Ints.lit .i64 w 3 [4, 4] _ rfl (by decide) (by decide), below_alloc2 _⟩
  · rw [hr]
    clear hr
    have b1 : (t == 1) = false := by simpa using h1
    have b2 : (t == 2) = false := by simpa using h2
    have b3 : (t == 3) = false := by simpa using h3
    have b4 : (t == 4) = false := by simpa using h4
    clear h1 h2 h3 h4
    go_enter Try.func64, Try.ntmps64
    go_wp2
    go_ret2
    exact ⟨_, rfl, Ints.nil _ _, Below.refl _ _⟩

theorem refuse_has (t : Int) (w : World) : Calls Try.prog 23 #[.int .i64 t] w fun e w' => e = .returned (.bool (rowR t).2) ∧ Below w.heap.size w w' := by
  have HR := Lib.hid (refuse_rows t w)
  go_enter Try.func23, Try.ntmps23
  go_wp2_with (go_at_call 63; (with_reducible refine HR.out.mono ?_); rintro e w1 ⟨vw, rfl, hw, hb⟩; have HB1 := Lib.hid hb; clear hw hb)
  go_ret
  exact ⟨rfl, HB1.out⟩

/-- What Read hands back. -/
def GotMsgD (w : World) (ty : Int) (l ds : List Int) (er : Int) (e : Ending) (w' : World) : Prop :=
  ∃ vn vd, e = .returned (.tuple #[.agg (msgA ty vn vd), .int .i64 er]) ∧ Ints .u64 w' vn l ∧ Ints .u8 w' vd ds ∧ Below w.heap.size w w'

def readR (t : Int) (bs : List Int) : (Int × List Int × List Int) × Int :=
  if (rowR t).2 = false then ((0, [], []), 10001)
  else if (getS (rowR t).1 bs).2 ≠ 0 then ((0, [], []), 263)
  else ((t, (getS (rowR t).1 bs).1, bs.drop (sizeS (rowR t).1)), 0)

theorem rowR_right (t : Int) : RightS (rowR t).1 = true := by
  have := rowR_cases t
  rcases this with h | h | h | h | h <;> (rw [h.2]; decide)

theorem alloc_setRow (w : World) (cs cs' : Array Value) (t : TypeId) : (w.alloc (.cells cs t)).setRow w.heap.size cs' = w.alloc (.cells cs' t) := by
  show ({ w with heap := (w.heap.push _).modify w.heap.size _ } : World) = { w with heap := w.heap.push _ }
  congr 1
  apply Array.ext
  · simp
  · intro i h1 h2
    rw [Array.getElem_modify]
    by_cases h : w.heap.size = i
    · subst h; simp
    · rw [if_neg h]
      have : i < w.heap.size := by simp at h2; omega
      rw [Array.getElem_push_lt this, Array.getElem_push_lt this]

theorem refuse_read (t : Int) (va : Value) (bs : List Int) (w : World) (h : Ints .u8 w va bs) (hl : bs.length ≤ 60000) :
    Calls Try.prog 29 #[.int .i64 t, va] w (GotMsgD w (readR t bs).1.1 (readR t bs).1.2.1 (readR t bs).1.2.2 (readR t bs).2) := by
  have HR := fun w => Lib.hid (refuse_rows t w)
  have HBx : Hid (Below w.heap.size w (w.alloc (.cells (msgA 0 nilV nilV) 35))) := below_alloc2 _
  have HX := Lib.hid (h.below HBx.out)
  have hu := h.u8
  have hle := h.le
  by_cases h1 : (rowR t).2 = false
  · have hq : readR t bs = ((0, [], []), 10001) := by rw [readR, if_pos h1]
    rw [hq]
    rw [h1] at HR
    obtain ⟨av, capv, bv, offv, rfl, -⟩ := h.open
    clear h hq h1 hu
    go_enter Try.func29, Try.ntmps29
    go_wp2_with (first
      | (go_at_call 63; (with_reducible refine (HR _).out.mono ?_); rintro e w1 ⟨vw, rfl, hw, hb⟩; have HB1 := Lib.hid hb; have HH1 := Lib.hid ((hb.block w.heap.size (by simp)).trans (heap_alloc_new _ _)); have HW1 := Lib.hid hw; clear hw hb)
      | (refine wpList_store_rowTo rfl 35 _ _ rfl rfl w.heap.size (msgA 0 nilV nilV) rfl rfl _ _ HH1.out (by kernel_rfl) (by kernel_rfl) (by kernel_rfl) ?_; have hheap := setRow_heap w1 w.heap.size _ (msgA 0 nilV nilV) _ _ HH1.out; have HB9 := Lib.hid (below_setRow (below1 HB1.out) (Nat.le_refl _) (msgA 0 nilV nilV))))
    refine bodyPost_ret (results_row_tmp rfl _ _ w.heap.size _ _ _ _ rfl hheap Try.underlying35 rfl (by kernel_rfl)) rfl ?_
    exact ⟨_, _, rfl, Ints.nil _ _, Ints.nil _ _, HB9.out⟩
  have h1' : (rowR t).2 = true := by simpa using h1
  rw [h1'] at HR
  have hright := rowR_right t
  obtain ⟨s', l, ds, hrow, hrest, her, hread, hl64⟩ : ∃ (s' : St) (l ds : List Int), (St.fresh bs 263 263).row (rowR t).1 = (s', l) ∧ s'.bytes (s'.left : Int) = ((s'.bytes (s'.left : Int)).1, ds) ∧ s'.sh = 263 ∧ ((s'.er = 0 ∧ (s'.bytes (s'.left : Int)).1.er = 0 ∧ readR t bs = ((t, l, ds), 0)) ∨ (s'.er ≠ 0 ∧ (s'.bytes (s'.left : Int)).1.er ≠ 0 ∧ readR t bs = ((0, [], []), 263))) ∧ U64 l := by
    have hb0 : (St.fresh bs 263 263).rest = bs := rfl
    rcases getS_cases (ws := (rowR t).1) hu with ⟨hk, hz⟩ | ⟨hk, hnil⟩ | ⟨hk, hnil⟩
    · refine ⟨{ St.fresh bs 263 263 with pos := 0 + sizeS (rowR t).1 }, (getS (rowR t).1 bs).1, bs.drop (sizeS (rowR t).1), row_fine rfl (by rw [hb0]; exact hk), ?_, rfl, .inl ⟨rfl, ?_, ?_⟩, getS_u64 hu⟩
      · rw [bytes_fine rfl (Nat.le_refl _)]
        simp only [St.rest, St.left, St.fresh, Nat.zero_add]
        rw [List.take_of_length_le (by simp)]
      · rw [bytes_fine rfl (Nat.le_refl _)]; rfl
      · rw [readR, if_neg h1, if_neg (by rw [hk]; decide)]
    · refine ⟨(St.fresh bs 263 263).fail 263, [], [], row_short rfl (by rw [hb0]; exact hk), ?_, rfl, .inr ⟨(by show (263 : Int) ≠ 0; decide), ?_, ?_⟩, fun z hz => by simp at hz⟩
      · rw [bytes_busy (by omega) (show ((St.fresh bs 263 263).fail 263).er ≠ 0 by show (263 : Int) ≠ 0; decide)]
      · rw [bytes_busy (by omega) (show ((St.fresh bs 263 263).fail 263).er ≠ 0 by show (263 : Int) ≠ 0; decide)]; show (263 : Int) ≠ 0; decide
      · rw [readR, if_neg h1, if_pos (by rw [hk]; decide)]
    · refine ⟨(St.fresh bs 263 263).fail 263, [], [], row_odd rfl (by rw [hb0]; exact hk), ?_, rfl, .inr ⟨(by show (263 : Int) ≠ 0; decide), ?_, ?_⟩, fun z hz => by simp at hz⟩
      · rw [bytes_busy (by omega) (show ((St.fresh bs 263 263).fail 263).er ≠ 0 by show (263 : Int) ≠ 0; decide)]
      · rw [bytes_busy (by omega) (show ((St.fresh bs 263 263).fail 263).er ≠ 0 by show (263 : Int) ≠ 0; decide)]; show (263 : Int) ≠ 0; decide
      · rw [readR, if_neg h1, if_pos (by rw [hk]; decide)]
  generalize (rowR t).1 = ws at HR hrow
  have HRow := Lib.hid hrow
  have HRest := Lib.hid hrest
  have HSh : Hid (s'.sh ≠ 0) := by show s'.sh ≠ 0; rw [her]; decide
  have HU := Lib.hid hl64
  obtain ⟨av, capv, bv, offv, rfl, -⟩ := h.open
  clear h h1 h1' hu hright hrow hrest her hl64
  generalize hs2 : (s'.bytes (s'.left : Int)).1 = s2 at HRest hread
  have hcase : ∀ b : Bool, b = b := fun _ => rfl
  rcases hread with ⟨-, he2, hq⟩ | ⟨-, he2, hq⟩
  · skip
    rw [hq]
    clear hq hcase
    have he3 : (s2.er != 0) = false := by simpa using he2
    clear he2
    go_enter Try.func29, Try.ntmps29
    go_wp2_with (first
      | (go_at_call 63; (with_reducible refine (HR _).out.mono ?_); rintro e w1 ⟨vw, rfl, hw, hb⟩; have HB1 := Lib.hid hb; have HH1 := Lib.hid ((hb.block w.heap.size (by simp)).trans (heap_alloc_new _ _)); have HW1 := Lib.hid hw; clear hw hb)
      | (go_at_call 49; (with_reducible refine (cur_new (HX.out.below HB1.out) (by omega) 263 263).mono ?_); rintro e w2 ⟨p, rfl, hc, hb⟩; have HB2 := Lib.hid (HB1.out.trans (hb.mono HB1.out.size)); have HP := Lib.hid (Nat.le_trans HB1.out.size hc.from); have HRw := cur_row hc vw ws (HW1.out.below hb); rw [show St.fresh bs 263 263 = St.fresh bs 263 263 from rfl, HRow.out] at HRw; have HRw := Lib.hid HRw; have hps := hc.upto; clear hc hb)
      | (go_at_call 50; (with_reducible refine HRw.out.mono ?_); rintro e w3 ⟨vl, rfl, ho, hc, hg⟩; have HB3 := Lib.hid (below_row HB2.out HB2.out.size hg HP.out); have HO3 := Lib.hid ho; have HRs := cur_rest hc HSh.out; rw [HRest.out] at HRs; have HRs := Lib.hid HRs; obtain ⟨al, capl, rfl⟩ := own_slice ho; clear ho hc hg)
      | (go_at_call 71; (with_reducible refine HRs.out.mono ?_); rintro e w4 ⟨vd, rfl, ho, hu4, hc, hg⟩; have HB4 := Lib.hid (below_row HB3.out HB3.out.size hg HP.out); have HL4 : Hid (w4.ownsRow w2.heap.size 76 1 (.slice al l.length capl) l.length (l.map (Value.int .u64))) := (own_other HO3.out hg (fun k e => by injection e with e; subst e; exact hps)); have HD4 := Lib.hid ho; have HU4 := Lib.hid hu4; have HE := Lib.hid (cur_err (hc.below (below_alloc2 (.cells (msgA t (.slice al l.length capl) vd) 35)))); obtain ⟨ad, capd, rfl⟩ := own_slice ho; clear ho hu4 hc hg)
      | (go_at_call 51; (with_reducible refine HE.out.mono ?_); rintro e w6 ⟨rfl, rfl⟩)
      | (refine wpList_store_rowTo rfl 35 _ _ rfl rfl w4.heap.size (msgA t (.slice al l.length capl) (.slice ad ds.length capd)) rfl rfl _ _ (heap_alloc_new _ _) (by kernel_rfl) (by kernel_rfl) (by kernel_rfl) ?_; rw [alloc_setRow]; have HB5 := Lib.hid (HB4.out.alloc HB4.out.size (.cells (msgA t (.slice al l.length capl) (.slice ad ds.length capd)) 35)); have hLm := Lib.hid (HL4.out.alloc (.cells (msgA t (.slice al l.length capl) (.slice ad ds.length capd)) 35)); have hDm := Lib.hid (HD4.out.alloc (.cells (msgA t (.slice al l.length capl) (.slice ad ds.length capd)) 35)); have HHm := heap_alloc_new w4 (.cells (msgA t (.slice al l.length capl) (.slice ad ds.length capd)) 35); generalize w4.alloc (.cells (msgA t (.slice al l.length capl) (.slice ad ds.length capd)) 35) = w5 at HB5 HE hLm hDm HHm ⊢; have c0 := cell_heap HHm 0; have c1 := cell_heap HHm 1; have c2 := cell_heap HHm 2; have c3 := cell_heap HHm 3; have c4 := cell_heap HHm 4; have c5 := cell_heap HHm 5; have c6 := cell_heap HHm 6; have c7 := cell_heap HHm 7; have c8 := cell_heap HHm 8; have c9 := cell_heap HHm 9; have c10 := cell_heap HHm 10; have c11 := cell_heap HHm 11; have c12 := cell_heap HHm 12; have c13 := cell_heap HHm 13; have c14 := cell_heap HHm 14; have HH5 := Lib.hid ((HB5.out.block w.heap.size (by simp)).trans (heap_alloc_new _ _)); clear HHm)
      | (refine wpList_store_rowTo rfl 35 _ _ rfl rfl w.heap.size (msgA t (.slice al l.length capl) (.slice ad ds.length capd)) rfl rfl _ _ HH5.out (by kernel_rfl) (by kernel_rfl) (by kernel_rfl) ?_; have hheap := setRow_heap w5 w.heap.size _ (msgA t (.slice al l.length capl) (.slice ad ds.length capd)) _ _ HH5.out; have HB9 := Lib.hid (below_setRow (below1 HB5.out) (Nat.le_refl _) (msgA t (.slice al l.length capl) (.slice ad ds.length capd)))))
    refine bodyPost_ret (results_row_tmp rfl _ _ w.heap.size _ _ _ _ rfl hheap Try.underlying35 rfl (by kernel_rfl)) rfl ?_
    refine ⟨_, _, rfl, ints_setRow (Ints.of_own hLm.out HU.out.wf) (fun b e => ?_) _, ints_setRow (Ints.of_own hDm.out HU4.out.wf) (fun b e => ?_) _, HB9.out⟩
    · have := (hLm.out.lt b e).1; have := HB2.out.size; simp at this; omega
    · have := (hDm.out.lt b e).1; have := HB3.out.size; simp at this; omega
  · skip
    rw [hq]
    clear hq hcase
    have he3 : (s2.er != 0) = true := by simpa using he2
    clear he2
    go_enter Try.func29, Try.ntmps29
    go_wp2_with (first
      | (go_at_call 63; (with_reducible refine (HR _).out.mono ?_); rintro e w1 ⟨vw, rfl, hw, hb⟩; have HB1 := Lib.hid hb; have HH1 := Lib.hid ((hb.block w.heap.size (by simp)).trans (heap_alloc_new _ _)); have HW1 := Lib.hid hw; clear hw hb)
      | (go_at_call 49; (with_reducible refine (cur_new (HX.out.below HB1.out) (by omega) 263 263).mono ?_); rintro e w2 ⟨p, rfl, hc, hb⟩; have HB2 := Lib.hid (HB1.out.trans (hb.mono HB1.out.size)); have HP := Lib.hid (Nat.le_trans HB1.out.size hc.from); have HRw := cur_row hc vw ws (HW1.out.below hb); rw [show St.fresh bs 263 263 = St.fresh bs 263 263 from rfl, HRow.out] at HRw; have HRw := Lib.hid HRw; have hps := hc.upto; clear hc hb)
      | (go_at_call 50; (with_reducible refine HRw.out.mono ?_); rintro e w3 ⟨vl, rfl, ho, hc, hg⟩; have HB3 := Lib.hid (below_row HB2.out HB2.out.size hg HP.out); have HO3 := Lib.hid ho; have HRs := cur_rest hc HSh.out; rw [HRest.out] at HRs; have HRs := Lib.hid HRs; obtain ⟨al, capl, rfl⟩ := own_slice ho; clear ho hc hg)
      | (go_at_call 71; (with_reducible refine HRs.out.mono ?_); rintro e w4 ⟨vd, rfl, ho, hu4, hc, hg⟩; have HB4 := Lib.hid (below_row HB3.out HB3.out.size hg HP.out); have HL4 : Hid (w4.ownsRow w2.heap.size 76 1 (.slice al l.length capl) l.length (l.map (Value.int .u64))) := (own_other HO3.out hg (fun k e => by injection e with e; subst e; exact hps)); have HD4 := Lib.hid ho; have HU4 := Lib.hid hu4; have HE := Lib.hid (cur_err (hc.below (below_alloc2 (.cells (msgA t (.slice al l.length capl) vd) 35)))); obtain ⟨ad, capd, rfl⟩ := own_slice ho; clear ho hu4 hc hg)
      | (go_at_call 51; (with_reducible refine HE.out.mono ?_); rintro e w6 ⟨rfl, rfl⟩)
      | (refine wpList_store_rowTo rfl 35 _ _ rfl rfl w4.heap.size (msgA t (.slice al l.length capl) (.slice ad ds.length capd)) rfl rfl _ _ (heap_alloc_new _ _) (by kernel_rfl) (by kernel_rfl) (by kernel_rfl) ?_; rw [alloc_setRow]; have HB5 := Lib.hid (HB4.out.alloc HB4.out.size (.cells (msgA t (.slice al l.length capl) (.slice ad ds.length capd)) 35)); have hLm := Lib.hid (HL4.out.alloc (.cells (msgA t (.slice al l.length capl) (.slice ad ds.length capd)) 35)); have hDm := Lib.hid (HD4.out.alloc (.cells (msgA t (.slice al l.length capl) (.slice ad ds.length capd)) 35)); have HHm := heap_alloc_new w4 (.cells (msgA t (.slice al l.length capl) (.slice ad ds.length capd)) 35); generalize w4.alloc (.cells (msgA t (.slice al l.length capl) (.slice ad ds.length capd)) 35) = w5 at HB5 HE hLm hDm HHm ⊢; have c0 := cell_heap HHm 0; have c1 := cell_heap HHm 1; have c2 := cell_heap HHm 2; have c3 := cell_heap HHm 3; have c4 := cell_heap HHm 4; have c5 := cell_heap HHm 5; have c6 := cell_heap HHm 6; have c7 := cell_heap HHm 7; have c8 := cell_heap HHm 8; have c9 := cell_heap HHm 9; have c10 := cell_heap HHm 10; have c11 := cell_heap HHm 11; have c12 := cell_heap HHm 12; have c13 := cell_heap HHm 13; have c14 := cell_heap HHm 14; have HH5 := Lib.hid ((HB5.out.block w.heap.size (by simp)).trans (heap_alloc_new _ _)); clear HHm)
      | (refine wpList_store_rowTo rfl 35 _ _ rfl rfl w.heap.size (msgA 0 nilV nilV) rfl rfl _ _ HH5.out (by kernel_rfl) (by kernel_rfl) (by kernel_rfl) ?_; have hheap := setRow_heap w5 w.heap.size _ (msgA 0 nilV nilV) _ _ HH5.out; have HB9 := Lib.hid (below_setRow (below1 HB5.out) (Nat.le_refl _) (msgA 0 nilV nilV))))
    refine bodyPost_ret (results_row_tmp rfl _ _ w.heap.size _ _ _ _ rfl hheap Try.underlying35 rfl (by kernel_rfl)) rfl ?_
    exact ⟨_, _, rfl, Ints.nil _ _, Ints.nil _ _, HB9.out⟩
end Go.Proofs.Ytfaklenclhljhaa
