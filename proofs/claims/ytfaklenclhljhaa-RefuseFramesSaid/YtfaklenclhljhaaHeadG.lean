/- The walk of head.Get. Conditions: the argument reads as bytes. -/
import Derived.Test.YtfaklenclhljhaaRfB
namespace Go.Proofs.Ytfaklenclhljhaa
open Go.RowKit
set_option maxRecDepth 100000
set_option maxHeartbeats 4000000

/-- A head: version, type, length, number. -/
structure Hd where
  v : Int
  t : Int
  n : Int
  x : Int
def Hd.val (h : Hd) : Value := .agg #[.int .i64 h.v, .int .i64 h.t, .int .i64 h.n, .int .u32 h.x]
def hdOf (bs : List Int) : Hd × Int :=
  if bs.length < 8 then (⟨0, 0, 0, 0⟩, 10002)
  else (⟨valL (bs.take 1), valL ((bs.drop 1).take 1), valL ((bs.drop 2).take 2), valL ((bs.drop 4).take 4)⟩, 0)

theorem hd_short {bs : List Int} (h : bs.length < 8) : getS [1, 1, 2, 4] bs = ([], 1) := by
  have hr : RightS [1, 1, 2, 4] = true := by decide
  refine getS_err hr ?_
  by_cases h1 : bs.length < 1
  · simp [getL, h1]
  · by_cases h2 : bs.length - 1 < 1
    · simp [getL, Except.map, h1, h2]
    · by_cases h3 : bs.length - 2 < 2
      · simp [getL, Except.map, List.length_drop, h1, h2, h3]
      · have h4 : bs.length - 4 < 4 := by omega
        simp [getL, Except.map, List.length_drop, List.drop_drop, h1, h2, h3, h4]
theorem hd_fine {bs : List Int} (h : 8 ≤ bs.length) : getS [1, 1, 2, 4] bs = ([valL (bs.take 1), valL ((bs.drop 1).take 1), valL ((bs.drop 2).take 2), valL ((bs.drop 4).take 4)], 0) := by
  have hr : RightS [1, 1, 2, 4] = true := by decide
  refine getS_ok hr ?_
  have h1 : ¬ bs.length < 1 := by omega
  have h2 : ¬ bs.length - 1 < 1 := by omega
  have h3 : ¬ bs.length - 2 < 2 := by omega
  have h4 : ¬ bs.length - 4 < 4 := by omega
  simp [getL, Except.map, List.length_drop, List.drop_drop, h1, h2, h3, h4]

theorem val_bd {bs : List Int} (hb : U8 bs) (i k : Nat) (h : i + k ≤ bs.length) : 0 ≤ valL ((bs.drop i).take k) ∧ valL ((bs.drop i).take k) < 256 ^ k := by
  have := valL_bd (b := (bs.drop i).take k) (fun z hz => hb z (List.mem_of_mem_drop (List.mem_of_mem_take hz)))
  rw [List.length_take, List.length_drop, Nat.min_eq_left (by omega)] at this
  exact this

theorem wrap_u32 {n : Int} (h1 : 0 ≤ n) (h2 : n < 4294967296) : IntKind.wrap .u32 n = n := by
  simp [IntKind.wrap, IntKind.signed, IntKind.bits]; omega
theorem head_get {v : Value} {bs : List Int} {w : World} (h : Ints .u8 w v bs) (hl : bs.length ≤ 1000000000) :
    Calls Try.prog 66 #[v] w fun e w' => e = .returned (.tuple #[(hdOf bs).1.val, .int .i64 (hdOf bs).2]) ∧ Below w.heap.size w w' := by
  have HN := Lib.hid (cur_new (h.alloc (.cells #[.int .i64 0, .int .i64 0, .int .i64 0, .int .u32 0] 105)) hl 10002 10002)
  have hb := h.u8
  by_cases h8 : bs.length < 8
  · have HS : Hid ((St.fresh bs 10002 10002).row [1, 1, 2, 4] = ((St.fresh bs 10002 10002).fail 10002, [])) := row_short rfl (by rw [show (St.fresh bs 10002 10002).rest = bs from rfl, hd_short h8])
    rw [show hdOf bs = (⟨0, 0, 0, 0⟩, 10002) by rw [hdOf, if_pos h8]]
    clear h hb
    go_enter Try.func66, Try.ntmps66
    go_wp2_with (first
      | (go_at_call 49; (with_reducible refine HN.out.mono ?_); rintro e w1 ⟨p, rfl, hc, hb⟩; have HR : Calls Try.prog 50 #[.pointer (some ⟨p, 0, none⟩), .slice (some ⟨w1.heap.size, 0, none⟩) 4 4] (w1.alloc (.cells #[.int .i64 1, .int .i64 1, .int .i64 2, .int .i64 4] 3)) (GotNums _ _ p _ _) := cur_row (hc.below (below_alloc2 _)) _ [1, 1, 2, 4] (Ints.lit .i64 w1 3 [1, 1, 2, 4] _ rfl (by decide) (by decide)); rw [HS.out] at HR; have HR := Lib.hid HR; have HB1 := Lib.hid (hb.trans (below_alloc2 (w := w1) (.cells #[.int .i64 1, .int .i64 1, .int .i64 2, .int .i64 4] 3) |>.mono hb.size)); have HP := Lib.hid hc.from; clear hc hb)
      | (go_at_call 50; (with_reducible refine HR.out.mono ?_); rintro e w2 ⟨va, rfl, ho, hc, hg⟩; obtain ⟨ax, capx, rfl⟩ := own_slice ho; have HE := Lib.hid (cur_err hc); have HB2 := Lib.hid (below_row HB1.out HB1.out.size hg HP.out); clear ho hc hg)
      | (go_at_call 51; (with_reducible refine HE.out.mono ?_); rintro e w3 ⟨rfl, rfl⟩)
      | (refine wpList_store_rowTo rfl 105 _ _ rfl rfl w.heap.size #[.int .i64 0, .int .i64 0, .int .i64 0, .int .u32 0] rfl rfl _ _ ((HB2.out.block _ (by simp)).trans (heap_alloc_new _ _)) (by kernel_rfl) (by kernel_rfl) (by kernel_rfl) ?_; have hheap := setRow_heap w2 w.heap.size _ #[.int .i64 0, .int .i64 0, .int .i64 0, .int .u32 0] _ _ ((HB2.out.block _ (by simp)).trans (heap_alloc_new _ _)); have HB4 := Lib.hid (below_setRow (below1 HB2.out) (Nat.le_refl _) #[.int .i64 0, .int .i64 0, .int .i64 0, .int .u32 0]); generalize w2.setRow w.heap.size #[.int .i64 0, .int .i64 0, .int .i64 0, .int .u32 0] = w4 at hheap HB4 ⊢))
    refine bodyPost_ret (results_row_tmp rfl _ _ w.heap.size _ _ _ _ rfl hheap Try.underlying105 rfl (by kernel_rfl)) rfl ?_
    exact ⟨rfl, HB4.out⟩
  · have h1 := val_bd hb 0 1 (by omega)
    have h2 := val_bd hb 1 1 (by omega)
    have h3 := val_bd hb 2 2 (by omega)
    have h4 := val_bd hb 4 4 (by omega)
    rw [List.drop_zero] at h1
    have HS : (St.fresh bs 10002 10002).row [1, 1, 2, 4] = ({ St.fresh bs 10002 10002 with pos := 8 }, [valL (bs.take 1), valL ((bs.drop 1).take 1), valL ((bs.drop 2).take 2), valL ((bs.drop 4).take 4)]) := by
      rw [row_fine rfl (by rw [show (St.fresh bs 10002 10002).rest = bs from rfl, hd_fine (by omega)]), show (St.fresh bs 10002 10002).rest = bs from rfl, hd_fine (by omega)]
      rfl
    rw [show hdOf bs = (⟨valL (bs.take 1), valL ((bs.drop 1).take 1), valL ((bs.drop 2).take 2), valL ((bs.drop 4).take 4)⟩, 0) by rw [hdOf, if_neg h8]]
    clear h hb
    generalize valL (bs.take 1) = x1 at h1 HS ⊢
    generalize valL ((bs.drop 1).take 1) = x2 at h2 HS ⊢
    generalize valL ((bs.drop 2).take 2) = x3 at h3 HS ⊢
    generalize valL ((bs.drop 4).take 4) = x4 at h4 HS ⊢
    have HS := Lib.hid HS
    obtain ⟨h1a, h1b⟩ := h1
    obtain ⟨h2a, h2b⟩ := h2
    obtain ⟨h3a, h3b⟩ := h3
    obtain ⟨h4a, h4b⟩ := h4
    have HU : Hid (∀ z ∈ [x1, x2, x3, x4], (Lit.int .u64 z).wf = true) := U64.wf (by intro z hz; simp at hz; omega)
    have W1 : Hid (IntKind.wrap .i64 x1 = x1) := wrap_small (by omega) (by simp at h1b; omega)
    have W2 : Hid (IntKind.wrap .i64 x2 = x2) := wrap_small (by omega) (by simp at h2b; omega)
    have W3 : Hid (IntKind.wrap .i64 x3 = x3) := wrap_small (by omega) (by simp at h3b; omega)
    have W4 : Hid (IntKind.wrap .u32 x4 = x4) := wrap_u32 h4a (by simp at h4b; omega)
    go_enter Try.func66, Try.ntmps66
    go_wp2_with (first
      | (go_at_call 49; (with_reducible refine HN.out.mono ?_); rintro e w1 ⟨p, rfl, hc, hb⟩; have HR : Calls Try.prog 50 #[.pointer (some ⟨p, 0, none⟩), .slice (some ⟨w1.heap.size, 0, none⟩) 4 4] (w1.alloc (.cells #[.int .i64 1, .int .i64 1, .int .i64 2, .int .i64 4] 3)) (GotNums _ _ p _ _) := cur_row (hc.below (below_alloc2 _)) _ [1, 1, 2, 4] (Ints.lit .i64 w1 3 [1, 1, 2, 4] _ rfl (by decide) (by decide)); rw [HS.out] at HR; have HR := Lib.hid HR; have HB1 := Lib.hid (hb.trans (below_alloc2 (w := w1) (.cells #[.int .i64 1, .int .i64 1, .int .i64 2, .int .i64 4] 3) |>.mono hb.size)); have HP := Lib.hid hc.from; clear hc hb)
      | (go_at_call 50; (with_reducible refine HR.out.mono ?_); rintro e w2 ⟨va, rfl, ho, hc, hg⟩; obtain ⟨ax, capx, bx, ox, rfl, -, -, -, hax, hcx⟩ := (Ints.of_own ho HU.out).open; obtain rfl := hax (by simp); have d0 : w2.cell? ⟨bx, ox, none⟩ = some (.int .u64 x1) := hcx 0 (by simp); have d1 : w2.cell? ⟨bx, ox + 1, none⟩ = some (.int .u64 x2) := hcx 1 (by simp); have d2 : w2.cell? ⟨bx, ox + 2, none⟩ = some (.int .u64 x3) := hcx 2 (by simp); have d3 : w2.cell? ⟨bx, ox + 3, none⟩ = some (.int .u64 x4) := hcx 3 (by simp); have HB2 := Lib.hid (below_row HB1.out HB1.out.size hg HP.out); have HH2 := (HB2.out.block w.heap.size (by simp)).trans (heap_alloc_new _ _); have HH2 := Lib.hid HH2; clear ho hc hg hax hcx)
      | fail)
    go_still_tail 17, (by kernel_rfl)
    rw [W1.out, W2.out, W3.out, W4.out]
    go_wp2_with (refine wpList_store_rowTo rfl 105 _ _ rfl rfl w.heap.size #[.int .i64 x1, .int .i64 x2, .int .i64 x3, .int .u32 x4] rfl rfl _ _ HH2.out (by kernel_rfl) (by kernel_rfl) (by kernel_rfl) ?_; have hheap := setRow_heap { w2 with drawn := w2.drawn + 1 } w.heap.size _ #[.int .i64 x1, .int .i64 x2, .int .i64 x3, .int .u32 x4] _ _ HH2.out; have HB4 := Lib.hid (below_setRow (below_drewN (below1 HB2.out) 1) (Nat.le_refl _) #[.int .i64 x1, .int .i64 x2, .int .i64 x3, .int .u32 x4]))
    refine bodyPost_ret (results_row_tmp rfl _ _ w.heap.size _ _ _ _ rfl hheap Try.underlying105 rfl (by kernel_rfl)) rfl ?_
    exact ⟨rfl, HB4.out⟩
end Go.Proofs.Ytfaklenclhljhaa
