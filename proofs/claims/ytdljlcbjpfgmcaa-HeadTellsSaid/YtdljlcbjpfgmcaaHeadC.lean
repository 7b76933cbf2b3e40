/- The walk of head.Put, and what it hands back, in plain Lean. Conditions: the numbers of the head are of their types. -/
import Derived.Test.YtdljlcbjpfgmcaaHeadB
import Derived.Test.YtdljlcbjpfgmcaaBufA
namespace Go.Proofs.Ytdljlcbjpfgmcaa
open Go.RowKit

/-! ### plain -/
theorem putS_one {k x : Int} (hk : 1 ≤ k ∧ k ≤ 8) : putS [k] [x] = if fitsW x k then some (be k.natAbs x) else none := by
  have hr : RightS [k] = true := by simp [RightS, okW]; omega
  simp [putS, hr, cntL, putL, show ¬ k < 0 by omega, show 0 < k by omega]
theorem num_fine {s : Bf} {k x : Int} (hk : 1 ≤ k ∧ k ≤ 8) (h : s.er = 0) (hf : fitsW x k = true) (hr : s.bs.length + k.natAbs ≤ s.room) : s.num k x = { s with bs := s.bs ++ be k.natAbs x } := by
  rw [Bf.num, if_neg (by omega)]
  unfold Bf.row
  rw [putS_one hk, hf]
  exact bytes_b_fine h (by rw [be_length]; omega)
theorem num_odd {s : Bf} {k x : Int} (hk : 1 ≤ k ∧ k ≤ 8) (h : s.er = 0) (hf : fitsW x k = false) : s.num k x = { s with er := 10001 } := by
  rw [Bf.num, if_neg (by omega)]
  unfold Bf.row
  rw [putS_one hk, hf]
  show s.fail 10001 = _
  rw [Bf.fail, if_pos h]
theorem bf_fail_busy {s : Bf} (h : s.er ≠ 0) (e : Int) : s.fail e = s := by rw [Bf.fail, if_neg h]
theorem num_busy {s : Bf} {k x : Int} (h : s.er ≠ 0) : s.num k x = s := by
  unfold Bf.num
  split
  · exact bf_fail_busy h _
  · unfold Bf.row
    split
    · exact bf_fail_busy h _
    · exact bytes_b_busy h

/-- What Put answers. -/
def putH (h : Hd) : List Int × Int :=
  if h.v < 0 ∨ 255 < h.v ∨ h.t < 0 ∨ 255 < h.t ∨ h.n < 8 ∨ 65535 < h.n then ([], 10001)
  else (be 1 h.v ++ be 1 h.t ++ be 2 h.n ++ be 4 h.x, 0)

theorem done_er {s : Bf} (h : s.er ≠ 0) : s.done = ([], s.er) := by rw [Bf.done, if_pos h]
theorem putH_num (h : Hd) (h1 : 0 ≤ h.v) (h2 : 0 ≤ h.t) (h3 : 8 ≤ h.n) (h4 : 0 ≤ h.x ∧ h.x < 4294967296) : (((((Bf.new 8).num 1 h.v).num 1 h.t).num 2 h.n).num 4 h.x).done = putH h := by
  by_cases a1 : 255 < h.v
  · rw [num_odd (k := 1) (x := h.v) (by omega) rfl (by simp [fitsW]; omega), num_busy (k := 1) (by simp), num_busy (k := 2) (by simp), num_busy (k := 4) (by simp), done_er (by simp)]
    rw [putH, if_pos (by omega)]
  rw [num_fine (k := 1) (x := h.v) (by omega) rfl (by simp [fitsW]; omega) (by decide)]
  by_cases a2 : 255 < h.t
  · rw [num_odd (k := 1) (x := h.t) (by omega) rfl (by simp [fitsW]; omega), num_busy (k := 2) (by simp), num_busy (k := 4) (by simp), done_er (by simp)]
    rw [putH, if_pos (by omega)]
  rw [num_fine (k := 1) (x := h.t) (by omega) rfl (by simp [fitsW]; omega) (by simp [Bf.new, be_length])]
  by_cases a3 : 65535 < h.n
  · rw [num_odd (k := 2) (x := h.n) (by omega) rfl (by simp [fitsW]; omega), num_busy (k := 4) (by simp), done_er (by simp)]
    rw [putH, if_pos (by omega)]
  rw [num_fine (k := 2) (x := h.n) (by omega) rfl (by simp [fitsW]; omega) (by simp [Bf.new, be_length])]
  rw [num_fine (k := 4) (x := h.x) (by omega) rfl (by simp [fitsW]; omega) (by simp [Bf.new, be_length])]
  rw [putH, if_neg (by omega)]
  rfl

theorem wrap_u64 {n : Int} (h1 : 0 ≤ n) (h2 : n < 18446744073709551616) : IntKind.wrap .u64 n = n := by
  simp [IntKind.wrap, IntKind.signed, IntKind.bits]; omega

structure Hd.ok (h : Hd) : Prop where
  v : (Lit.int .i64 h.v).wf = true
  t : (Lit.int .i64 h.t).wf = true
  n : (Lit.int .i64 h.n).wf = true
  x : (Lit.int .u32 h.x).wf = true
theorem i64_bd {n : Int} (h : (Lit.int .i64 n).wf = true) : -9223372036854775808 ≤ n ∧ n < 9223372036854775808 := by
  simp [Lit.wf, IntKind.min, IntKind.max, IntKind.signed, IntKind.bits] at h; omega
theorem u32_bd {n : Int} (h : (Lit.int .u32 n).wf = true) : 0 ≤ n ∧ n < 4294967296 := by
  simp [Lit.wf, IntKind.min, IntKind.max, IntKind.signed, IntKind.bits] at h; omega
theorem u64_wf {n : Int} (h1 : 0 ≤ n) (h2 : n < 18446744073709551616) : (Lit.int .u64 n).wf = true := by
  simp [Lit.wf, IntKind.min, IntKind.max, IntKind.signed, IntKind.bits]; omega

set_option maxRecDepth 100000
set_option maxHeartbeats 4000000

theorem head_put (h : Hd) (ho : h.ok) (w : World) :
    Calls Try.prog 55 #[h.val] w (GotDone w (putH h).1 (putH h).2) := by
  obtain ⟨v, t, n, x⟩ := h
  have hv := i64_bd ho.v
  have ht := i64_bd ho.t
  have hn := i64_bd ho.n
  have hx := u32_bd ho.x
  clear ho
  simp only at hv ht hn hx
  show Calls Try.prog 55 #[.agg #[.int .i64 v, .int .i64 t, .int .i64 n, .int .u32 x]] w _
  by_cases hbad : v < 0 ∨ t < 0 ∨ n < 8
  · have HP : Hid (putH ⟨v, t, n, x⟩ = ([], 10001)) := by show putH _ = _; rw [putH, if_pos (by simp only; omega)]
    rw [HP.out]
    rcases (show v < 0 ∨ (¬ v < 0 ∧ t < 0) ∨ (¬ v < 0 ∧ ¬ t < 0 ∧ n < 8) by omega) with g1 | ⟨g1, g2⟩ | ⟨g1, g2, g3⟩
    all_goals
      clear hbad
      go_enter Try.func55, Try.ntmps55
      go_wp2
      go_ret2
      exact ⟨_, rfl, World.ownsRow_nil _ _ _ _, below_alloc2 _⟩
  · have e1 : decide (v < 0) = false := decide_eq_false (by omega)
    have e2 : decide (t < 0) = false := decide_eq_false (by omega)
    have e3 : decide (n < 8) = false := decide_eq_false (by omega)
    have HP := Lib.hid (putH_num ⟨v, t, n, x⟩ (by simp only; omega) (by simp only; omega) (by simp only; omega) hx)
    have W1 : IntKind.wrap .u64 v = v := wrap_u64 (by omega) (by omega)
    have W2 : IntKind.wrap .u64 t = t := wrap_u64 (by omega) (by omega)
    have W3 : IntKind.wrap .u64 n = n := wrap_u64 (by omega) (by omega)
    have W4 : IntKind.wrap .u64 x = x := wrap_u64 (by omega) (by omega)
    have F1 := Lib.hid (u64_wf (n := v) (by omega) (by omega))
    have F2 := Lib.hid (u64_wf (n := t) (by omega) (by omega))
    have F3 := Lib.hid (u64_wf (n := n) (by omega) (by omega))
    have F4 := Lib.hid (u64_wf (n := x) (by omega) (by omega))
    clear hbad
    have HN : Hid (Calls Try.prog 48 #[.int .i64 8] (w.alloc (.cells #[.int .i64 v, .int .i64 t, .int .i64 n, .int .u32 x] 48)) _) := buf_new (n := 8) (by decide) _
    go_enter Try.func55, Try.ntmps55
    go_wp2_with fail
    (with_reducible refine HN.out.mono ?_)
    rintro e w1 ⟨p, m, rfl, hbu, hb⟩
    have HB1 := Lib.hid hb
    have HH1 := (hb.block w.heap.size (by simp)).trans (heap_alloc_new _ _)
    have c0 := cell_heap HH1 0
    have c1 := cell_heap HH1 1
    have c2 := cell_heap HH1 2
    have c3 := cell_heap HH1 3
    clear HH1
    have HU1 := Lib.hid (buf_num hbu (x := 1) (n := v) (by decide) F1.out)
    have HF1 := Lib.hid hbu.from
    clear hbu hb
    go_wp2_with fail
    (with_reducible refine HU1.out.mono ?_)
    rintro e w2 ⟨rfl, g1, hbu, ht, -⟩
    have hb := ht.below HB1.out HB1.out.size HF1.out
    have HB2 := Lib.hid hb
    have HH2 := (hb.block w.heap.size (by simp)).trans (heap_alloc_new _ _)
    have c0 := cell_heap HH2 0
    have c1 := cell_heap HH2 1
    have c2 := cell_heap HH2 2
    have c3 := cell_heap HH2 3
    clear HH2
    have HU2 := Lib.hid (buf_num hbu (x := 1) (n := t) (by decide) F2.out)
    have HF2 := Lib.hid hbu.from
    clear hbu hb ht
    go_wp2_with fail
    (with_reducible refine HU2.out.mono ?_)
    rintro e w3 ⟨rfl, g2, hbu, ht, -⟩
    have hb := ht.below HB2.out HB2.out.size HF2.out
    have HB3 := Lib.hid hb
    have HH3 := (hb.block w.heap.size (by simp)).trans (heap_alloc_new _ _)
    have c0 := cell_heap HH3 0
    have c1 := cell_heap HH3 1
    have c2 := cell_heap HH3 2
    have c3 := cell_heap HH3 3
    clear HH3
    have HU3 := Lib.hid (buf_num hbu (x := 2) (n := n) (by decide) F3.out)
    have HF3 := Lib.hid hbu.from
    clear hbu hb ht
    go_wp2_with fail
    (with_reducible refine HU3.out.mono ?_)
    rintro e w4 ⟨rfl, g3, hbu, ht, -⟩
    have hb := ht.below HB3.out HB3.out.size HF3.out
    have HB4 := Lib.hid hb
    have HH4 := (hb.block w.heap.size (by simp)).trans (heap_alloc_new _ _)
    have c0 := cell_heap HH4 0
    have c1 := cell_heap HH4 1
    have c2 := cell_heap HH4 2
    have c3 := cell_heap HH4 3
    clear HH4
    have HU4 := Lib.hid (buf_num hbu (x := 4) (n := x) (by decide) F4.out)
    have HF4 := Lib.hid hbu.from
    clear hbu hb ht
    go_wp2_with fail
    (with_reducible refine HU4.out.mono ?_)
    rintro e w5 ⟨rfl, g4, hbu, ht, -⟩
    have hb := ht.below HB4.out HB4.out.size HF4.out
    have HB5 := Lib.hid hb
    have HH5 := (hb.block w.heap.size (by simp)).trans (heap_alloc_new _ _)
    have c0 := cell_heap HH5 0
    have c1 := cell_heap HH5 1
    have c2 := cell_heap HH5 2
    have c3 := cell_heap HH5 3
    clear HH5
    have HD := buf_done hbu
    rw [HP.out] at HD
    have HD := Lib.hid HD
    have HF5 := Lib.hid hbu.from
    clear hbu hb ht
    go_wp2_with fail
    (with_reducible refine HD.out.mono ?_)
    rintro e w6 ⟨va, rfl, ho, hb⟩
    have HO6 := Lib.hid ho
    have HB6 := Lib.hid hb
    clear ho hb
    go_wp2_with fail
    go_ret2
    have hsz := (below1 HB5.out).size
    exact ⟨_, rfl, own_base HO6.out hsz, (below1 HB5.out).trans (HB6.out.mono hsz)⟩
end Go.Proofs.Ytdljlcbjpfgmcaa
