/- What lies apart from a buffer; Even of a fixed step, what none answers; the fixed calls of chapter 3 come out true. Conditions: none beyond each lemma's own. -/
import Derived.Test.YtdljlcbjpfgmcaaBufB
namespace Go.Proofs.Ytdljlcbjpfgmcaa
open Go.RowKit Go.Maps

/-- v lies apart from the buffer's blocks. -/
def Apart (v : Value) (w : World) (p m : Nat) (g : Option Nat) : Prop := ∀ k, v.ownBlock = some k → ¬ foot p m g k ∧ k < w.heap.size
theorem Apart.step {v : Value} {w w' : World} {p m : Nat} {g g' : Option Nat} (h : Apart v w p m g) (hs : w.heap.size ≤ w'.heap.size) (hg : ∀ k, g' = some k → g = some k ∨ w.heap.size ≤ k) : Apart v w' p m g' := fun k e => by
  obtain ⟨h1, h2⟩ := h k e
  refine ⟨fun hf => ?_, Nat.lt_of_lt_of_le h2 hs⟩
  rcases hf with rfl | rfl | e'
  · exact h1 (.inl rfl)
  · exact h1 (.inr (.inl rfl))
  · rcases hg k e' with h | h
    · exact h1 (.inr (.inr h))
    · omega
theorem Apart.later {v : Value} {w w' : World} {p m : Nat} {g : Option Nat} (h : Apart v w p m g) (hs : w.heap.size ≤ w'.heap.size) : Apart v w' p m g := h.step hs (fun _ e => .inl e)
theorem Apart.fresh {L : Nat} {w w' : World} {p m : Nat} {g : Option Nat} {s : Bf} {v : Value} {e size n : Nat} {xs : List Value} (hb : Buf L w p m g s) (ho : w'.ownsRow w.heap.size e size v n xs) : Apart v w' p m g := fun k e => by
  have h1 := ho.lt k e
  refine ⟨fun hf => ?_, h1.2⟩
  have := hb.flt k hf
  omega
theorem Apart.not {v : Value} {w : World} {p m : Nat} {g : Option Nat} (h : Apart v w p m g) : ∀ k, v.ownBlock = some k → ¬ foot p m g k := fun k e => (h k e).1

set_option maxRecDepth 100000
set_option maxHeartbeats 4000000

theorem nilb_none {w : World} : Calls Try.prog 80 #[.pointer none] w fun e w' => e = .returned (.bool true) ∧ w = w' := by
  go_enter Try.func80, Try.ntmps80
  go_wp2
  go_ret
  exact ⟨rfl, rfl⟩
theorem nilb_len {w : World} : Calls Try.prog 51 #[.pointer none] w fun e w' => e = .returned (.int .i64 0) ∧ w = w' := by
  go_enter Try.func51, Try.ntmps51
  go_wp2_with ((go_at_call 80; (with_reducible refine nilb_none.mono ?_); rintro e1 w1 ⟨rfl, rfl⟩))
  go_ret
  exact ⟨rfl, rfl⟩
theorem nilb_bytes {w : World} {v : Value} : Calls Try.prog 49 #[.pointer none, v] w fun e w' => e = .returned (.tuple #[]) ∧ w = w' := by
  go_enter Try.func49, Try.ntmps49
  go_wp2_with ((go_at_call 80; (with_reducible refine nilb_none.mono ?_); rintro e1 w1 ⟨rfl, rfl⟩))
  go_end0
  exact ⟨rfl, rfl⟩
theorem nilb_done {w : World} : Calls Try.prog 50 #[.pointer none] w fun e w' => e = .returned (.tuple #[.slice none 0 0, .int .i64 10001]) ∧ w = w' := by
  go_enter Try.func50, Try.ntmps50
  go_wp2_with ((go_at_call 80; (with_reducible refine nilb_none.mono ?_); rintro e1 w1 ⟨rfl, rfl⟩))
  go_ret2
  exact ⟨rfl, rfl⟩
theorem nilb_hold {w : World} : Calls Try.prog 52 #[.pointer none, .int .i64 1] w fun e w' => e = .returned (.int .i64 0) ∧ Below w.heap.size w w' := by
  have HW := Lib.hid (buf_wide_ok (w := w) (v := .pointer none) (x := 1) (by decide))
  go_enter Try.func52, Try.ntmps52
  go_wp2_with (first
    | (go_at_call 82; (with_reducible refine HW.out.mono ?_); rintro e1 w1 ⟨rfl, rfl⟩)
    | (go_at_call 51; (with_reducible refine nilb_len.mono ?_); rintro e1 w1 ⟨rfl, rfl⟩)
    | (at_make; refine wpList_makeN rfl _ _ _ rfl w.heap.size 5 (.int .u8 0) 1 Try.underlying28 info_u8 rfl .i64 .i64 _ _ 1 rfl rfl rfl rfl (by omega) (by unfold maxLen; omega) (Nat.le_refl _) ?_; intro w1 hown1 hb1; have HB1 := Lib.hid hb1; clear hown1 hb1)
    | (go_at_call 49; (with_reducible refine nilb_bytes.mono ?_); rintro e1 w2 ⟨rfl, rfl⟩)
    | (go_at_call 80; (with_reducible refine nilb_none.mono ?_); rintro e1 w3 ⟨rfl, rfl⟩))
  go_ret
  exact ⟨rfl, HB1.out⟩

/-- Even, of three bytes to eight. -/
theorem buf_even3 {L : Nat} {w : World} {p m : Nat} {g : Option Nat} {s : Bf} (h : Buf L w p m g s) (hl : s.bs.length = 3) :
    Calls Try.prog 79 #[.pointer (some ⟨p, 0, none⟩), .int .i64 8] w (GotB L w p m g (s.bytes [0, 0, 0, 0, 0]) (.tuple #[])) := by
  have HLen := buf_len h
  rw [hl] at HLen
  have HLen : Hid (Calls Try.prog 51 #[.pointer (some ⟨p, 0, none⟩)] w fun e w' => e = .returned (.int .i64 3) ∧ w = w') := HLen
  have HB := Lib.hid h
  have hbl := h.lt
  clear h
  go_enter Try.func79, Try.ntmps79
  go_wp2_with (first
    | (go_at_call 51; (with_reducible refine HLen.out.mono ?_); rintro e1 w1 ⟨rfl, rfl⟩)
    | (at_make; refine wpList_makeN rfl _ _ _ rfl w.heap.size 5 (.int .u8 0) 1 Try.underlying28 info_u8 rfl .i64 .i64 _ _ 5 rfl rfl rfl rfl (by omega) (by unfold maxLen; omega) (Nat.le_refl _) ?_; intro w1 hown1 hb1; have HX1 : Hid (Ints .u8 w1 (.slice (some ⟨w.heap.size, 0, none⟩) 5 5) [0, 0, 0, 0, 0]) := Ints.of_own hown1 (by decide); have HB1 := Lib.hid hb1; have HBy := Lib.hid (buf_bytes (HB.out.below hb1) HX1.out); clear hown1 hb1)
    | (go_at_call 49; (with_reducible refine HBy.out.mono ?_); rintro e1 w2 hf; have HF1 := Lib.hid (hf.after HB1.out); obtain ⟨rfl, -⟩ := hf))
  go_end0
  exact HF1.out

def s3a : Bf := Bf.new 9
def s3b : Bf := s3a.hold 2
def s3c : Bf := { s3b with bs := [0, 0, 7] }
def s3d : Bf := { s3c with bs := [0, 3, 7], held := .map [] }
def s3e : Bf := { s3d with bs := [0, 3, 7, 0, 0, 0, 0, 0] }
def s3f : Bf := { s3e with er := 10003 }
theorem s3_num : s3b.num 1 7 = s3c := by rfl
theorem s3_done1 : s3c.done = ([], 10001) := by rfl
theorem s3_fill : s3c.fill 0 2 3 = s3d := by rfl
theorem s3_has : Maps.has s3c.held (keyI 0) = true := by rfl
theorem s3_at : s3c.held.atKey (keyI 0) (.lit (.int .i64 0)) = .lit (.int .i64 2) := by rfl
theorem s3_done2 : s3d.done = ([0, 3, 7], 0) := by rfl
theorem s3_even : s3d.bytes [0, 0, 0, 0, 0] = s3e := by rfl
theorem s3_bytes : s3e.bytes [1, 2] = s3f := by rfl
theorem s3_done3 : s3f.done = ([], 10003) := by rfl

theorem sure03 (w : World) : Calls Try.prog 47 #[] w fun e w' => e = .returned (.bool true) ∧ Below w.heap.size w w' := by
  have HN : Hid (Calls Try.prog 48 #[.int .i64 9] w _) := buf_new (n := 9) (by decide) w
  go_enter Try.func47, Try.ntmps47
  go_wp2_with fail
  (with_reducible refine HN.out.mono ?_)
  rintro e w1 ⟨p, m, rfl, hbu, hb⟩
  have HB1 := Lib.hid hb
  have HF1 := Lib.hid hbu.from
  have HU : Hid (Calls Try.prog 52 #[.pointer (some ⟨p, 0, none⟩), .int .i64 2] w1 (GotB w.heap.size w1 p m none s3b (.int .i64 0))) := buf_hold hbu (x := 2) (by decide) rfl (by decide) (by decide)
  clear hbu hb
  go_wp2_with fail
  (with_reducible refine HU.out.mono ?_)
  rintro e w2 ⟨rfl, g2, hbu, ht, hg⟩
  have HB2 := Lib.hid (ht.below HB1.out HB1.out.size HF1.out)
  have HF2 := Lib.hid hbu.from
  have HU := buf_num hbu (x := 1) (n := 7) (by decide) (by decide)
  rw [s3_num] at HU
  have HU := Lib.hid HU
  clear hbu ht hg
  go_wp2_with fail
  (with_reducible refine HU.out.mono ?_)
  rintro e w3 ⟨rfl, g3, hbu, ht, hg⟩
  have HB3 := Lib.hid (ht.below HB2.out HB2.out.size HF2.out)
  have HF3 := Lib.hid hbu.from
  have HD := buf_done hbu
  rw [s3_done1] at HD
  have HD := Lib.hid HD
  have HBu := Lib.hid hbu
  clear hbu ht hg
  go_wp2_with fail
  (with_reducible refine HD.out.mono ?_)
  rintro e w4 ⟨v4, rfl, ho, hb⟩
  obtain ⟨a4, c4, rfl⟩ := own_slice ho
  have HB4 := Lib.hid (HB3.out.trans (hb.mono HB3.out.size))
  have HU : Calls Try.prog 53 #[.pointer (some ⟨p, 0, none⟩), .int .i64 0, .int .u64 3] w4 (GotB w.heap.size w4 p m g3 (s3c.fill 0 2 3) (.tuple #[])) := buf_fill (HBu.out.below hb) (at_ := 0) (x := 2) (n := 3) rfl s3_at s3_has (by decide) (by decide) (by decide) (by decide)
  rw [s3_fill] at HU
  have HU := Lib.hid HU
  clear ho hb
  go_wp2_with fail
  (with_reducible refine HU.out.mono ?_)
  rintro e w5 ⟨rfl, g5, hbu, ht, hg⟩
  have HB5 := Lib.hid (ht.below HB4.out HB4.out.size HF3.out)
  have HD := buf_done hbu
  rw [s3_done2] at HD
  have HD := Lib.hid HD
  have HBu := Lib.hid hbu
  clear hbu ht hg
  go_wp2_with fail
  (with_reducible refine HD.out.mono ?_)
  rintro e w6 ⟨v6, rfl, ho, hb⟩
  have HA6 := Lib.hid (Apart.fresh HBu.out ho)
  have HX6 := Lib.hid (Ints.of_own (zs := [0, 3, 7]) ho (by decide))
  obtain ⟨a6, c6, rfl⟩ := own_slice ho
  have HB6 := Lib.hid (HB5.out.trans (hb.mono HB5.out.size))
  have hbu := HBu.out.below hb
  have HF6 := Lib.hid hbu.from
  have HU := buf_even3 hbu rfl
  rw [s3_even] at HU
  have HU := Lib.hid HU
  clear hbu ho hb
  go_wp2_with fail
  (with_reducible refine HU.out.mono ?_)
  rintro e w7 ⟨rfl, g7, hbu, ht, hg⟩
  have HB7 := Lib.hid (ht.below HB6.out HB6.out.size HF6.out)
  have HX7 := Lib.hid (ht.ints HX6.out HA6.out.not)
  have HA7 := Lib.hid (HA6.out.step ht.size hg)
  have HF7 := Lib.hid hbu.from
  have HU : Calls Try.prog 49 #[.pointer (some ⟨p, 0, none⟩), .slice (some ⟨w7.heap.size, 0, none⟩) 2 2] (w7.alloc (.cells #[.int .u8 1, .int .u8 2] 5)) _ := buf_bytes (hbu.below (below_alloc2 (.cells #[.int .u8 1, .int .u8 2] 5))) (Ints.lit .u8 w7 5 [1, 2] _ rfl (by decide) (by decide))
  rw [s3_bytes] at HU
  have HU := Lib.hid (HU.mono fun _ _ h => h.after (below_alloc2 _))
  clear hbu ht hg
  go_wp2_with fail
  (with_reducible refine HU.out.mono ?_)
  rintro e w8 ⟨rfl, g8, hbu, ht, hg⟩
  have HB8 := Lib.hid (ht.below HB7.out HB7.out.size HF7.out)
  have HX8 := Lib.hid (ht.ints HX7.out HA7.out.not)
  have HD := buf_done hbu
  rw [s3_done3] at HD
  have HD := Lib.hid HD
  have HBu := Lib.hid hbu
  clear hbu ht hg
  go_wp2_with fail
  (with_reducible refine HD.out.mono ?_)
  rintro e w9 ⟨v9, rfl, ho, hb⟩
  obtain ⟨a9, c9, rfl⟩ := own_slice ho
  have HB9 := Lib.hid (HB8.out.trans (hb.mono HB8.out.size))
  have HX9 := Lib.hid (HX8.out.below hb)
  have HBu := Lib.hid (HBu.out.below hb)
  clear ho hb
  go_wp2_with fail
  (with_reducible refine nilb_done.mono ?_)
  rintro e w9' ⟨rfl, rfl⟩
  go_wp2_with fail
  have HY := ref_bytes _ _ [0, 3, 7] [0, 3, 7] _ (HX9.out.alloc (.cells #[.int .u8 0, .int .u8 3, .int .u8 7] 5)) (Ints.lit .u8 w9 5 [0, 3, 7] _ rfl (by decide) (by decide))
  rw [show decide (([0, 3, 7] : List Int) = [0, 3, 7]) = true by decide] at HY
  refine HY.mono ?_
  rintro e w10 ⟨rfl, hb⟩
  have HB10 := Lib.hid (HB9.out.trans ((below1 hb).mono HB9.out.size))
  have HLen : Hid (Calls Try.prog 51 #[.pointer (some ⟨p, 0, none⟩)] w10 fun e w' => e = .returned (.int .i64 8) ∧ w10 = w') := buf_len (HBu.out.below (below1 hb))
  clear hb HY
  go_wp2_with fail
  (with_reducible refine HLen.out.mono ?_)
  rintro e w10' ⟨rfl, rfl⟩
  go_wp2_with fail
  (with_reducible refine nilb_hold.mono ?_)
  rintro e w11 ⟨rfl, hb⟩
  have HB11 := Lib.hid (HB10.out.trans (hb.mono HB10.out.size))
  clear hb
  go_wp2_with fail
  go_ret
  exact ⟨rfl, HB11.out⟩
end Go.Proofs.Ytdljlcbjpfgmcaa
