/- The walk of what must come whatever the input is (18). Conditions: none. -/
import Derived.Test.YtoobcgakainelaaZQueU
import Derived.Test.YtoobcgakainelaaZQueH
import Derived.Test.YtoobcgakainelaaZQueJ
namespace Go.Proofs.Ytoobcgakainelaa
open Go.RowKit

def xSu : List Int := [0, 0, 0, 7, 0, 0, 0, 1, 0, 16, 0, 0, 0, 0, 0, 0]
theorem su_dec : decQ xSu = ([(7, 1, [])], 0) := by rfl
theorem su_short : decQ (xSu.take 12) = ([], 263) := by rfl
theorem su_enc : encQ [(7, 1, [])] = (xSu, 0) := by decide
theorem Ints.upto {k : IntKind} {w : World} {a : Option Addr} {n cap : Nat} {zs : List Int} (h : Ints k w (.slice a n cap) zs) (m : Nat) (hm : m ≤ zs.length) : Ints k w (.slice a m cap) (zs.take m) := by
  obtain ⟨a', cap', b, off, he, h1, h2, h3, h4, h5⟩ := h.open
  injection he with e1 e2 e3
  subst e1 e3
  refine Ints.mk (b := b) (off := off) (by simp; omega) (by omega) h2 h3 (fun h => h4 (by omega)) (fun i hi => ?_) (fun z hz => h.2 z (List.mem_of_mem_take hz))
  rw [h5 i (by omega)]
  simp [List.getD, hi]
set_option maxRecDepth 100000
set_option maxHeartbeats 8000000
theorem sure18 (w : World) : Calls Try.prog 21 #[] w fun e w' => e = .returned (.bool true) ∧ Below w.heap.size w w' := by
  have hx := Ints.lit .u8 w 5 xSu _ rfl (by decide) (by decide)
  have HX := Lib.hid hx
  have HB := Lib.hid (below_alloc2 (w := w) (.cells (xSu.map (Value.int .u8)).toArray 5))
  have hd := que_decode hx (by decide)
  unfold GotDec at hd
  rw [su_dec] at hd
  have HD := Lib.hid hd
  clear hx hd
  change Hid (Ints .u8 (w.alloc (.cells #[.int .u8 0, .int .u8 0, .int .u8 0, .int .u8 7, .int .u8 0, .int .u8 0, .int .u8 0, .int .u8 1, .int .u8 0, .int .u8 16, .int .u8 0, .int .u8 0, .int .u8 0, .int .u8 0, .int .u8 0, .int .u8 0] 5)) (.slice (some ⟨w.heap.size, 0, none⟩) 16 16) xSu) at HX
  change Hid (Below w.heap.size w (w.alloc (.cells #[.int .u8 0, .int .u8 0, .int .u8 0, .int .u8 7, .int .u8 0, .int .u8 0, .int .u8 0, .int .u8 1, .int .u8 0, .int .u8 16, .int .u8 0, .int .u8 0, .int .u8 0, .int .u8 0, .int .u8 0, .int .u8 0] 5))) at HB
  go_enter Try.func21, Try.ntmps21
  go_wp2_with fail
  refine HD.out.mono ?_
  rintro e w1 ⟨v1, rfl, ho, hb⟩
  have HX1 := Lib.hid (HX.out.below hb)
  have HB1 := Lib.hid (HB.out.trans (hb.mono (by simp)))
  have HL1 := Lib.hid (OutQ.rows ho)
  obtain ⟨a1, cap1, rfl⟩ := OutG.slice ho
  clear ho hb
  have hd := que_decode (HX1.out.upto 12 (by decide)) (by decide)
  unfold GotDec at hd
  rw [su_short] at hd
  have HD := Lib.hid hd
  clear hd
  go_wp2_with fail
  refine HD.out.mono ?_
  rintro e w2 ⟨v2, rfl, ho, hb⟩
  have HX2 := Lib.hid (HX1.out.below hb)
  have HB2 := Lib.hid (HB1.out.trans (hb.mono HB1.out.size))
  have HL2 := Lib.hid (HL1.out.below QueR.lasts hb)
  obtain ⟨a2, cap2, rfl⟩ := OutG.slice ho
  clear ho hb
  have hd := que_encode HL2.out ⟨by decide, fun q hq => by simp at hq; subst hq; exact ⟨by decide, fun x hx => by simp at hx⟩⟩
  unfold GotEnc at hd
  rw [su_enc] at hd
  have HD := Lib.hid hd
  clear hd
  go_wp2_with fail
  refine HD.out.mono ?_
  rintro e w3 ⟨v3, rfl, ho, hu, hb⟩
  have HX3 := Lib.hid (HX2.out.below hb)
  have HB3 := Lib.hid (HB2.out.trans (hb.mono HB2.out.size))
  have HL3 := Lib.hid (HL2.out.below QueR.lasts hb)
  have HE3 := Lib.hid (Ints.of_own ho hu.wf)
  obtain ⟨a3, cap3, rfl⟩ := own_slice ho
  clear ho hu hb
  obtain ⟨a, cap, b, off, e, hcap, hmx, -, ha, hit⟩ := ques_open HL3.out
  injection e with e1 e2 e3
  subst e1 e3
  obtain rfl := ha (by simp)
  obtain ⟨pv, k0, k1, -⟩ := hit 0 7 1 [] rfl
  rw [Nat.zero_mul, Nat.add_zero] at k0 k1
  clear ha hit e2
  go_wp2_with fail
  refine (ref_bytes _ _ xSu xSu _ HE3.out HX3.out).mono ?_
  rintro e w4 ⟨rfl, hb⟩
  have HB4 := Lib.hid (HB3.out.trans (hb.mono HB3.out.size))
  clear hb
  go_wp2_with fail
  go_ret
  exact ⟨by simp, HB4.out⟩
end Go.Proofs.Ytoobcgakainelaa
