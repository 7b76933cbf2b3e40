/- The walks of bytes.Equal and of queue.Same (a function value handed to slices.EqualFunc, twice). Conditions: none. -/
import Derived.Test.YtoobcgakainelaaZQueP
import Derived.Test.YtoobcgakainelaaZRefTA
import Derived.Shelf.Bytes.SlEqualAll
namespace Go.Proofs.Ytoobcgakainelaa
open Go Go.RowKit
set_option maxRecDepth 100000
set_option maxHeartbeats 4000000

theorem conv_ints {w : World} {a : Option Addr} {n c : Nat} {xs : List Int} (h : Ints .u8 w (.slice a n c) xs) : (convert 25 9 (.slice a n c)).run Try.prog w = .ok (.string (strOfNums xs)) w := by
  obtain ⟨a', c', b, off, he, -, -, -, h4, h5⟩ := h.open
  injection he with e1 e2 e3
  subst e1 e2 e3
  exact Lib.BytesIn.convert (fun hn => ⟨b, off, h4 hn, h5⟩) rfl c 25 5 9 Try.underlying25 Try.underlying5 Try.underlying9
theorem bytesOf_inj {xs ys : List Int} (hx : U8 xs) (hy : U8 ys) : (Lib.bytesOf xs == Lib.bytesOf ys) = decide (xs = ys) := by
  rw [Bool.eq_iff_iff, beq_iff_eq, decide_eq_true_eq]
  refine ⟨fun h => ?_, fun h => by rw [h]⟩
  unfold Lib.bytesOf at h
  induction xs generalizing ys with
  | nil => cases ys with | nil => rfl | cons y ys => simp at h
  | cons x xs ih =>
    cases ys with
    | nil => simp at h
    | cons y ys =>
      simp only [List.map_cons, List.cons.injEq] at h
      have h1 := hx x (by simp)
      have h2 := hy y (by simp)
      have h3 : x = y := by
        have := congrArg UInt8.toNat h.1
        simp only [UInt8.toNat_ofNat'] at this
        omega
      rw [h3, ih (fun z hz => hx z (by simp [hz])) (fun z hz => hy z (by simp [hz])) h.2]
theorem bytes_equal {v1 v2 : Value} {xs ys : List Int} {w : World} (h1 : Ints .u8 w v1 xs) (h2 : Ints .u8 w v2 ys) :
    Calls Try.prog 70 #[v1, v2] w fun e w' => e = .returned (.bool (decide (xs = ys))) ∧ w = w' := by
  have hu1 := h1.u8
  have hu2 := h2.u8
  have HE := Lib.hid (bytesOf_inj hu1 hu2)
  obtain ⟨a1, c1, b1, o1, rfl, -⟩ := h1.open
  obtain ⟨a2, c2, b2, o2, rfl, -⟩ := h2.open
  have k1 := conv_ints h1
  have k2 := conv_ints h2
  clear h1 h2 hu1 hu2
  go_enter Try.func70, Try.ntmps70
  go_wp2_with fail
  go_ret
  refine ⟨?_, rfl⟩
  rw [← HE.out, ← Lib.strOfNums_toList, ← Lib.strOfNums_toList]
  rfl

def GotEq (b : Bool) (w : World) (e : Ending) (w' : World) : Prop := e = .returned (.bool b) ∧ Below w.heap.size w w'
theorem que_eqP {p q : Prp} {d1 d2 : Value} {w : World} (h1 : Ints .u8 w d1 p.2.2) (h2 : Ints .u8 w d2 q.2.2) :
    Calls Try.prog 69 #[.agg #[.int .i64 p.1, .int .u64 p.2.1, d1], .agg #[.int .i64 q.1, .int .u64 q.2.1, d2]] w (GotEq (decide (p = q)) w) := by
  obtain ⟨t, n, bs⟩ := p
  obtain ⟨t2, n2, bs2⟩ := q
  simp only at h1 h2 ⊢
  obtain ⟨a1, c1, b1, o1, rfl, -⟩ := h1.open
  obtain ⟨a2, c2, b2, o2, rfl, -⟩ := h2.open
  have HB : Hid (Below w.heap.size w ((w.alloc (.cells #[.int .i64 t, .int .u64 n, .slice a1 bs.length c1] 81)).alloc (.cells #[.int .i64 t2, .int .u64 n2, .slice a2 bs2.length c2] 81))) := Lib.hid ((below_alloc2 _).trans ((below_alloc2 _).mono (by simp)))
  have HE := Lib.hid (bytes_equal (h1.below HB.out) (h2.below HB.out))
  clear h1 h2
  unfold GotEq
  by_cases ht : t = t2
  · subst ht
    have e1 : (t == t) = true := by simp
    by_cases hn : n = n2
    · subst hn
      have e2 : (n == n) = true := by simp
      go_enter Try.func69, Try.ntmps69
      go_wp2_with fail
      refine HE.out.mono ?_
      rintro e w3 ⟨rfl, rfl⟩
      go_wp2_with fail
      go_ret
      refine ⟨?_, HB.out⟩
      by_cases hb : bs = bs2
      · subst hb; simp
      · rw [decide_eq_false hb, decide_eq_false (fun e => hb (by injection e with _ e; injection e))]; rfl
    · have e2 : (n == n2) = false := by simpa using hn
      have HNE : Hid (decide ((t, n, bs) = (t, n2, bs2)) = false) := decide_eq_false (fun e => hn (by injection e with _ e; injection e))
      clear hn
      go_enter Try.func69, Try.ntmps69
      go_wp2_with fail
      go_ret
      exact ⟨by rw [HNE.out]; rfl, HB.out⟩
  · have e1 : (t == t2) = false := by simpa using ht
    have HNE : Hid (decide ((t, n, bs) = (t2, n2, bs2)) = false) := decide_eq_false (fun e => ht (by injection e))
    clear ht
    go_enter Try.func69, Try.ntmps69
    go_wp2_with fail
    go_ret
    exact ⟨by rw [HNE.out]; rfl, HB.out⟩

theorem props_eqf {v1 v2 : Value} {l m : List Prp} {w : World} (h1 : RowsOf PrpR 3 w v1 l) (h2 : RowsOf PrpR 3 w v2 m) :
    Calls Try.prog 68 #[v1, v2, .func (.func 69) #[] #[]] w (GotEq (decide (l = m)) w) := by
  unfold GotEq
  obtain ⟨a, cap, b, off, rfl, hcap, hmx, -, ha, hit⟩ := prps_open h1
  obtain ⟨a2, cap2, b2, off2, rfl, hcap2, hmx2, -, ha2, hit2⟩ := prps_open h2
  unfold maxLen at hmx hmx2
  have A := Lib.hid ha
  have A2 := Lib.hid ha2
  have HIt := Lib.hid hit
  have HIt2 := Lib.hid hit2
  clear h1 h2 ha ha2 hit hit2
  by_cases hl : l.length = m.length
  · have e1 : ((l.length : Int) != (l.length : Int)) = false := by simp
    have HL := Lib.hid hl
    rw [← hl]
    clear hl
    go_enter Try.func68, Try.ntmps68
    go_wp2_with fail
    go_loopw [17] (fun i wr => ∃ k : Nat, k ≤ l.length ∧ i = .int .i64 k ∧ Hid (Below w.heap.size w wr) ∧ Hid (l.take k = m.take k)) (fun i _ => l.length - (intOf i).toNat)
    case atStart => exact ⟨0, by omega, rfl, Below.refl _ _, rfl⟩
    case round =>
      obtain ⟨k, hk, rfl, HW, HT⟩ := hrel
      by_cases hlt : k < l.length
      · obtain rfl := A.out (by omega)
        obtain rfl := A2.out (by have := HL.out; omega)
        obtain ⟨⟨t, n, bs⟩, hx⟩ : ∃ x, l[k]? = some x := ⟨_, List.getElem?_eq_getElem hlt⟩
        obtain ⟨⟨t2, n2, bs2⟩, hx2⟩ : ∃ x, m[k]? = some x := ⟨_, List.getElem?_eq_getElem (by have := HL.out; omega)⟩
        obtain ⟨bv, x0, x1, x2, hbv, -, -⟩ := HIt.out k t n bs hx
        obtain ⟨bv2, y0, y1, y2, hbv2, -, -⟩ := HIt2.out k t2 n2 bs2 hx2
        have HX := Lib.hid hx
        have HX2 := Lib.hid hx2
        have e3 : decide ((k : Int) < (l.length : Int)) = true := decide_eq_true (by omega)
        have hlt2 : k < m.length := by have := HL.out; omega
        have hbw := HW.out
        have x0 := (hbw.cell (World.block_lt_of_cell? _ _ x0)).trans x0
        have x1 := (hbw.cell (World.block_lt_of_cell? _ _ x1)).trans x1
        have x2 := (hbw.cell (World.block_lt_of_cell? _ _ x2)).trans x2
        have HB1 := Lib.hid (below_alloc2 (w := wr) (.cells #[.int .i64 t, .int .u64 n, bv] 81))
        have HB2 := Lib.hid (HB1.out.trans ((below_alloc2 (w := wr.alloc (.cells #[.int .i64 t, .int .u64 n, bv] 81)) (.cells #[.int .i64 t2, .int .u64 n2, bv2] 81)).mono (by simp)))
        have hbw1 := hbw.trans (HB1.out.mono hbw.size)
        have y0 := (hbw1.cell (World.block_lt_of_cell? _ _ y0)).trans y0
        have y1 := (hbw1.cell (World.block_lt_of_cell? _ _ y1)).trans y1
        have y2 := (hbw1.cell (World.block_lt_of_cell? _ _ y2)).trans y2
        have HBw2 := Lib.hid (hbw.trans (HB2.out.mono hbw.size))
        have HEq := Lib.hid (que_eqP (p := (t, n, bs)) (q := (t2, n2, bs2)) (hbv.below HBw2.out) (hbv2.below HBw2.out))
        obtain ⟨av, cv, bbv, obv, rfl, -⟩ := hbv.open
        obtain ⟨av2, cv2, bbv2, obv2, rfl, -⟩ := hbv2.open
        clear hbw hbw1 hbv hbv2 hx hx2
        unfold GotEq at HEq
        by_cases hpq : ((t, n, bs) : Prp) = (t2, n2, bs2)
        · have HX2 : Hid (m[k]? = some (t, n, bs)) := Lib.hid (HX2.out.trans (by rw [hpq]))
          rw [decide_eq_true hpq] at HEq
          clear hpq
          go_wp2_with fail
          refine HEq.out.mono ?_
          rintro e w3 ⟨rfl, hb⟩
          have HB3 := Lib.hid (HBw2.out.trans (hb.mono HBw2.out.size))
          clear hb
          go_wp2_with fail
          go_roundw
          case rel => exact ⟨k + 1, by omega, by go_num, HB3.out, take_both HX.out HX2.out HT.out⟩
          case measure => simp [intOf]; omega
        · have HNE : Hid (decide (l = m) = false) := decide_eq_false (get_ne HX.out HX2.out hpq)
          rw [decide_eq_false hpq] at HEq
          clear hpq
          go_wp2_with fail
          refine HEq.out.mono ?_
          rintro e w3 ⟨rfl, hb⟩
          have HB3 := Lib.hid (HBw2.out.trans (hb.mono HBw2.out.size))
          clear hb
          go_wp2_with fail
          go_ret
          exact ⟨by rw [HNE.out]; rfl, HB3.out⟩
      · obtain rfl : k = l.length := by omega
        have HE : Hid (decide (l = m) = true) := by
          have := HT.out
          rw [List.take_length, HL.out, List.take_length] at this
          exact decide_eq_true this
        go_wp2_with fail
        go_ret
        exact ⟨by rw [HE.out]; rfl, HW.out⟩
  · have HNE : Hid (decide (l = m) = false) := decide_eq_false (fun e => hl (by rw [e]))
    have hb : ((l.length : Int) != (m.length : Int)) = true := by simp; omega
    clear hl
    go_enter Try.func68, Try.ntmps68
    go_wp2_with fail
    go_ret
    exact ⟨by rw [HNE.out]; rfl, Below.refl _ _⟩
theorem que_eqQ {p q : Que} {d1 d2 : Value} {w : World} (h1 : RowsOf PrpR 3 w d1 p.2.2) (h2 : RowsOf PrpR 3 w d2 q.2.2) :
    Calls Try.prog 67 #[.agg #[.int .u64 p.1, .int .u64 p.2.1, d1], .agg #[.int .u64 q.1, .int .u64 q.2.1, d2]] w (GotEq (decide (p = q)) w) := by
  obtain ⟨t, n, bs⟩ := p
  obtain ⟨t2, n2, bs2⟩ := q
  simp only at h1 h2 ⊢
  obtain ⟨a1, c1, b1, o1, rfl, -⟩ := prps_open h1
  obtain ⟨a2, c2, b2, o2, rfl, -⟩ := prps_open h2
  have HB : Hid (Below w.heap.size w ((w.alloc (.cells #[.int .u64 t, .int .u64 n, .slice a1 bs.length c1] 79)).alloc (.cells #[.int .u64 t2, .int .u64 n2, .slice a2 bs2.length c2] 79))) := Lib.hid ((below_alloc2 _).trans ((below_alloc2 _).mono (by simp)))
  have HE := Lib.hid (props_eqf (h1.below PrpR.lasts HB.out) (h2.below PrpR.lasts HB.out))
  clear h1 h2
  unfold GotEq at HE ⊢
  by_cases ht : t = t2
  · subst ht
    have e1 : (t == t) = true := by simp
    by_cases hn : n = n2
    · subst hn
      have e2 : (n == n) = true := by simp
      go_enter Try.func67, Try.ntmps67
      go_wp2_with fail
      refine HE.out.mono ?_
      rintro e w3 ⟨rfl, hb3⟩
      have HB3 := Lib.hid (HB.out.trans (hb3.mono HB.out.size))
      clear hb3
      go_wp2_with fail
      go_ret
      refine ⟨?_, HB3.out⟩
      by_cases hb : bs = bs2
      · subst hb; simp
      · rw [decide_eq_false hb, decide_eq_false (fun e => hb (by injection e with _ e; injection e))]; rfl
    · have e2 : (n == n2) = false := by simpa using hn
      have HNE : Hid (decide ((t, n, bs) = (t, n2, bs2)) = false) := decide_eq_false (fun e => hn (by injection e with _ e; injection e))
      clear hn
      go_enter Try.func67, Try.ntmps67
      go_wp2_with fail
      go_ret
      exact ⟨by rw [HNE.out]; rfl, HB.out⟩
  · have e1 : (t == t2) = false := by simpa using ht
    have HNE : Hid (decide ((t, n, bs) = (t2, n2, bs2)) = false) := decide_eq_false (fun e => ht (by injection e))
    clear ht
    go_enter Try.func67, Try.ntmps67
    go_wp2_with fail
    go_ret
    exact ⟨by rw [HNE.out]; rfl, HB.out⟩

theorem ques_eqf {v1 v2 : Value} {l m : List Que} {w : World} (h1 : RowsOf QueR 3 w v1 l) (h2 : RowsOf QueR 3 w v2 m) :
    Calls Try.prog 66 #[v1, v2, .func (.func 67) #[] #[]] w (GotEq (decide (l = m)) w) := by
  unfold GotEq
  obtain ⟨a, cap, b, off, rfl, hcap, hmx, -, ha, hit⟩ := ques_open h1
  obtain ⟨a2, cap2, b2, off2, rfl, hcap2, hmx2, -, ha2, hit2⟩ := ques_open h2
  unfold maxLen at hmx hmx2
  have A := Lib.hid ha
  have A2 := Lib.hid ha2
  have HIt := Lib.hid hit
  have HIt2 := Lib.hid hit2
  clear h1 h2 ha ha2 hit hit2
  by_cases hl : l.length = m.length
  · have e1 : ((l.length : Int) != (l.length : Int)) = false := by simp
    have HL := Lib.hid hl
    rw [← hl]
    clear hl
    go_enter Try.func66, Try.ntmps66
    go_wp2_with fail
    go_loopw [17] (fun i wr => ∃ k : Nat, k ≤ l.length ∧ i = .int .i64 k ∧ Hid (Below w.heap.size w wr) ∧ Hid (l.take k = m.take k)) (fun i _ => l.length - (intOf i).toNat)
    case atStart => exact ⟨0, by omega, rfl, Below.refl _ _, rfl⟩
    case round =>
      obtain ⟨k, hk, rfl, HW, HT⟩ := hrel
      by_cases hlt : k < l.length
      · obtain rfl := A.out (by omega)
        obtain rfl := A2.out (by have := HL.out; omega)
        obtain ⟨⟨t, n, bs⟩, hx⟩ : ∃ x, l[k]? = some x := ⟨_, List.getElem?_eq_getElem hlt⟩
        obtain ⟨⟨t2, n2, bs2⟩, hx2⟩ : ∃ x, m[k]? = some x := ⟨_, List.getElem?_eq_getElem (by have := HL.out; omega)⟩
        obtain ⟨bv, x0, x1, x2, hbv, -, -⟩ := HIt.out k t n bs hx
        obtain ⟨bv2, y0, y1, y2, hbv2, -, -⟩ := HIt2.out k t2 n2 bs2 hx2
        have HX := Lib.hid hx
        have HX2 := Lib.hid hx2
        have e3 : decide ((k : Int) < (l.length : Int)) = true := decide_eq_true (by omega)
        have hlt2 : k < m.length := by have := HL.out; omega
        have hbw := HW.out
        have x0 := (hbw.cell (World.block_lt_of_cell? _ _ x0)).trans x0
        have x1 := (hbw.cell (World.block_lt_of_cell? _ _ x1)).trans x1
        have x2 := (hbw.cell (World.block_lt_of_cell? _ _ x2)).trans x2
        have HB1 := Lib.hid (below_alloc2 (w := wr) (.cells #[.int .u64 t, .int .u64 n, bv] 79))
        have HB2 := Lib.hid (HB1.out.trans ((below_alloc2 (w := wr.alloc (.cells #[.int .u64 t, .int .u64 n, bv] 79)) (.cells #[.int .u64 t2, .int .u64 n2, bv2] 79)).mono (by simp)))
        have hbw1 := hbw.trans (HB1.out.mono hbw.size)
        have y0 := (hbw1.cell (World.block_lt_of_cell? _ _ y0)).trans y0
        have y1 := (hbw1.cell (World.block_lt_of_cell? _ _ y1)).trans y1
        have y2 := (hbw1.cell (World.block_lt_of_cell? _ _ y2)).trans y2
        have HBw2 := Lib.hid (hbw.trans (HB2.out.mono hbw.size))
        have HEq := Lib.hid (que_eqQ (p := (t, n, bs)) (q := (t2, n2, bs2)) (hbv.below PrpR.lasts HBw2.out) (hbv2.below PrpR.lasts HBw2.out))
        obtain ⟨av, cv, bbv, obv, rfl, -⟩ := prps_open hbv
        obtain ⟨av2, cv2, bbv2, obv2, rfl, -⟩ := prps_open hbv2
        clear hbw hbw1 hbv hbv2 hx hx2
        unfold GotEq at HEq
        by_cases hpq : ((t, n, bs) : Que) = (t2, n2, bs2)
        · have HX2 : Hid (m[k]? = some (t, n, bs)) := Lib.hid (HX2.out.trans (by rw [hpq]))
          rw [decide_eq_true hpq] at HEq
          clear hpq
          go_wp2_with fail
          refine HEq.out.mono ?_
          rintro e w3 ⟨rfl, hb⟩
          have HB3 := Lib.hid (HBw2.out.trans (hb.mono HBw2.out.size))
          clear hb
          go_wp2_with fail
          go_roundw
          case rel => exact ⟨k + 1, by omega, by go_num, HB3.out, take_both HX.out HX2.out HT.out⟩
          case measure => simp [intOf]; omega
        · have HNE : Hid (decide (l = m) = false) := decide_eq_false (get_ne HX.out HX2.out hpq)
          rw [decide_eq_false hpq] at HEq
          clear hpq
          go_wp2_with fail
          refine HEq.out.mono ?_
          rintro e w3 ⟨rfl, hb⟩
          have HB3 := Lib.hid (HBw2.out.trans (hb.mono HBw2.out.size))
          clear hb
          go_wp2_with fail
          go_ret
          exact ⟨by rw [HNE.out]; rfl, HB3.out⟩
      · obtain rfl : k = l.length := by omega
        have HE : Hid (decide (l = m) = true) := by
          have := HT.out
          rw [List.take_length, HL.out, List.take_length] at this
          exact decide_eq_true this
        go_wp2_with fail
        go_ret
        exact ⟨by rw [HE.out]; rfl, HW.out⟩
  · have HNE : Hid (decide (l = m) = false) := decide_eq_false (fun e => hl (by rw [e]))
    have hb : ((l.length : Int) != (m.length : Int)) = true := by simp; omega
    clear hl
    go_enter Try.func66, Try.ntmps66
    go_wp2_with fail
    go_ret
    exact ⟨by rw [HNE.out]; rfl, Below.refl _ _⟩
theorem que_same {v1 v2 : Value} {l m : List Que} {w : World} (h1 : RowsOf QueR 3 w v1 l) (h2 : RowsOf QueR 3 w v2 m) : Calls Try.prog 39 #[v1, v2] w (GotEq (decide (l = m)) w) := by
  have HE := Lib.hid (ques_eqf h1 h2)
  obtain ⟨a, cap, b, off, rfl, -⟩ := ques_open h1
  obtain ⟨a2, cap2, b2, off2, rfl, -⟩ := ques_open h2
  unfold GotEq at HE ⊢
  clear h1 h2
  go_enter Try.func39, Try.ntmps39
  go_wp2_with fail
  refine HE.out.mono ?_
  rintro e w3 ⟨rfl, hb⟩
  have HB := Lib.hid hb
  clear hb
  go_wp2_with fail
  go_ret
  exact ⟨rfl, HB.out⟩
end Go.Proofs.Ytoobcgakainelaa
