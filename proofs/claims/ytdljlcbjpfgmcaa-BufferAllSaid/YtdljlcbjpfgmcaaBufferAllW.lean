/- The walk of the law 'BufferAll': it returns true. Conditions: the arguments read as a number and a list of lists of bytes. -/
import Derived.Test.YtdljlcbjpfgmcaaBufC
namespace Go.Proofs.Ytdljlcbjpfgmcaa
open Go.RowKit Go.Maps

/-- v is a slice of slices of bytes. -/
def Rows2 (w : World) (v : Value) (xss : List (List Int)) : Prop :=
  ∃ a cap b off, v = .slice a xss.length cap ∧ xss.length ≤ cap ∧ cap ≤ maxLen ∧ (a = none → cap = 0) ∧ (0 < xss.length → a = some ⟨b, off, none⟩) ∧ ∀ i, i < xss.length → ∃ vi, w.cell? ⟨b, off + i, none⟩ = some vi ∧ Ints .u8 w vi (xss.getD i [])

def stA (n : Nat) (A : List Int) (fb : Bool) : Bf := ⟨A, n, .map [], if fb then 0 else 10003, 0⟩
theorem stA_fits {n : Nat} {A x : List Int} (h : A.length + x.length ≤ n) : (stA n A true).bytes x = stA n (A ++ x) true :=
  bytes_b_fine rfl (by show ¬ ((n : Int) - A.length < x.length); omega)
theorem stA_long {n : Nat} {A x : List Int} (h : ¬ A.length + x.length ≤ n) : (stA n A true).bytes x = stA n A false :=
  (bytes_b_long rfl (by show (n : Int) - A.length < x.length; omega)).trans rfl
theorem stA_busy {n : Nat} {A x : List Int} : (stA n A false).bytes x = stA n A false := bytes_b_busy (by show (10003 : Int) ≠ 0; decide)
theorem stA_done (n : Nat) (A : List Int) : (stA n A true).done = (A, 0) := rfl
theorem stA_done0 (n : Nat) (A : List Int) : (stA n A false).done = ([], 10003) := rfl

/-- What a store into a row of one's own leaves. -/
theorem own_set {w : World} {B n cap g : Nat} {ys : List Int} (h : w.ownsRow B 5 1 (.slice (some ⟨g, 0, none⟩) n cap) n (ys.map (Value.int .u8))) (j : Nat) (z : Int) :
    (w.setCell ⟨g, j, none⟩ (.int .u8 z)).ownsRow B 5 1 (.slice (some ⟨g, 0, none⟩) n cap) n ((ys.set j z).map (Value.int .u8)) := by
  have := (h.stored j (.int .u8 z)).1
  rw [List.map_set]
  exact this

theorem bytes_same6 {va vb : Value} {l : List Int} {w : World} (h1 : Ints .u8 w va l) (h2 : Ints .u8 w vb l) : Calls Try.prog 25 #[va, vb] w fun e w' => e = .returned (.bool true) ∧ Below w.heap.size w w' := by
  have := ref_bytes va vb l l w h1 h2
  rw [show decide (l = l) = true from decide_eq_true rfl] at this
  exact this

/-- What holds at the loop's head. -/
structure AllInv (w wr : World) (n p m : Nat) (r : Value) (A : List Int) (fb : Bool) (g : Option Nat) : Prop where
  own : wr.ownsRow w.heap.size 5 1 r A.length (A.map (Value.int .u8))
  u8 : U8 A
  buf : Buf w.heap.size wr p m g (stA n A fb)
  apart : Apart r wr p m g
  below : Below w.heap.size w wr

theorem AllInv.turn {w wr w' : World} {n p m : Nat} {r : Value} {A : List Int} {fb : Bool} {g : Option Nat} {S : Nat → Prop} (h : AllInv w wr n p m r A fb g) (ht : Turn wr w' S) (hS : ∀ k, S k → wr.heap.size ≤ k ∨ (¬ foot p m g k ∧ r.ownBlock ≠ some k ∧ w.heap.size ≤ k)) : AllInv w w' n p m r A fb g := by
  have hlt := fun k (e : r.ownBlock = some k) => (h.own.lt k e).2
  refine ⟨ht.own h.own (fun k e s => ?_), h.u8, h.buf.turn ht (fun k f s => ?_), h.apart.later ht.size, ht.below h.below h.below.size (fun k s => ?_)⟩
  · rcases hS k s with h1 | h1
    · have := hlt k e; omega
    · exact h1.2.1 e
  · rcases hS k s with h1 | h1
    · have := h.buf.flt k f; omega
    · exact h1.1 f
  · rcases hS k s with h1 | h1
    · exact Nat.le_trans h.below.size h1
    · exact h1.2.2
theorem AllInv.later {w wr w' : World} {n p m : Nat} {r : Value} {A : List Int} {fb : Bool} {g : Option Nat} (h : AllInv w wr n p m r A fb g) (hb : Below wr.heap.size wr w') : AllInv w w' n p m r A fb g :=
  h.turn (S := fun _ => False) (Turn.of_below hb _) (fun _ s => s.elim)

theorem AllInv.far {w wr : World} {n p m : Nat} {r : Value} {A : List Int} {fb : Bool} {g : Option Nat} (h : AllInv w wr n p m r A fb g) {k : Nat} (hk : wr.heap.size ≤ k) : ¬ foot p m g k ∧ r.ownBlock ≠ some k ∧ w.heap.size ≤ k :=
  ⟨fun f => by have := h.buf.flt k f; omega, fun e => by have := (h.own.lt k e).2; omega, Nat.le_trans h.below.size hk⟩

/-- Bytes written into the buffer, and into all. -/
theorem AllInv.wrote {w wr w2 w4 : World} {n p m : Nat} {r v4 : Value} {A x : List Int} {g g2 : Option Nat} (h : AllInv w wr n p m r A true g) (hx : U8 x) (hb2 : Buf w.heap.size w2 p m g2 (stA n (A ++ x) true)) (ht : Turn wr w2 (foot p m g)) (hg : ∀ k, g2 = some k → g = some k ∨ wr.heap.size ≤ k)
    (ho : w4.ownsRow w.heap.size 5 1 v4 (A.length + x.length) (A.map (Value.int .u8) ++ x.map (Value.int .u8))) (hgr : w2.grownBy w4 r.ownBlock) (hv : v4.ownBlock = r.ownBlock ∨ v4.ownBlock = some w2.heap.size) : AllInv w w4 n p m v4 (A ++ x) true g2 := by
  have hap : Apart r w2 p m g2 := h.apart.step ht.size hg
  have hbl : Below w.heap.size w w2 := ht.below h.below h.below.size (h.buf.from)
  refine ⟨by rw [List.length_append, List.map_append]; exact ho, U8.append h.u8 hx, hb2.turn (S := fun k => r.ownBlock = some k) (Turn.of_grown hgr (fun k e _ => e)) (fun k f e => hap.not k e f), fun k e => ⟨fun f => ?_, (ho.lt k e).2⟩, hbl.grown hgr hbl.size (fun k e => ?_)⟩
  · rcases hv with hv | hv
    · exact hap.not k (by rw [← hv]; exact e) f
    · rw [hv] at e
      injection e with e
      have := hb2.flt k f
      omega
  · have := h.own.lt k e
    exact this.1

set_option maxRecDepth 100000 in
set_option maxHeartbeats 4000000 in
theorem walk_BufferAll (a : Int) (v2 : Value) (xss : List (List Int)) (w : World) (h1 : (Lit.int .u16 a).wf = true) (h2 : Rows2 w v2 xss) :
    Calls Try.prog 12 #[.int .u16 a, v2] w fun e w' => e = .returned (.bool true) ∧ Below w.heap.size w w' := by
  have ha : 0 ≤ a ∧ a < 65536 := by simp [Lit.wf, IntKind.min, IntKind.max, IntKind.signed, IntKind.bits] at h1; omega
  obtain ⟨n, rfl⟩ : ∃ n : Nat, a = n := ⟨a.toNat, by omega⟩
  have hn : n < 65536 := by omega
  clear h1 ha
  obtain ⟨a2, cap2, b2, off2, rfl, hc1, hc2, -, ha2, hcell⟩ := h2
  have A2 := Lib.hid ha2
  have C2 := Lib.hid hcell
  clear ha2 hcell
  by_cases g1 : 60 < xss.length
  · go_enter Try.func12, Try.ntmps12
    go_wp2_with (go_at_call 47; (with_reducible refine (sure03 _).mono ?_); rintro e w' ⟨rfl, hb⟩)
    go_ret
    exact ⟨rfl, hb⟩
  have W0 : IntKind.wrap .i64 (n : Int) = (n : Int) := wrap_small (by omega) (by omega)
  have HN := Lib.hid (buf_new (n := n) (by omega) w)
  go_enter Try.func12, Try.ntmps12
  go_wp2_with fail
  (with_reducible refine HN.out.mono ?_)
  rintro e w1 ⟨p, m, rfl, hbu, hb⟩
  have HI1 : Hid (AllInv w w1 n p m (.slice none 0 0) [] true none) := ⟨World.ownsRow_nil _ _ _ _, (fun z hz => by simp at hz), hbu, (fun k e => by cases e), hb⟩
  clear hbu hb
  go_wp2_with fail
  go_loopw [6, 7, 8] (fun r f i wr => ∃ (k : Nat) (A : List Int) (fb : Bool) (g : Option Nat), k ≤ xss.length ∧ A.length ≤ n ∧ i = .int .i64 k ∧ f = .bool fb ∧ Hid (AllInv w wr n p m r A fb g)) (fun _ _ i _ => xss.length - (intOf i).toNat)
  case atStart => exact ⟨0, [], true, none, by omega, by simp, rfl, rfl, HI1.out⟩
  case round =>
    obtain ⟨k, A, fb, g, hk, hA, rfl, rfl, HI⟩ := hrel
    obtain ⟨ar, capr, rfl⟩ := own_slice HI.out.own
    by_cases hlt : k < xss.length
    case neg =>
      obtain rfl : k = xss.length := by omega
      go_wp2_with (go_at_call 47; (with_reducible refine (sure03 _).mono ?_); rintro e w' ⟨rfl, hb⟩; have HB9 := Lib.hid (HI.out.below.trans (hb.mono HI.out.below.size)); clear hb)
      go_ret
      exact ⟨rfl, HB9.out⟩
    obtain rfl := A2.out (by omega)
    obtain ⟨vi, hvi, hix⟩ := C2.out k hlt
    have hcellr := (HI.out.below.cell (p := ⟨b2, off2 + k, none⟩) (World.block_lt_of_cell? _ _ hvi)).trans hvi
    have HX := Lib.hid hix
    generalize xss.getD k [] = x at HX hix
    obtain ⟨ax, capx, bx, ox, rfl, -⟩ := hix.open
    have hlex := hix.le
    have HCw := Lib.hid hvi
    clear hvi hix
    by_cases g2 : 300 < x.length
    · go_wp2_with (go_at_call 47; (with_reducible refine (sure03 _).mono ?_); rintro e w' ⟨rfl, hb⟩; have HB9 := Lib.hid (HI.out.below.trans (hb.mono HI.out.below.size)); clear hb)
      go_ret
      exact ⟨rfl, HB9.out⟩
    have HU := buf_bytes HI.out.buf (HX.out.below HI.out.below)
    by_cases g3 : fb = true ∧ A.length + x.length ≤ n
    · obtain ⟨rfl, g3⟩ := g3
      rw [stA_fits g3] at HU
      have HU := Lib.hid HU
      have e3 : decide ((A.length : Int) + (x.length : Int) ≤ (n : Int)) = true := decide_eq_true (by omega)
      go_wp2_with fail
      (with_reducible refine HU.out.mono ?_)
      rintro e w2 ⟨rfl, gg, hbu, ht, hg⟩
      have HB2 := Lib.hid (ht.below HI.out.below HI.out.below.size HI.out.buf.from)
      have HO2 := Lib.hid (ht.own HI.out.own HI.out.apart.not)
      have HT2 := Lib.hid ht
      have HG2 := Lib.hid hg
      have HBu2 := Lib.hid hbu
      have hcell2 := (HB2.out.cell (p := ⟨b2, off2 + k, none⟩) (World.block_lt_of_cell? _ _ HCw.out)).trans HCw.out
      clear hbu ht hg
      go_wp2_with (at_builtin; refine wpList_append_sl rfl (.tmp 55) (.tmp 59) _ rfl w.heap.size 5 (.int .u8 0) 1 1 Try.underlying28 info_u8 rfl (by decide) (.slice ar A.length capr) A.length _ rfl HO2.out (.slice ax x.length capx) x.length (x.map (Value.int .u8)) rfl (by simp) (HX.out.below HB2.out).1 (ints_one _ _) (by unfold maxLen; omega) (by omega) HB2.out.size ?_; intro v4 w4 hown4 hgrow4 hv4; have HI4 := Lib.hid (HI.out.wrote HX.out.u8 HBu2.out HT2.out HG2.out hown4 hgrow4 hv4); obtain ⟨a4, cap4, rfl⟩ := own_slice hown4; have HD := buf_done HI4.out.buf; rw [stA_done] at HD; have HD := Lib.hid HD; clear hown4 hgrow4 hv4)
      (with_reducible refine HD.out.mono ?_)
      rintro e w5 ⟨v5, rfl, ho, hb⟩
      have HI5 := Lib.hid (HI4.out.later hb)
      have HS45 : Hid (w4.heap.size ≤ w5.heap.size) := hb.size
      have HO5 := Lib.hid ho
      rw [List.length_append] at ho
      obtain ⟨a5, c5, rfl⟩ := own_slice ho
      have HL5 : Hid (Calls Try.prog 51 #[.pointer (some ⟨p, 0, none⟩)] w5 fun e w' => e = .returned (.int .i64 ((A.length : Int) + (x.length : Int))) ∧ w5 = w') := by
        have := buf_len HI5.out.buf
        rw [show (((stA n (A ++ x) true).bs.length : Nat) : Int) = (A.length : Int) + (x.length : Int) by simp [stA]] at this
        exact this
      have HY5 := Lib.hid (bytes_same6 (Ints.of_own (zs := A ++ x) ho HI4.out.u8.wf) (Ints.of_own (zs := A ++ x) HI5.out.own HI4.out.u8.wf))
      have HO5' : Hid (w5.ownsRow w4.heap.size 5 1 (.slice a5 (A.length + x.length) c5) (A.length + x.length) ((A ++ x).map (Value.int .u8))) := ho
      clear ho hb
      go_wp2_with (first
        | (go_at_call 51; (with_reducible refine HL5.out.mono ?_); rintro e w6 ⟨rfl, rfl⟩)
        | (go_at_call 25; (with_reducible refine HY5.out.mono ?_); rintro e w6 ⟨rfl, hb⟩; have HI6 := Lib.hid (HI5.out.later hb); have HO6 := Lib.hid (own_below HO5'.out hb); have hs46 : Hid (w4.heap.size ≤ w6.heap.size) := (by have := hb.size; exact Nat.le_trans HS45.out this); clear hb))
      go_loopw [11] (fun i wi => ∃ (j : Nat) (ys : List Int), j ≤ A.length + x.length ∧ i = .int .i64 j ∧ Hid (wi.ownsRow w4.heap.size 5 1 (Value.slice a5 (A.length + x.length) c5) (A.length + x.length) (ys.map (Value.int .u8))) ∧ Hid (Turn w6 wi (fun k => (Value.slice a5 (A.length + x.length) c5).ownBlock = some k))) (fun i _ => (A.length + x.length) - (intOf i).toNat)
      case atStart => exact ⟨0, A ++ x, by omega, rfl, HO6.out, Turn.refl _ _⟩
      case round =>
        obtain ⟨j, ys, hj, rfl, HO, HT⟩ := hrel
        by_cases hjl : j < A.length + x.length
        · obtain ⟨gx, rfl, hyl⟩ : ∃ gx, a5 = some ⟨gx, 0, none⟩ ∧ ys.length = A.length + x.length := by
            obtain ⟨hl, ⟨h, h0⟩ | ⟨gx, capq, cur, hv, -⟩⟩ := HO.out
            · omega
            · injection hv with e1 e2 e3
              exact ⟨gx, e1, by simpa using hl⟩
          have hc := HO.out.cellAt j (by omega)
          rw [show (ys.map (Value.int .u8))[j]? = some (.int .u8 (ys.getD j 0)) by rw [List.getElem?_map, List.getD, List.getElem?_eq_getElem (by omega)]; rfl] at hc
          have hf := HO.out.frozenAt j
          have hjl' : (j : Int) < (A.length : Int) + (x.length : Int) := by omega
          generalize ys.getD j 0 = y at hc
          go_wp2_with fail
          go_roundw
          case rel => exact ⟨j + 1, ys.set j _, by omega, by go_num, own_set HO.out j _, HT.out.trans (S' := fun k => (Value.slice (some ⟨gx, 0, none⟩) (A.length + x.length) c5).ownBlock = some k) (turn_put _ _ _ _ rfl) (fun _ _ => id)⟩
          case measure => simp [intOf]; omega
        · obtain rfl : j = A.length + x.length := by omega
          have HI9 := Lib.hid (HI6.out.turn HT.out (fun k hk => .inr (HI4.out.far ((HO5'.out.lt k hk).1))))
          go_wp2_with fail
          go_roundw
          case rel => exact ⟨k + 1, A ++ x, true, gg, by omega, by simp; omega, by go_num, rfl, HI9.out⟩
          case measure => simp [intOf]; omega
    · have hq : ∃ fb', fb' = false ∧ (stA n A fb).bytes x = stA n A false := by
        cases fb with
        | true => exact ⟨false, rfl, stA_long (fun h => g3 ⟨rfl, h⟩)⟩
        | false => exact ⟨false, rfl, stA_busy⟩
      obtain ⟨-, -, hq⟩ := hq
      rw [hq] at HU
      have HU := Lib.hid HU
      have hfb : fb = false ∨ (fb = true ∧ decide ((A.length : Int) + (x.length : Int) ≤ (n : Int)) = false) := by
        cases fb with
        | true => exact .inr ⟨rfl, decide_eq_false (fun h => g3 ⟨rfl, by omega⟩)⟩
        | false => exact .inl rfl
      clear hq g3
      rcases hfb with rfl | ⟨rfl, e3⟩
      all_goals
        go_wp2_with fail
        (with_reducible refine HU.out.mono ?_)
        rintro e w2 ⟨rfl, gg, hbu, ht, hg⟩
        have HI2 : Hid (AllInv w w2 n p m (.slice ar A.length capr) A false gg) := ⟨ht.own HI.out.own HI.out.apart.not, HI.out.u8, hbu, HI.out.apart.step ht.size hg, ht.below HI.out.below HI.out.below.size HI.out.buf.from⟩
        have HD := buf_done hbu
        rw [stA_done0] at HD
        have HD := Lib.hid HD
        clear hbu ht hg
        go_wp2_with fail
        (with_reducible refine HD.out.mono ?_)
        rintro e w5 ⟨v5, rfl, ho, hb⟩
        have HI5 := Lib.hid (HI2.out.later hb)
        obtain ⟨a5, c5, rfl⟩ := own_slice ho
        have HL5 : Hid (Calls Try.prog 51 #[.pointer (some ⟨p, 0, none⟩)] w5 fun e w' => e = .returned (.int .i64 (A.length : Int)) ∧ w5 = w') := buf_len HI5.out.buf
        clear ho hb
        go_wp2_with (go_at_call 51; (with_reducible refine HL5.out.mono ?_); rintro e w6 ⟨rfl, rfl⟩)
        go_loopw [11] (fun i wi => i = .int .i64 0 ∧ wi = w5) (fun i _ => 0)
        case atStart => exact ⟨rfl, rfl⟩
        case round =>
          obtain ⟨rfl, rfl⟩ := hrel
          go_wp2_with fail
          go_roundw
          case rel => exact ⟨k + 1, A, false, gg, by omega, hA, by go_num, rfl, HI5.out⟩
          case measure => simp [intOf]; omega
end Go.Proofs.Ytdljlcbjpfgmcaa
